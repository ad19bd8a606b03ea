/-
  Data in memory with its blocks: a slice's rows, and all that hangs on them, lie in blocks of which F is true; and slices that a call makes itself, by append. For every program. No condition.
-/
import Derived.Test.YtpnhkkjjdcjmgaaCopy
import Derived.Maps.AppendAt
import Derived.Lib.Builder
namespace Go.Proofs.Ytpnhkkjjdcjmgaa
open Go.RowKit
set_option linter.unusedVariables false
set_option linter.unusedSimpArgs false
def Same(F G:Nat→Prop)(w w' :World):Prop:=w.heap.size≤w'.heap.size∧ ∀ b,F b→b<w.heap.size→G b∧w'.heap[b]?=w.heap[b]?
def Firm{α:Type}(R:(Nat→Prop)→World→List Value→α→Prop):Prop:= ∀ F G w w' row x,Same F G w w' →R F w row x→R G w' row x
def from_(B:Nat):Nat→Prop:=fun b=>B≤b
def off_(F:Nat→Prop)(o:Value):Nat→Prop:=fun b=>F b∧o.ownBlock≠some b
theorem Same.below{F:Nat→Prop}{w w' :World}(hb:Below w.heap.size w w'):Same F F w w' :=⟨hb.size,fun b hF hlt=>⟨hF,hb.block b hlt⟩⟩
theorem Same.wide{F G:Nat→Prop}{w:World}(h: ∀ b,F b→b<w.heap.size→G b):Same F G w w:=⟨Nat.le_refl _,fun b hF hlt=>⟨h b hF hlt,rfl⟩⟩
theorem Same.setCell{F:Nat→Prop}{w:World}{p:Addr}(u:Value)(h: ¬ F p.block):Same F F w (w.setCell p u):=
 ⟨by simp,fun b hF hlt=>⟨hF,Below.heap_setCell _ _ _ _ (fun e=>h (e▸hF))⟩⟩
theorem Same.refl{F:Nat→Prop}{w:World}:Same F F w w:=⟨Nat.le_refl _,fun b hF hlt=>⟨hF,rfl⟩⟩
theorem Same.alloc{F:Nat→Prop}{w:World}(o:Obj):Same F F w (w.alloc o):=⟨by simp,fun b hF hlt=>⟨hF,Below.heap_alloc _ _ _ hlt⟩⟩
theorem Same.drew{F:Nat→Prop}{w:World}:Same F F w w.drew:=⟨Nat.le_refl _,fun b hF hlt=>⟨hF,rfl⟩⟩
theorem Same.into{F G:Nat→Prop}{w w' :World}(h:Same F F w w')(hFG: ∀ b,F b→b<w.heap.size→G b):Same F G w w' :=⟨h.1,fun b hF hlt=>⟨hFG b hF hlt,(h.2 b hF hlt).2⟩⟩
theorem Same.trans{F G H:Nat→Prop}{a b c:World}(h:Same F G a b)(k:Same G H b c):Same F H a c:=
 ⟨Nat.le_trans h.1 k.1,fun i hF hlt=>⟨(k.2 i (h.2 i hF hlt).1 (Nat.lt_of_lt_of_le hlt h.1)).1,((k.2 i (h.2 i hF hlt).1 (Nat.lt_of_lt_of_le hlt h.1)).2).trans (h.2 i hF hlt).2⟩⟩
def SlF{α:Type}(F:Nat→Prop)(w:World)(k:Nat)(R:(Nat→Prop)→World→List Value→α→Prop)(ao:Option Addr)(n cap:Nat)(xs:List α):Prop:=
 n=xs.length∧n≤cap∧cap≤maxLen∧(ao=none→cap=0)∧
 ∀ i (h:i<xs.length),∃ b off row,ao=some ⟨b,off,none⟩∧F b∧b<w.heap.size∧RowAt w b (off+i*k) k row∧R F w row xs[i]
theorem rowAt_same{w w' :World}{b o k:Nat}{row:List Value}(h:RowAt w b o k row)(hb:w'.heap[b]?=w.heap[b]?):RowAt w' b o k row:=
 ⟨h.1,fun j hj=>(World.cell?_of_block (w:=w) (a:=⟨b,o+j,none⟩) hb).trans (h.2 j hj)⟩
theorem SlF.same{α:Type}{F G:Nat→Prop}{w w' :World}{k:Nat}{R:(Nat→Prop)→World→List Value→α→Prop}{ao:Option Addr}{n cap:Nat}{xs:List α}(h:SlF F w k R ao n cap xs)(hR:Firm R)(hs:Same F G w w'):SlF G w' k R ao n cap xs:=by
 obtain⟨h1,h2,h3,h5,h4⟩:=h
 refine⟨h1,h2,h3,h5,fun i hi=>?_⟩
 obtain⟨b,off,row,e,hF,hlt,hr,hx⟩:=h4 i hi
 obtain⟨hG,hb⟩:=hs.2 b hF hlt
 exact⟨b,off,row,e,hG,Nat.lt_of_lt_of_le hlt hs.1,rowAt_same hr hb,hR _ _ _ _ _ _ hs hx⟩
theorem SlF.below{α:Type}{F:Nat→Prop}{w w' :World}{k:Nat}{R:(Nat→Prop)→World→List Value→α→Prop}{ao:Option Addr}{n cap:Nat}{xs:List α}(h:SlF F w k R ao n cap xs)(hR:Firm R)(hb:Below w.heap.size w w'):SlF F w' k R ao n cap xs:=h.same hR (Same.below hb)
theorem SlF.wide{α:Type}{F G:Nat→Prop}{w:World}{k:Nat}{R:(Nat→Prop)→World→List Value→α→Prop}{ao:Option Addr}{n cap:Nat}{xs:List α}(h:SlF F w k R ao n cap xs)(hR:Firm R)(hG: ∀ b,F b→b<w.heap.size→G b):SlF G w k R ao n cap xs:=h.same hR (Same.wide hG)
theorem SlF.toR{α:Type}{F:Nat→Prop}{w:World}{k:Nat}{R:(Nat→Prop)→World→List Value→α→Prop}{ao:Option Addr}{n cap:Nat}{xs:List α}(h:SlF F w k R ao n cap xs):SlR w k (R F) ao n cap xs:=by
 obtain⟨h1,h2,h3,h5,h4⟩:=h
 refine⟨h1,h2,h3,h5,fun i hi=>?_⟩
 obtain⟨b,off,row,e,hF,r⟩:=h4 i hi
 exact⟨b,off,row,e,r⟩
theorem SlF.len{α:Type}{F:Nat→Prop}{w:World}{k:Nat}{R:(Nat→Prop)→World→List Value→α→Prop}{ao:Option Addr}{n cap:Nat}{xs:List α}(h:SlF F w k R ao n cap xs):n=xs.length:=h.1
theorem SlF.le{α:Type}{F:Nat→Prop}{w:World}{k:Nat}{R:(Nat→Prop)→World→List Value→α→Prop}{ao:Option Addr}{n cap:Nat}{xs:List α}(h:SlF F w k R ao n cap xs):n≤cap∧cap≤9223372036854775807:=⟨h.2.1,h.2.2.1⟩
theorem SlF.nil{α:Type}{F:Nat→Prop}{w:World}{k:Nat}{R:(Nat→Prop)→World→List Value→α→Prop}:SlF F w k R none 0 0 ([]:List α):=⟨rfl,Nat.le_refl _,by unfold maxLen;omega,fun _=>rfl,fun i hi=>absurd hi (Nat.not_lt_zero i)⟩
def plainF{α:Type}(c:α→List Value):(Nat→Prop)→World→List Value→α→Prop:=fun _ _ row x=>row=c x
theorem plainF_firm{α:Type}(c:α→List Value):Firm (plainF c):=fun _ _ _ _ _ _ _ h=>h
theorem slF_of_plain{α:Type}{F:Nat→Prop}{w:World}{k:Nat}{c:α→List Value}{ao:Option Addr}{n cap:Nat}{xs:List α}(h:SlR w k (plain c) ao n cap xs)(hF: ∀ b,b<w.heap.size→F b):SlF F w k (plainF c) ao n cap xs:=by
 obtain⟨h1,h2,h3,h5,h4⟩:=h
 refine⟨h1,h2,h3,h5,fun i hi=>?_⟩
 obtain⟨b,off,row,e,hlt,r⟩:=h4 i hi
 exact⟨b,off,row,e,hF b hlt,hlt,r⟩
theorem SlF.cut{α:Type}{F:Nat→Prop}{w:World}{k:Nat}{R:(Nat→Prop)→World→List Value→α→Prop}{b0 off0:Nat}{n cap:Nat}{xs:List α}(h:SlF F w k R (some ⟨b0,off0,none⟩) n cap xs)(lo m cap' :Nat)(hm:lo+m≤n)(hc:m≤cap')(hc' :cap' ≤maxLen):
  SlF F w k R (some ⟨b0,off0+lo*k,none⟩) m cap' ((xs.drop lo).take m):=by
 obtain⟨h1,h2,h3,h5,h4⟩:=h
 have hlen:((xs.drop lo).take m).length=m:=by simp;omega
 refine⟨hlen.symm,hc,hc',by simp,fun i hi=>?_⟩
 rw[hlen]at hi
 obtain⟨b,off,row,e,hF,hlt,hr,hx⟩:=h4 (lo+i) (by omega)
 injection e with e;injection e with e1 e2;subst e1;subst e2
 refine⟨b0,off0+lo*k,row,rfl,hF,hlt,?_,by simpa using hx⟩
 rw[Nat.add_assoc,←Nat.add_mul]
 exact hr
theorem SlF.take{α:Type}{F:Nat→Prop}{w:World}{k:Nat}{R:(Nat→Prop)→World→List Value→α→Prop}{ao:Option Addr}{n cap:Nat}{xs:List α}(h:SlF F w k R ao n cap xs)(m cap' :Nat)(hm:m≤n)(hc:m≤cap')(hc' :cap' ≤cap):
  SlF F w k R ao m cap' (xs.take m):=by
 obtain⟨h1,h2,h3,h5,h4⟩:=h
 have hlen:(xs.take m).length=m:=by simp;omega
 refine⟨hlen.symm,hc,by omega,fun e=>by have:=h5 e;omega,fun i hi=>?_⟩
 rw[hlen]at hi
 obtain⟨b,off,row,e,hF,hlt,hr,hx⟩:=h4 i (by omega)
 exact⟨b,off,row,e,hF,hlt,hr,by simpa using hx⟩
def OwnF{α:Type}(F:Nat→Prop)(B:Nat)(w:World)(e k:Nat)(R:(Nat→Prop)→World→List Value→α→Prop)(o:Value)(xs:List α):Prop:=
 ∃ rs:List Value,w.ownsRow B e k o xs.length rs∧ ∀ i (h:i<xs.length),∃ row,row.length=k∧(∀ j,j<k→rs[i*k+j]?=row[j]?)∧R (off_ F o) w row xs[i]
theorem OwnF.empty{α:Type}{F:Nat→Prop}{B:Nat}{w:World}{e k:Nat}{R:(Nat→Prop)→World→List Value→α→Prop}:OwnF F B w e k R (.slice none 0 0) []:=
 ⟨[],World.ownsRow_nil _ _ _ _,fun i hi=>absurd hi (Nat.not_lt_zero i)⟩
theorem owns_same{w w' :World}{base size n:Nat}{e:TypeId}{v:Value}{xs:List Value}(h:w.ownsRow base e size v n xs)(hs: ∀ g,v.ownBlock=some g→g<w.heap.size→w'.heap[g]?=w.heap[g]?):w'.ownsRow base e size v n xs:=by
 refine⟨h.1,?_⟩
 rcases h.2 with hn|⟨g,cap,cur,rfl,hb',hgg,rest⟩
 ·exact .inl hn
 ·exact .inr ⟨g,cap,cur,rfl,hb',by rw[hs g rfl (Array.getElem?_eq_some_iff.1 hgg).1];exact hgg,rest⟩
theorem OwnF.same{α:Type}{F:Nat→Prop}{B:Nat}{w w' :World}{e k:Nat}{R:(Nat→Prop)→World→List Value→α→Prop}{o:Value}{xs:List α}(h:OwnF F B w e k R o xs)(hR:Firm R)(hsz:w.heap.size≤w'.heap.size)
  (hs: ∀ b,b<w.heap.size→(F b∨o.ownBlock=some b)→w'.heap[b]?=w.heap[b]?):OwnF F B w' e k R o xs:=by
 obtain⟨rs,h1,h2⟩:=h
 refine⟨rs,owns_same h1 (fun g hg hlt=>hs g hlt (Or.inr hg)),fun i hi=>?_⟩
 obtain⟨row,h3,h4,h5⟩:=h2 i hi
 exact⟨row,h3,h4,hR _ _ _ _ _ _ ⟨hsz,fun b hF hlt=>⟨hF,hs b hlt (Or.inl hF.1)⟩⟩ h5⟩
theorem OwnF.below{α:Type}{F:Nat→Prop}{B:Nat}{w w' :World}{e k:Nat}{R:(Nat→Prop)→World→List Value→α→Prop}{o:Value}{xs:List α}(h:OwnF F B w e k R o xs)(hR:Firm R)(hb:Below w.heap.size w w'):OwnF F B w' e k R o xs:=
 h.same hR hb.size fun b hlt _=>hb.block b hlt
theorem OwnF.alloc{α:Type}{F:Nat→Prop}{B:Nat}{w:World}{e k:Nat}{R:(Nat→Prop)→World→List Value→α→Prop}{o:Value}{xs:List α}(h:OwnF F B w e k R o xs)(hR:Firm R)(x:Obj):OwnF F B (w.alloc x) e k R o xs:=
 h.same hR (by simp) fun b hlt _=>Below.heap_alloc _ _ _ hlt
theorem OwnF.base{α:Type}{F:Nat→Prop}{B:Nat}{w:World}{e k:Nat}{R:(Nat→Prop)→World→List Value→α→Prop}{o:Value}{xs:List α}(h:OwnF F B w e k R o xs): ∀ g,o.ownBlock=some g→B≤g:=by
 obtain⟨rs,h1,_⟩:=h
 rcases h1.2 with⟨rfl,_⟩|⟨g,cap,cur,rfl,hg,_⟩
 ·intro g hg;simp[Value.ownBlock]at hg
 ·intro g' hg';simp[Value.ownBlock]at hg';omega
theorem OwnF.slice{α:Type}{F:Nat→Prop}{B:Nat}{w:World}{e k:Nat}{R:(Nat→Prop)→World→List Value→α→Prop}{o:Value}{xs:List α}(h:OwnF F B w e k R o xs): ∃ ra rc,o= .slice ra xs.length rc:=by
 obtain⟨rs,h1,_⟩:=h
 rcases h1.2 with⟨rfl,h0⟩|⟨g,cap,cur,rfl,_⟩
 ·exact⟨_,_,by rw[h0]⟩
 ·exact⟨_,_,rfl⟩
theorem OwnF.snoc{α:Type}{F:Nat→Prop}{B:Nat}{w w' :World}{e k:Nat}{R:(Nat→Prop)→World→List Value→α→Prop}{o o' :Value}{xs:List α}{rs row:List Value}{x:α}(hR:Firm R)
  (h1:w.ownsRow B e k o xs.length rs)(h2: ∀ i (h:i<xs.length),∃ row,row.length=k∧(∀ j,j<k→rs[i*k+j]?=row[j]?)∧R (off_ F o) w row xs[i])
  (hrow:row.length=k)(hx:R (off_ F o) w row x)(hg:w.grownBy w' o.ownBlock)(ho:w'.ownsRow B e k o' (xs.length+1) (rs++row))(hob:o'.ownBlock=o.ownBlock∨o'.ownBlock=some w.heap.size):OwnF F B w' e k R o' (xs++[x]):=by
 have hl:rs.length=xs.length*k:=h1.1
 have hsame:Same (off_ F o) (off_ F o') w w' :=⟨hg.size,fun b hF hlt=>⟨⟨hF.1,by
  rcases hob with e|e
  ·rw[e];exact hF.2
  ·rw[e];intro h;injection h;omega⟩,hg.block b hlt (fun e=>hF.2 e.symm)⟩⟩
 refine⟨rs++row,by simpa using ho,fun i hi=>?_⟩
 simp only[List.length_append,List.length_cons,List.length_nil]at hi
 by_cases e:i=xs.length
 ·subst e
  refine⟨row,hrow,fun j hj=>?_,?_⟩
  ·rw[List.getElem?_append_right (by omega),hl,Nat.add_sub_cancel_left]
  ·simp only[List.getElem_append_right (Nat.le_refl _),Nat.sub_self,List.getElem_cons_zero]
   exact hR _ _ _ _ _ _ hsame hx
 ·obtain⟨r,h3,h4,h5⟩:=h2 i (by omega)
  refine⟨r,h3,fun j hj=>?_,?_⟩
  ·rw[List.getElem?_append_left ?_]
   ·exact h4 j hj
   ·rw[hl]
    have:(i+1)*k≤xs.length*k:=Nat.mul_le_mul_right k (by omega)
    rw[Nat.add_mul]at this;omega
  ·rw[List.getElem_append_left (by omega)]
   exact hR _ _ _ _ _ _ hsame h5
theorem OwnF.done{α:Type}{F G:Nat→Prop}{B:Nat}{w:World}{e k:Nat}{R:(Nat→Prop)→World→List Value→α→Prop}{o:Value}{xs:List α}(h:OwnF F B w e k R o xs)(hR:Firm R)(hk:0<k)(hG: ∀ b,b<w.heap.size→(F b∨B≤b)→G b):
  ∃ ao cap,o= .slice ao xs.length cap∧SlF G w k R ao xs.length cap xs:=by
 obtain⟨rs,h1,h2⟩:=h
 rcases h1.2 with⟨rfl,h0⟩|⟨g,cap,cur,rfl,hg,hh,hnc,hcm,hsz,htk⟩
 ·exact⟨none,0,by rw[h0],by rw[List.eq_nil_of_length_eq_zero h0];exact SlF.nil⟩
 ·refine⟨_,cap,rfl,rfl,hnc,hcm,by simp,fun i hi=>?_⟩
  obtain⟨row,h3,h4,h5⟩:=h2 i hi
  have hglt:g<w.heap.size:=(Array.getElem?_eq_some_iff.1 hh).1
  refine⟨g,0,row,rfl,hG g hglt (Or.inr hg),hglt,⟨h3,fun j hj=>?_⟩,hR _ _ _ _ _ _ (Same.wide fun b hF hlt=>hG b hlt (Or.inl hF.1)) h5⟩
  have hm:i*k+j<xs.length*k:=by
   have h3:(i+1)*k≤xs.length*k:=Nat.mul_le_mul_right k (by omega)
   rw[Nat.add_mul]at h3;omega
  have h6:=h4 j hj
  rw[←htk,List.getElem?_take,if_pos hm]at h6
  have hjl:j<row.length:=by omega
  simp only[World.cell?,hh,Nat.zero_add]
  rw[List.getElem?_eq_getElem hjl]at h6
  simpa[List.getD,List.getElem?_eq_getElem hjl]using h6
theorem wpList_append_F{α:Type}{P:Program}{ops:Array Oper}{rest:List Oper}{o:Oper}{a:Act}{w:World}{Q:Exit→Act→World→Prop}{F:Nat→Prop}{R:(Nat→Prop)→World→List Value→α→Prop}{xs:List α}(hgd:o.guard=none)(s x:Operand)(t:TypeId)
  (ho:o.op= .call {callee:= .builtin .append,args:= #[s,x],argTypes:= #[t,t]})
  (B:Nat)(e:TypeId)(i:TypeInfo)(z:Value)(k bytes:Nat)(ht:P.underlying t=some (.slice e))(hi:P.info? e=some i)(hz:i.zero=some z)
  (hsize:i.size=k)(hby:i.bytes=bytes)(hzs:z.cells.size=k)(hk:0<k)
  (v:Value)(n:Nat)(hs:a.eval s=v)(hown:OwnF F B w e k R v xs)(hn:xs.length=n)(hR:Firm R)(y:α)(row:List Value)
  (ad:Addr)(hx:a.eval x= .slice (some ad) 1 1)(hl:row.length=k)(hnews: ∀ j u,row[j]?=some u→w.cell? (ad.add j)=some u)(h1: ∀ u∈row,u.oneCell' =true)(hy:R (off_ F v) w row y)
  (hbytes:(n+1)*bytes≤140737488355328)(hby0:0<bytes)(hbase:B≤w.heap.size)
  (h: ∀ ra rc w',OwnF F B w' e k R (.slice ra (n+1) rc) (xs++[y])→w.grownBy w' v.ownBlock→Below B w w' →wpList P ops Q rest (a.put o.dst (.slice ra (n+1) rc)) w'):
  wpList P ops Q (o::rest) a w:=by
 subst hn
 have hbase' :=hown.base
 obtain⟨rs,h3,h4⟩:=hown
 have h63:xs.length+1≤maxLen:=by
  unfold maxLen
  have:(xs.length+1)*1≤(xs.length+1)*bytes:=Nat.mul_le_mul_left _ hby0
  omega
 refine wpList_append_own_at w hgd s x t ho B e i z k bytes ht hi hz hsize hby hzs hk v xs.length rs hs h3 ad 1 1 row hx (by omega) hnews h1 h63 hbytes hbase ?_
 intro v' w' hown' hgrow _ hob
 have hO:=OwnF.snoc hR h3 h4 hl hy hgrow hown' hob
 obtain⟨ra,rc,hv⟩:=hO.slice
 rw[List.length_append]at hv
 simp only[List.length_cons,List.length_nil,Nat.zero_add]at hv
 subst hv
 exact h ra rc w' hO hgrow ((Below.refl _ _).grown hgrow hbase hbase')
theorem run_append_nothing{P:Program}{t e:TypeId}{i:TypeInfo}(ht:P.underlying t=some (.slice e))(hi:P.info? e=some i)(w:World)(vo ao:Option Addr)(cap vc:Nat):
  (Builtin.append_ #[t,t] t #[.slice vo 0 vc,.slice ao 0 cap]).run P w= .ok (.slice vo 0 vc) w:=by
 cases ao<;>cases vo<;>simp[Builtin.append_,run_underlying ht,sizeOf,typeInfo,hi,Builtin.lenOf,Builtin.firstCells,storeCells,loadCells,loadCellsFrom]
theorem run_copy_to{α:Type}{P:Program}{t e:TypeId}{i:TypeInfo}{z:Value}{k bytes:Nat}(ht:P.underlying t=some (.slice e))(hi:P.info? e=some i)(hz:i.zero=some z)
  (hsize:i.size=k)(hby:i.bytes=bytes)(hzs:z.cells.size=k)(hk:0<k){F G:Nat→Prop}{R:(Nat→Prop)→World→List Value→α→Prop}(hR:Firm R)(h1: ∀ F w row x,R F w row x→ ∀ u∈row,u.oneCell' =true)
  {w:World}{ao:Option Addr}{n cap:Nat}{xs:List α}(h:SlF F w k R ao n cap xs)(hbytes:n*bytes≤140737488355328){B:Nat}(hB:B≤w.heap.size)(vo:Option Addr)(hv:w.ownsRow B e k (.slice vo 0 0) 0 [])
  (hG: ∀ b,B≤b→G b)(hFG: ∀ row x,R F w row x→R (off_ G (.slice vo 0 0)) w row x):
  ∃ ao' cap' w',(Builtin.append_ #[t,t] t #[.slice vo 0 0,.slice ao n cap]).run P w= .ok (.slice ao' n cap') w' ∧SlF G w' k R ao' n cap' xs∧Below B w w' :=by
 obtain⟨hn,hcap,hmax,hnil,hrows⟩:=h
 rcases Nat.eq_zero_or_pos n with h0|hpos
 ·subst h0
  have hx:xs=[]:=List.eq_nil_of_length_eq_zero hn.symm
  subst hx
  exact⟨vo,0,w,run_append_nothing ht hi w vo ao cap 0,⟨rfl,Nat.le_refl _,by unfold maxLen;omega,fun _=>rfl,fun i hi=>absurd hi (by simp)⟩,Below.refl _ _⟩
 ·have key: ∀ i:Nat,∃ row:List Value,row.length=k∧(i<n→ ∃ b off,ao=some ⟨b,off,none⟩∧b<w.heap.size∧RowAt w b (off+i*k) k row∧ ∃ hi:i<xs.length,R F w row xs[i]):=by
   intro i
   by_cases hi:i<n
   ·obtain⟨b,off,row,e,hF,hb,hr,hx⟩:=hrows i (by omega)
    exact⟨row,hr.1,fun _=>⟨b,off,e,hb,hr,by omega,hx⟩⟩
   ·exact⟨List.replicate k undef,by simp,fun h=>absurd h hi⟩
  obtain⟨rows,hrw⟩: ∃ rows:Nat→List Value,∀ i,(rows i).length=k∧(i<n→ ∃ b off,ao=some ⟨b,off,none⟩∧b<w.heap.size∧RowAt w b (off+i*k) k (rows i)∧ ∃ hi:i<xs.length,R F w (rows i) xs[i]):=
   ⟨fun i=>Classical.choose (key i),fun i=>Classical.choose_spec (key i)⟩
  obtain⟨hfl,hfi⟩:=flat_row rows (fun i=>(hrw i).1) n
  obtain⟨b,off,hao,hblt,_⟩:=(hrw 0).2 hpos
  subst hao
  have hcell: ∀ i j,i<n→j<k→w.cell? ⟨b,off+(i*k+j),none⟩=some ((rows i).getD j undef):=by
   intro i j hi hj
   obtain⟨b',off',e,_,hr,_⟩:=(hrw i).2 hi
   injection e with e;injection e with e1 e2;subst e1;subst e2
   have:=hr.2 j hj
   rwa[Nat.add_assoc]at this
  have hdm: ∀ m,m<n*k→ ∃ i j,i<n∧j<k∧m=i*k+j:=fun m hm=>⟨m / k,m % k,(Nat.div_lt_iff_lt_mul hk).2 hm,Nat.mod_lt _ hk,by rw[Nat.mul_comm];exact(Nat.div_add_mod m k).symm⟩
  have hrow1: ∀ i,i<n→ ∀ u∈rows i,u.oneCell' =true:=fun i hi u hu=>by
   obtain⟨_,_,_,_,_,_,hx⟩:=(hrw i).2 hi
   exact h1 _ _ _ _ hx u hu
  obtain⟨v',w',hrun,hown,hgrown,hnn,hob⟩:=run_append_own_at (P:=P) w B t t e i z k bytes ht hi hz hsize hby hzs hk (.slice vo 0 0) 0 [] hv
   ⟨b,off,none⟩ n cap ((List.range n).flatMap rows) hfl (fun m u hu=>by
    have hm:m<n*k:=by rw[←hfl];exact(List.getElem?_eq_some_iff.1 hu).1
    obtain⟨i,j,hi,hj,rfl⟩:=hdm m hm
    rw[hfi i j hi hj]at hu
    rw[Go.WideShapes.add_plain,hcell i j hi hj]
    simp[List.getD,hu])
   (fun u hu=>by
    obtain⟨i,hi,hu⟩:=List.mem_flatMap.1 hu
    exact hrow1 i (List.mem_range.1 hi) u hu)
   (by omega) (by rw[Nat.zero_add];exact hbytes) hB
  rw[Nat.zero_add,List.nil_append]at hown
  have hbel:Below B w w' :=(Below.refl _ _).grown hgrown hB (fun g hg=>by
   rcases hv.2 with⟨e,_⟩|⟨g',cap',cur,e,hg',_⟩
   ·injection e with e;subst e;simp[Value.ownBlock]at hg
   ·injection e with e;subst e;simp[Value.ownBlock]at hg;omega)
  rcases hown.2 with⟨_,h0⟩|⟨g,cap',cur,hv',hg,hh,hnc,hcm,hsz,htk⟩
  ·omega
  ·subst hv'
   refine⟨_,_,_,hrun,⟨hn,hnc,hcm,by simp,fun i hi=>?_⟩,hbel⟩
   have hi' :i<n:=by omega
   obtain⟨_,_,_,_,_,hx',hx⟩:=(hrw i).2 hi'
   refine⟨g,0,rows i,rfl,hG g hg,(Array.getElem?_eq_some_iff.1 hh).1,⟨(hrw i).1,fun j hj=>?_⟩,hR _ _ _ _ _ _ ⟨hgrown.size,fun b hb hlt=>⟨hb.1,hgrown.block b hlt (fun e=>hb.2 e.symm)⟩⟩ (hFG _ _ hx)⟩
   have hm:i*k+j<n*k:=by
    have h3:(i+1)*k≤n*k:=Nat.mul_le_mul_right k (by omega)
    rw[Nat.add_mul]at h3;omega
   have h4:=hfi i j hi' hj
   rw[←htk,List.getElem?_take,if_pos hm]at h4
   have hjl:j<(rows i).length:=by rw[(hrw i).1];exact hj
   have e0:0+i*k+j=i*k+j:=by omega
   simp only[World.cell?,hh,e0]
   rw[List.getElem?_eq_getElem hjl]at h4
   simpa[List.getD,List.getElem?_eq_getElem hjl]using h4
theorem owns_literal(w:World)(e k:Nat):(w.alloc (.cells #[] e)).ownsRow w.heap.size e k (.slice (some ⟨w.heap.size,0,none⟩) 0 0) 0 []:=
 ⟨by simp,Or.inr ⟨w.heap.size,0, #[],rfl,Nat.le_refl _,(by show(w.heap.push _)[w.heap.size]?=_;simp),Nat.le_refl _,by unfold maxLen;omega,by simp,by simp⟩⟩
end Go.Proofs.Ytpnhkkjjdcjmgaa
