/-
  A law's row out of its walk, for every program: a law answers true, and leaves what was there as it was ('Below'): then each argument reads behind the call as it did.
  Conditions: the types of the parameters can be read; the specification hands the arguments back as they came.
-/
import Derived.ProofKit
import Derived.SizedLaws
import Derived.Lib.SmallJoins
import Derived.WalkKit
import Derived.Deep.Slices
import Derived.Maps.AppendAt
import Derived.RegionTactic
import Derived.Deep.RegionLaw
import Derived.Lib.Builder
import Derived.Deep.DeepHandedRow
import Derived.Lib.LaidTab
import Derived.Stop.LaidErr
import Derived.MakeChecks
import Derived.Test.YtncmghnhfipklaaGreatDoorRows
namespace Go.Proofs.YtncmghnhfipklaaGreatDoor
open Go.ChangeShapes Go.WideShapes Go.ChangeAt Go.RowKit
theorem trodAll_below{H:Type}{enc:TypeId×Value→H}{P:Program}(hl:laidOutB P=true){W W' :World}(hb:Below W.heap.size W W'):
  ∀ {ts:List TypeId} {vs:List Value} {ds:List (DataW H)} {ps:List MemPlace},ts.all (fun t=>P.readableRec t&&decide (t<P.types.size))=true→
   DataW.TrodAll enc P W 0 (fun _=>true) true ts vs ds ps→(∀ x∈ps,x.block<W.heap.size)→
   ∀ sp:Nat→Bool,(∀ p∈ps,sp p.block=true)→DataW.TrodAll enc P W' 0 sp true ts vs ds ps
 |[],[],[],ps,_,h,_,_,_=>h
 |t::ts,v::vs,d::ds,ps,hr,h,hlt,sp,hsp=>by
  obtain⟨p,q,h1,h2,rfl⟩:=h
  simp only[List.all_cons,Bool.and_eq_true,decide_eq_true_eq]at hr
  refine⟨p,q,?_,trodAll_below hl hb hr.2 h2 (fun x hx=>hlt x (by simp[hx])) sp (fun x hx=>hsp x (by simp[hx])),rfl⟩
  exact WideElems.Trod_stays hl hr.1.1 hr.1.2 h1 (fun x hx=>hb.same (hlt x (by simp[hx]))) (fun x hx=>by simpa using hsp x (by simp[hx]))
 |[],[],_::_,_,_,h,_,_,_=>h.elim
 |[],_::_,_,_,_,h,_,_,_=>h.elim
 |_::_,[],_,_,_,h,_,_,_=>h.elim
 |_::_,_::_,[],_,_,h,_,_,_=>h.elim
end Go.Proofs.YtncmghnhfipklaaGreatDoor
/-
  Slices of structs in memory, as lists of rows of cells: for every program. A slice that is only read.
-/
namespace Go.Proofs.YtncmghnhfipklaaGreatDoor
open Go.RowKit Go.ChangeShapes Go.WideShapes Go.Deep
theorem below_step{a b c:World}(h:Below a.heap.size a b)(k:Below b.heap.size b c):Below a.heap.size a c:=h.trans (k.mono h.size)
theorem bcell{W w1:World}(hb:Below W.heap.size W w1):(∀ b o,b<W.heap.size→w1.cell? ⟨b,o,none⟩=W.cell? ⟨b,o,none⟩)∧(∀ b o,b<W.heap.size→w1.frozen? ⟨b,o,none⟩=W.frozen? ⟨b,o,none⟩):=
 ⟨fun b o h=>hb.cell (p:=⟨b,o,none⟩) h,fun b o h=>hb.frozen (p:=⟨b,o,none⟩) h⟩
theorem ret_int{k:IntKind}{a b:Int}(h:a=b):Ending.returned (.int k a)= .returned (.int k b):=by rw[h]
theorem ret_bool{a b:Bool}(h:a=b):Ending.returned (.bool a)= .returned (.bool b):=by rw[h]
def RowAt(w:World)(b o k:Nat)(row:List Value):Prop:=row.length=k∧ ∀ j,j<k→w.cell? ⟨b,o+j,none⟩=some (row.getD j undef)
def SlR{α:Type}(w:World)(k:Nat)(R:World→List Value→α→Prop)(ao:Option Addr)(n cap:Nat)(xs:List α):Prop:=
 n=xs.length∧n≤cap∧cap≤maxLen∧(ao=none→cap=0)∧
 ∀ i (h:i<xs.length),∃ b off row,ao=some ⟨b,off,none⟩∧b<w.heap.size∧RowAt w b (off+i*k) k row∧R w row xs[i]
def Stays{α:Type}(R:World→List Value→α→Prop):Prop:= ∀ w w' row x,Below w.heap.size w w' →R w row x→R w' row x
theorem RowAt.mono{w w' :World}{b o k:Nat}{row:List Value}(h:RowAt w b o k row)(hb:Below w.heap.size w w')(hlt:b<w.heap.size):RowAt w' b o k row:=
 ⟨h.1,fun j hj=>(hb.cell (p:=⟨b,o+j,none⟩) hlt).trans (h.2 j hj)⟩
theorem SlR.mono{α:Type}{w w' :World}{k:Nat}{R:World→List Value→α→Prop}{ao:Option Addr}{n cap:Nat}{xs:List α}(h:SlR w k R ao n cap xs)(hR:Stays R)(hb:Below w.heap.size w w'):SlR w' k R ao n cap xs:=by
 obtain⟨h1,h2,h3,h5,h4⟩:=h
 refine⟨h1,h2,h3,h5,fun i hi=>?_⟩
 obtain⟨b,off,row,e,hlt,hr,hx⟩:=h4 i hi
 exact⟨b,off,row,e,Nat.lt_of_lt_of_le hlt hb.size,hr.mono hb hlt,hR _ _ _ _ hb hx⟩
def plain{α:Type}(c:α→List Value):World→List Value→α→Prop:=fun _ row x=>row=c x
theorem SlR.len{α:Type}{w:World}{k:Nat}{R:World→List Value→α→Prop}{ao:Option Addr}{n cap:Nat}{xs:List α}(h:SlR w k R ao n cap xs):n=xs.length:=h.1
theorem SlR.le{α:Type}{w:World}{k:Nat}{R:World→List Value→α→Prop}{ao:Option Addr}{n cap:Nat}{xs:List α}(h:SlR w k R ao n cap xs):n≤cap∧cap≤9223372036854775807:=⟨h.2.1,h.2.2.1⟩
def SizeIs(P:Program)(e k:Nat):Prop:= ∀ w,(sizeOf e).run P w= .ok k w
theorem SlR.index{α:Type}{w:World}{k:Nat}{R:World→List Value→α→Prop}{ao:Option Addr}{n cap:Nat}{xs:List α}(h:SlR w k R ao n cap xs){P:Program}{t e:TypeId}(ht:P.underlying t=some (.slice e))(hs:SizeIs P e k){i:Nat}(hi:i<xs.length):
  ∃ b off row,(∀ wx,(Instr.indexAt t (.slice ao n cap) (.int .i64 i)).run P wx= .ok (.pointer (some ⟨b,off+i*k,none⟩)) wx)∧b<w.heap.size∧RowAt w b (off+i*k) k row∧R w row xs[i]:=by
 obtain⟨h1,h2,h3,_,h4⟩:=h
 obtain⟨b,off,row,rfl,hlt,hr,hx⟩:=h4 i hi
 refine⟨b,off,row,fun wx=>?_,hlt,hr,hx⟩
 have hin:(i:Int)<n:=by omega
 have hsw:=hs wx
 simp[Instr.indexAt,run_underlying ht,asIntOf,hsw,Addr.add]
 rw[if_pos (by omega)]
 by_cases e:i*k=0
 ·rw[if_pos e,e];simp
 ·rw[if_neg e]
theorem SlR.index_cut{α:Type}{w:World}{k:Nat}{R:World→List Value→α→Prop}{ao:Option Addr}{n cap:Nat}{xs:List α}(h:SlR w k R ao n cap xs){P:Program}{t e:TypeId}(ht:P.underlying t=some (.slice e))(hs:SizeIs P e k){i m:Nat}(hi:i<m)(hm:m≤xs.length):
  ∃ b off row,(∀ wx,(Instr.indexAt t (.slice ao m cap) (.int .i64 i)).run P wx= .ok (.pointer (some ⟨b,off+i*k,none⟩)) wx)∧b<w.heap.size∧RowAt w b (off+i*k) k row∧R w row (xs[i]'(by omega)):=by
 obtain⟨h1,h2,h3,h5,h4⟩:=h
 have h' :SlR w k R ao m cap (xs.take m):=⟨by simp;omega,by omega,h3,h5,fun j hj=>by
  obtain⟨b,off,row,r⟩:=h4 j (by simp at hj;omega)
  exact⟨b,off,row,by simpa using r⟩⟩
 obtain⟨b,off,row,q1,q2,q3,q4⟩:=h'.index ht hs (i:=i) (by simp;omega)
 exact⟨b,off,row,q1,q2,q3,by simpa using q4⟩
theorem RowAt.two{w:World}{b o:Nat}{x y:Value}(h:RowAt w b o 2 [x,y]):w.cell? ⟨b,o,none⟩=some x∧w.cell? ⟨b,o+1,none⟩=some y:=
 ⟨h.2 0 (by omega),h.2 1 (by omega)⟩
theorem RowAt.three{w:World}{b o:Nat}{x y z:Value}(h:RowAt w b o 3 [x,y,z]):w.cell? ⟨b,o,none⟩=some x∧w.cell? ⟨b,o+1,none⟩=some y∧w.cell? ⟨b,o+1+1,none⟩=some z:=
 ⟨h.2 0 (by omega),h.2 1 (by omega),h.2 2 (by omega)⟩
theorem block_of_cell{w:World}{a:Addr}{v:Value}(h:w.cell? a=some v):a.block<w.heap.size:=World.block_lt_of_cell? w a h
end Go.Proofs.YtncmghnhfipklaaGreatDoor
/-
  A slice that came in, copied by an append to nil: for every program. Condition: its bytes stay within 2^47.
-/
namespace Go.Proofs.YtncmghnhfipklaaGreatDoor
open Go.RowKit
set_option linter.unusedVariables false
set_option linter.unusedSimpArgs false
theorem flat_row{k:Nat}(rows:Nat→List Value)(hk: ∀ i,(rows i).length=k)(n:Nat):
  ((List.range n).flatMap rows).length=n*k∧ ∀ i j,i<n→j<k→((List.range n).flatMap rows)[i*k+j]?=(rows i)[j]?:=by
 induction n with
 |zero=>exact⟨by simp,fun i j h=>absurd h (Nat.not_lt_zero i)⟩
 |succ n ih=>
  obtain⟨h1,h2⟩:=ih
  rw[List.range_succ,List.flatMap_append]
  refine⟨by rw[List.length_append,h1,Nat.succ_mul];simp[hk],fun i j hi hj=>?_⟩
  by_cases e:i=n
  ·subst e
   rw[List.getElem?_append_right (by omega),h1]
   simp
  ·have hi' :i<n:=by omega
   have:i*k+j<n*k:=by
    have h3:(i+1)*k≤n*k:=Nat.mul_le_mul_right k (by omega)
    rw[Nat.add_mul]at h3;omega
   rw[List.getElem?_append_left (by omega)]
   exact h2 i j hi' hj
theorem wp_append_run{P:Program}{w:World}{o:Oper}{a:Act}{K:Act→World→Prop}{Q:Exit→Act→World→Prop}{v y v' :Value}{w' :World}(s x:Operand)(t:TypeId)
  (ho:o.op= .call {callee:= .builtin .append,args:= #[s,x],argTypes:= #[t,t]})(hty:o.type=t)(hs:a.eval s=v)(hx:a.eval x=y)
  (hrun:(Builtin.append_ #[t,t] t #[v,y]).run P w= .ok v' w')(h:K (a.put o.dst v') w'):o.wp P a w K Q:=by
 unfold Oper.wp execOp
 simp only[ho,resolve,invoke,builtin,Sem.run_bind,Sem.run_pure,Result.andThen_ok,List.map_toArray,List.map_cons,List.map_nil,hs,hx,hty,hrun]
 exact h
theorem wpList_append_run{P:Program}{w:World}{ops:Array Oper}{rest:List Oper}{o:Oper}{a:Act}{Q:Exit→Act→World→Prop}{v y v' :Value}{w' :World}(hgd:o.guard=none)(s x:Operand)(t:TypeId)
  (ho:o.op= .call {callee:= .builtin .append,args:= #[s,x],argTypes:= #[t,t]})(hty:o.type=t)(hs:a.eval s=v)(hx:a.eval x=y)
  (hrun:(Builtin.append_ #[t,t] t #[v,y]).run P w= .ok v' w')(h:wpList P ops Q rest (a.put o.dst v') w'):wpList P ops Q (o::rest) a w:=
 wpList_plain hgd fun _ hK=>wp_append_run s x t ho hty hs hx hrun (hK _ _ h)
end Go.Proofs.YtncmghnhfipklaaGreatDoor
/-
  Data in memory with its blocks: a slice's rows, and all that hangs on them, lie in blocks of which F is true; and slices that a call makes itself, by append. For every program. No condition.
-/
namespace Go.Proofs.YtncmghnhfipklaaGreatDoor
open Go.RowKit
set_option linter.unusedVariables false
set_option linter.unusedSimpArgs false
def Same(F G:Nat→Prop)(w w' :World):Prop:=w.heap.size≤w'.heap.size∧ ∀ b,F b→b<w.heap.size→G b∧w'.heap[b]?=w.heap[b]?
def Firm{α:Type}(R:(Nat→Prop)→World→List Value→α→Prop):Prop:= ∀ F G w w' row x,Same F G w w' →R F w row x→R G w' row x
def from_(B:Nat):Nat→Prop:=fun b=>B≤b
def off_(F:Nat→Prop)(o:Value):Nat→Prop:=fun b=>F b∧o.ownBlock≠some b
theorem Same.below{F:Nat→Prop}{w w' :World}(hb:Below w.heap.size w w'):Same F F w w' :=⟨hb.size,fun b hF hlt=>⟨hF,hb.block b hlt⟩⟩
theorem Same.wide{F G:Nat→Prop}{w:World}(h: ∀ b,F b→b<w.heap.size→G b):Same F G w w:=⟨Nat.le_refl _,fun b hF hlt=>⟨h b hF hlt,rfl⟩⟩
theorem Same.setCell{F:Nat→Prop}{w:World}{p:Addr}(u:Value)(h: ¬ F p.block):Same F F w (w.setCell p u):=
 ⟨by simp,fun b hF hlt=>⟨hF,Below.heap_setCell _ _ _ _ (fun e=>h (e▸hF))⟩⟩
theorem Same.refl{F:Nat→Prop}{w:World}:Same F F w w:=⟨Nat.le_refl _,fun b hF hlt=>⟨hF,rfl⟩⟩
theorem Same.alloc{F:Nat→Prop}{w:World}(o:Obj):Same F F w (w.alloc o):=⟨by simp,fun b hF hlt=>⟨hF,Below.heap_alloc _ _ _ hlt⟩⟩
theorem Same.drew{F:Nat→Prop}{w:World}:Same F F w w.drew:=⟨Nat.le_refl _,fun b hF hlt=>⟨hF,rfl⟩⟩
theorem Same.trans{F G H:Nat→Prop}{a b c:World}(h:Same F G a b)(k:Same G H b c):Same F H a c:=
 ⟨Nat.le_trans h.1 k.1,fun i hF hlt=>⟨(k.2 i (h.2 i hF hlt).1 (Nat.lt_of_lt_of_le hlt h.1)).1,((k.2 i (h.2 i hF hlt).1 (Nat.lt_of_lt_of_le hlt h.1)).2).trans (h.2 i hF hlt).2⟩⟩
def SlF{α:Type}(F:Nat→Prop)(w:World)(k:Nat)(R:(Nat→Prop)→World→List Value→α→Prop)(ao:Option Addr)(n cap:Nat)(xs:List α):Prop:=
 n=xs.length∧n≤cap∧cap≤maxLen∧(ao=none→cap=0)∧
 ∀ i (h:i<xs.length),∃ b off row,ao=some ⟨b,off,none⟩∧F b∧b<w.heap.size∧RowAt w b (off+i*k) k row∧R F w row xs[i]
theorem rowAt_same{w w' :World}{b o k:Nat}{row:List Value}(h:RowAt w b o k row)(hb:w'.heap[b]?=w.heap[b]?):RowAt w' b o k row:=
 ⟨h.1,fun j hj=>(World.cell?_of_block (w:=w) (a:=⟨b,o+j,none⟩) hb).trans (h.2 j hj)⟩
theorem SlF.same{α:Type}{F G:Nat→Prop}{w w' :World}{k:Nat}{R:(Nat→Prop)→World→List Value→α→Prop}{ao:Option Addr}{n cap:Nat}{xs:List α}(h:SlF F w k R ao n cap xs)(hR:Firm R)(hs:Same F G w w'):SlF G w' k R ao n cap xs:=by
 obtain⟨h1,h2,h3,h5,h4⟩:=h
 refine⟨h1,h2,h3,h5,fun i hi=>?_⟩
 obtain⟨b,off,row,e,hF,hlt,hr,hx⟩:=h4 i hi
 obtain⟨hG,hb⟩:=hs.2 b hF hlt
 exact⟨b,off,row,e,hG,Nat.lt_of_lt_of_le hlt hs.1,rowAt_same hr hb,hR _ _ _ _ _ _ hs hx⟩
theorem SlF.below{α:Type}{F:Nat→Prop}{w w' :World}{k:Nat}{R:(Nat→Prop)→World→List Value→α→Prop}{ao:Option Addr}{n cap:Nat}{xs:List α}(h:SlF F w k R ao n cap xs)(hR:Firm R)(hb:Below w.heap.size w w'):SlF F w' k R ao n cap xs:=h.same hR (Same.below hb)
theorem SlF.wide{α:Type}{F G:Nat→Prop}{w:World}{k:Nat}{R:(Nat→Prop)→World→List Value→α→Prop}{ao:Option Addr}{n cap:Nat}{xs:List α}(h:SlF F w k R ao n cap xs)(hR:Firm R)(hG: ∀ b,F b→b<w.heap.size→G b):SlF G w k R ao n cap xs:=h.same hR (Same.wide hG)
theorem SlF.toR{α:Type}{F:Nat→Prop}{w:World}{k:Nat}{R:(Nat→Prop)→World→List Value→α→Prop}{ao:Option Addr}{n cap:Nat}{xs:List α}(h:SlF F w k R ao n cap xs):SlR w k (R F) ao n cap xs:=by
 obtain⟨h1,h2,h3,h5,h4⟩:=h
 refine⟨h1,h2,h3,h5,fun i hi=>?_⟩
 obtain⟨b,off,row,e,hF,r⟩:=h4 i hi
 exact⟨b,off,row,e,r⟩
theorem SlF.len{α:Type}{F:Nat→Prop}{w:World}{k:Nat}{R:(Nat→Prop)→World→List Value→α→Prop}{ao:Option Addr}{n cap:Nat}{xs:List α}(h:SlF F w k R ao n cap xs):n=xs.length:=h.1
theorem SlF.le{α:Type}{F:Nat→Prop}{w:World}{k:Nat}{R:(Nat→Prop)→World→List Value→α→Prop}{ao:Option Addr}{n cap:Nat}{xs:List α}(h:SlF F w k R ao n cap xs):n≤cap∧cap≤9223372036854775807:=⟨h.2.1,h.2.2.1⟩
theorem SlF.nil{α:Type}{F:Nat→Prop}{w:World}{k:Nat}{R:(Nat→Prop)→World→List Value→α→Prop}:SlF F w k R none 0 0 ([]:List α):=⟨rfl,Nat.le_refl _,by unfold maxLen;omega,fun _=>rfl,fun i hi=>absurd hi (Nat.not_lt_zero i)⟩
def plainF{α:Type}(c:α→List Value):(Nat→Prop)→World→List Value→α→Prop:=fun _ _ row x=>row=c x
theorem plainF_firm{α:Type}(c:α→List Value):Firm (plainF c):=fun _ _ _ _ _ _ _ h=>h
theorem SlF.cut{α:Type}{F:Nat→Prop}{w:World}{k:Nat}{R:(Nat→Prop)→World→List Value→α→Prop}{b0 off0:Nat}{n cap:Nat}{xs:List α}(h:SlF F w k R (some ⟨b0,off0,none⟩) n cap xs)(lo m cap' :Nat)(hm:lo+m≤n)(hc:m≤cap')(hc' :cap' ≤maxLen):
  SlF F w k R (some ⟨b0,off0+lo*k,none⟩) m cap' ((xs.drop lo).take m):=by
 obtain⟨h1,h2,h3,h5,h4⟩:=h
 have hlen:((xs.drop lo).take m).length=m:=by simp;omega
 refine⟨hlen.symm,hc,hc',by simp,fun i hi=>?_⟩
 rw[hlen]at hi
 obtain⟨b,off,row,e,hF,hlt,hr,hx⟩:=h4 (lo+i) (by omega)
 injection e with e;injection e with e1 e2;subst e1;subst e2
 refine⟨b0,off0+lo*k,row,rfl,hF,hlt,?_,by simpa using hx⟩
 rw[Nat.add_assoc,←Nat.add_mul]
 exact hr
theorem SlF.take{α:Type}{F:Nat→Prop}{w:World}{k:Nat}{R:(Nat→Prop)→World→List Value→α→Prop}{ao:Option Addr}{n cap:Nat}{xs:List α}(h:SlF F w k R ao n cap xs)(m cap' :Nat)(hm:m≤n)(hc:m≤cap')(hc' :cap' ≤cap):
  SlF F w k R ao m cap' (xs.take m):=by
 obtain⟨h1,h2,h3,h5,h4⟩:=h
 have hlen:(xs.take m).length=m:=by simp;omega
 refine⟨hlen.symm,hc,by omega,fun e=>by have:=h5 e;omega,fun i hi=>?_⟩
 rw[hlen]at hi
 obtain⟨b,off,row,e,hF,hlt,hr,hx⟩:=h4 i (by omega)
 exact⟨b,off,row,e,hF,hlt,hr,by simpa using hx⟩
def OwnF{α:Type}(F:Nat→Prop)(B:Nat)(w:World)(e k:Nat)(R:(Nat→Prop)→World→List Value→α→Prop)(o:Value)(xs:List α):Prop:=
 ∃ rs:List Value,w.ownsRow B e k o xs.length rs∧ ∀ i (h:i<xs.length),∃ row,row.length=k∧(∀ j,j<k→rs[i*k+j]?=row[j]?)∧R (off_ F o) w row xs[i]
theorem OwnF.empty{α:Type}{F:Nat→Prop}{B:Nat}{w:World}{e k:Nat}{R:(Nat→Prop)→World→List Value→α→Prop}:OwnF F B w e k R (.slice none 0 0) []:=
 ⟨[],World.ownsRow_nil _ _ _ _,fun i hi=>absurd hi (Nat.not_lt_zero i)⟩
theorem owns_same{w w' :World}{base size n:Nat}{e:TypeId}{v:Value}{xs:List Value}(h:w.ownsRow base e size v n xs)(hs: ∀ g,v.ownBlock=some g→g<w.heap.size→w'.heap[g]?=w.heap[g]?):w'.ownsRow base e size v n xs:=by
 refine⟨h.1,?_⟩
 rcases h.2 with hn|⟨g,cap,cur,rfl,hb',hgg,rest⟩
 ·exact .inl hn
 ·exact .inr ⟨g,cap,cur,rfl,hb',by rw[hs g rfl (Array.getElem?_eq_some_iff.1 hgg).1];exact hgg,rest⟩
theorem OwnF.same{α:Type}{F:Nat→Prop}{B:Nat}{w w' :World}{e k:Nat}{R:(Nat→Prop)→World→List Value→α→Prop}{o:Value}{xs:List α}(h:OwnF F B w e k R o xs)(hR:Firm R)(hsz:w.heap.size≤w'.heap.size)
  (hs: ∀ b,b<w.heap.size→(F b∨o.ownBlock=some b)→w'.heap[b]?=w.heap[b]?):OwnF F B w' e k R o xs:=by
 obtain⟨rs,h1,h2⟩:=h
 refine⟨rs,owns_same h1 (fun g hg hlt=>hs g hlt (Or.inr hg)),fun i hi=>?_⟩
 obtain⟨row,h3,h4,h5⟩:=h2 i hi
 exact⟨row,h3,h4,hR _ _ _ _ _ _ ⟨hsz,fun b hF hlt=>⟨hF,hs b hlt (Or.inl hF.1)⟩⟩ h5⟩
theorem OwnF.below{α:Type}{F:Nat→Prop}{B:Nat}{w w' :World}{e k:Nat}{R:(Nat→Prop)→World→List Value→α→Prop}{o:Value}{xs:List α}(h:OwnF F B w e k R o xs)(hR:Firm R)(hb:Below w.heap.size w w'):OwnF F B w' e k R o xs:=
 h.same hR hb.size fun b hlt _=>hb.block b hlt
theorem OwnF.alloc{α:Type}{F:Nat→Prop}{B:Nat}{w:World}{e k:Nat}{R:(Nat→Prop)→World→List Value→α→Prop}{o:Value}{xs:List α}(h:OwnF F B w e k R o xs)(hR:Firm R)(x:Obj):OwnF F B (w.alloc x) e k R o xs:=
 h.same hR (by simp) fun b hlt _=>Below.heap_alloc _ _ _ hlt
theorem OwnF.base{α:Type}{F:Nat→Prop}{B:Nat}{w:World}{e k:Nat}{R:(Nat→Prop)→World→List Value→α→Prop}{o:Value}{xs:List α}(h:OwnF F B w e k R o xs): ∀ g,o.ownBlock=some g→B≤g:=by
 obtain⟨rs,h1,_⟩:=h
 rcases h1.2 with⟨rfl,_⟩|⟨g,cap,cur,rfl,hg,_⟩
 ·intro g hg;simp[Value.ownBlock]at hg
 ·intro g' hg';simp[Value.ownBlock]at hg';omega
theorem OwnF.slice{α:Type}{F:Nat→Prop}{B:Nat}{w:World}{e k:Nat}{R:(Nat→Prop)→World→List Value→α→Prop}{o:Value}{xs:List α}(h:OwnF F B w e k R o xs): ∃ ra rc,o= .slice ra xs.length rc:=by
 obtain⟨rs,h1,_⟩:=h
 rcases h1.2 with⟨rfl,h0⟩|⟨g,cap,cur,rfl,_⟩
 ·exact⟨_,_,by rw[h0]⟩
 ·exact⟨_,_,rfl⟩
theorem OwnF.snoc{α:Type}{F:Nat→Prop}{B:Nat}{w w' :World}{e k:Nat}{R:(Nat→Prop)→World→List Value→α→Prop}{o o' :Value}{xs:List α}{rs row:List Value}{x:α}(hR:Firm R)
  (h1:w.ownsRow B e k o xs.length rs)(h2: ∀ i (h:i<xs.length),∃ row,row.length=k∧(∀ j,j<k→rs[i*k+j]?=row[j]?)∧R (off_ F o) w row xs[i])
  (hrow:row.length=k)(hx:R (off_ F o) w row x)(hg:w.grownBy w' o.ownBlock)(ho:w'.ownsRow B e k o' (xs.length+1) (rs++row))(hob:o'.ownBlock=o.ownBlock∨o'.ownBlock=some w.heap.size):OwnF F B w' e k R o' (xs++[x]):=by
 have hl:rs.length=xs.length*k:=h1.1
 have hsame:Same (off_ F o) (off_ F o') w w' :=⟨hg.size,fun b hF hlt=>⟨⟨hF.1,by
  rcases hob with e|e
  ·rw[e];exact hF.2
  ·rw[e];intro h;injection h;omega⟩,hg.block b hlt (fun e=>hF.2 e.symm)⟩⟩
 refine⟨rs++row,by simpa using ho,fun i hi=>?_⟩
 simp only[List.length_append,List.length_cons,List.length_nil]at hi
 by_cases e:i=xs.length
 ·subst e
  refine⟨row,hrow,fun j hj=>?_,?_⟩
  ·rw[List.getElem?_append_right (by omega),hl,Nat.add_sub_cancel_left]
  ·simp only[List.getElem_append_right (Nat.le_refl _),Nat.sub_self,List.getElem_cons_zero]
   exact hR _ _ _ _ _ _ hsame hx
 ·obtain⟨r,h3,h4,h5⟩:=h2 i (by omega)
  refine⟨r,h3,fun j hj=>?_,?_⟩
  ·rw[List.getElem?_append_left ?_]
   ·exact h4 j hj
   ·rw[hl]
    have:(i+1)*k≤xs.length*k:=Nat.mul_le_mul_right k (by omega)
    rw[Nat.add_mul]at this;omega
  ·rw[List.getElem_append_left (by omega)]
   exact hR _ _ _ _ _ _ hsame h5
theorem OwnF.done{α:Type}{F G:Nat→Prop}{B:Nat}{w:World}{e k:Nat}{R:(Nat→Prop)→World→List Value→α→Prop}{o:Value}{xs:List α}(h:OwnF F B w e k R o xs)(hR:Firm R)(hk:0<k)(hG: ∀ b,b<w.heap.size→(F b∨B≤b)→G b):
  ∃ ao cap,o= .slice ao xs.length cap∧SlF G w k R ao xs.length cap xs:=by
 obtain⟨rs,h1,h2⟩:=h
 rcases h1.2 with⟨rfl,h0⟩|⟨g,cap,cur,rfl,hg,hh,hnc,hcm,hsz,htk⟩
 ·exact⟨none,0,by rw[h0],by rw[List.eq_nil_of_length_eq_zero h0];exact SlF.nil⟩
 ·refine⟨_,cap,rfl,rfl,hnc,hcm,by simp,fun i hi=>?_⟩
  obtain⟨row,h3,h4,h5⟩:=h2 i hi
  have hglt:g<w.heap.size:=(Array.getElem?_eq_some_iff.1 hh).1
  refine⟨g,0,row,rfl,hG g hglt (Or.inr hg),hglt,⟨h3,fun j hj=>?_⟩,hR _ _ _ _ _ _ (Same.wide fun b hF hlt=>hG b hlt (Or.inl hF.1)) h5⟩
  have hm:i*k+j<xs.length*k:=by
   have h3:(i+1)*k≤xs.length*k:=Nat.mul_le_mul_right k (by omega)
   rw[Nat.add_mul]at h3;omega
  have h6:=h4 j hj
  rw[←htk,List.getElem?_take,if_pos hm]at h6
  have hjl:j<row.length:=by omega
  simp only[World.cell?,hh,Nat.zero_add]
  rw[List.getElem?_eq_getElem hjl]at h6
  simpa[List.getD,List.getElem?_eq_getElem hjl]using h6
theorem wpList_append_F{α:Type}{P:Program}{ops:Array Oper}{rest:List Oper}{o:Oper}{a:Act}{w:World}{Q:Exit→Act→World→Prop}{F:Nat→Prop}{R:(Nat→Prop)→World→List Value→α→Prop}{xs:List α}(hgd:o.guard=none)(s x:Operand)(t:TypeId)
  (ho:o.op= .call {callee:= .builtin .append,args:= #[s,x],argTypes:= #[t,t]})
  (B:Nat)(e:TypeId)(i:TypeInfo)(z:Value)(k bytes:Nat)(ht:P.underlying t=some (.slice e))(hi:P.info? e=some i)(hz:i.zero=some z)
  (hsize:i.size=k)(hby:i.bytes=bytes)(hzs:z.cells.size=k)(hk:0<k)
  (v:Value)(n:Nat)(hs:a.eval s=v)(hown:OwnF F B w e k R v xs)(hn:xs.length=n)(hR:Firm R)(y:α)(row:List Value)
  (ad:Addr)(hx:a.eval x= .slice (some ad) 1 1)(hl:row.length=k)(hnews: ∀ j u,row[j]?=some u→w.cell? (ad.add j)=some u)(h1: ∀ u∈row,u.oneCell' =true)(hy:R (off_ F v) w row y)
  (hbytes:(n+1)*bytes≤140737488355328)(hby0:0<bytes)(hbase:B≤w.heap.size)
  (h: ∀ ra rc w',OwnF F B w' e k R (.slice ra (n+1) rc) (xs++[y])→w.grownBy w' v.ownBlock→Below B w w' →wpList P ops Q rest (a.put o.dst (.slice ra (n+1) rc)) w'):
  wpList P ops Q (o::rest) a w:=by
 subst hn
 have hbase' :=hown.base
 obtain⟨rs,h3,h4⟩:=hown
 have h63:xs.length+1≤maxLen:=by
  unfold maxLen
  have:(xs.length+1)*1≤(xs.length+1)*bytes:=Nat.mul_le_mul_left _ hby0
  omega
 refine wpList_append_own_at w hgd s x t ho B e i z k bytes ht hi hz hsize hby hzs hk v xs.length rs hs h3 ad 1 1 row hx (by omega) hnews h1 h63 hbytes hbase ?_
 intro v' w' hown' hgrow _ hob
 have hO:=OwnF.snoc hR h3 h4 hl hy hgrow hown' hob
 obtain⟨ra,rc,hv⟩:=hO.slice
 rw[List.length_append]at hv
 simp only[List.length_cons,List.length_nil,Nat.zero_add]at hv
 subst hv
 exact h ra rc w' hO hgrow ((Below.refl _ _).grown hgrow hbase hbase')
theorem owns_literal(w:World)(e k:Nat):(w.alloc (.cells #[] e)).ownsRow w.heap.size e k (.slice (some ⟨w.heap.size,0,none⟩) 0 0) 0 []:=
 ⟨by simp,Or.inr ⟨w.heap.size,0, #[],rfl,Nat.le_refl _,(by show(w.heap.push _)[w.heap.size]?=_;simp),Nat.le_refl _,by unfold maxLen;omega,by simp,by simp⟩⟩
end Go.Proofs.YtncmghnhfipklaaGreatDoor
/-
  A law's row out of its walk, where the row lists package-level variables; and what a listed table of strings gives. For every program. No condition but the row's own.
-/
namespace Go.Proofs.YtncmghnhfipklaaGreatDoor
open Go.ChangeShapes Go.WideShapes Go.ChangeAt Go.RowKit
set_option linter.unusedVariables false
def wordsData{H:Type}(xs:List ByteArray):DataW H:= .agg (xs.map fun s=> .lit (.string s.data.toList))
theorem cells_of_words{H:Type}{enc:TypeId×Value→H}{P:Program}{w:World}{base:Nat}{sp:Nat→Bool}{held:Bool}{fuel:Nat}{t e:TypeId}{n:Nat}{cs:List Value}{zs:List ByteArray}{p:List MemPlace}
  (ht:P.underlying t=some (.array n e))(he:P.underlying e=some .string)(hce:P.cellsOf e=1)(hct:P.cellsOf t=n)
  (h:DataW.trod enc P w base sp held fuel t cs=some (wordsData zs,p)):cs=zs.map Value.string:=by
 cases fuel with
 |zero=>simp[DataW.trod]at h
 |succ fuel=>
  simp only[DataW.trod,ht,hce,hct,Nat.mul_one]at h
  split at h
  ·rename_i hl
   obtain⟨xs,hm,hx⟩:=Option.map_eq_some_iff.1 h
   have hxs:xs.map (·.1)=zs.map fun z=>(DataW.lit (.string z.data.toList):DataW H):=by
    have:=congrArg Prod.fst hx
    simpa[wordsData]using this
   have hxl:xs.length=n:=by simpa using Lib.mapM_length hm
   have hzl:zs.length=n:=by
    have:=congrArg List.length hxs
    simp at this
    omega
   apply List.ext_getElem?
   intro i
   by_cases hi:i<n
   ·obtain⟨b,hb,hf⟩:=Lib.mapM_at hm i i (by simp[hi])
    obtain⟨z,hc,rfl,_⟩:=DataW.trod_string he hf
    have h1:cs[i]?=some (.string z):=by
     have:=congrArg (·[0]?) hc
     simpa[List.getElem?_take,List.getElem?_drop]using this
    have h2:(xs.map (·.1))[i]?=some (DataW.lit (.string z.data.toList):DataW H):=by simp[hb]
    rw[hxs]at h2
    simp only[List.getElem?_map,Option.map_eq_some_iff,DataW.lit.injEq,Lit.string.injEq]at h2
    obtain⟨z',hz',hzz⟩:=h2
    have:z' =z:=by
     apply ByteArray.ext
     apply Array.toList_inj.1
     exact hzz
    subst this
    simp[h1,hz']
   ·rw[List.getElem?_eq_none (by omega),List.getElem?_eq_none (by simp;omega)]
  ·cases h
theorem words_of_head{P:Program}{W:World}{name:String}{zs:List ByteArray}{rest:List (String×DataW Unit)}{g:Nat}{t e:TypeId}{n:Nat}
  (hg:P.globalNamed name=some g)(hty:(P.globals[g]?).map (·.type)=some t)(ht:P.underlying t=some (.array n e))(he:P.underlying e=some .string)(hce:P.cellsOf e=1)(hct:P.cellsOf t=n)
  (h:laidMet P ((name,wordsData zs)::rest) W): ∀ i (hi:i<zs.length),W.cell? ⟨g,i,none⟩=some (.string zs[i]):=by
 obtain⟨ps,⟨g',t',cs,fuel,p,q,hg',ht',hvar,hd,_,_⟩,_⟩:=h
 obtain rfl:=Option.some.inj (hg.symm.trans hg')
 obtain rfl:=Option.some.inj (hty.symm.trans ht')
 have hc:=cells_of_words ht he hce hct hd
 intro i hi
 have:=World.var?_cell hg hvar i
 rw[this,←Array.getElem?_toList,hc]
 simp[hi]
def layCells(h:Array Obj)(b:Nat)(cs:Array Value):Array Obj:=h.modify b fun
 | .cells _ t frozen=> .cells cs t frozen
 |o=>o
theorem lawrow_lift{C:Checked}{os:Os}{f:FuncId}{fn:Func}{s:ChangeSpec}{tb:TypeId}{H:Type}{enc:TypeId×Value→H}{F:Stop.Interp}{laid:List (String×DataW Unit)}
  (own:ownKnob C.prog.godebug=none)(started:os.Started)(noInit:C.prog.inits.idxOf? f=none)(hfn:C.prog.funcs[f]?=some fn)
  (hl:laidOutB C.prog=true)(hread:fn.params.toList.all (fun t=>C.prog.readableRec t&&decide (t<C.prog.types.size))=true)
  (hvars:s.vars=[])(hrt:fn.resultTypes= #[tb])(hub:C.prog.underlying tb=some .bool)
  (hspec: ∀ ds:List (DataW H),ds.length=fn.params.toList.length→s.fn H ds={results:=[.lit (.bool true)],args:=ds})
  (witness: ∃ (w:World) (tape:Tape) (i:Input),w.os=os∧(w.forCall tape i).Shaped C.prog∧i.vars=[]∧Input.okWide C.prog (w.forCall tape i) .any w.heap.size f i∧
   (OpenSpec.ofChange s).preRow enc C.prog fn [] false laid (w.forCall tape i).memory i.args∧({}:Assume).holds C.prog (lone (Frame.enter C.prog f i.args .normal) [] (w.forCall tape i)))
  (walk: ∀ (W:World) (base:Nat) (args:Array Value) (ds:List (DataW H)) (ps:List MemPlace),
   (∀ (j:Nat) t v,fn.params[j]?=some t→args[j]?=some v→Value.okWide C.prog W .any base t v)→
   DataW.TrodAll enc C.prog W 0 (fun _=>true) true fn.params.toList args.toList ds ps→
   (∀ x∈ps,x.block<W.heap.size)→
   (DataW.weightsEach C.prog fn.params.toList ds).all (· ≤reachBytes)=true→laidMetH C.prog laid W→
   Calls C.prog f args W fun e W' =>e= .returned (.bool true)∧Below W.heap.size W W'):
  ReturnsInHanded {} C os f .any ((OpenSpec.ofChange s).preRow enc C.prog fn [] false laid) (((OpenSpec.ofChange s).at F).post enc C.prog fn false true false false):=by
 refine returnsInHanded_of_row (C:=C) (s:=OpenSpec.ofChange s) own started noInit hfn witness ?_
 intro W base args ds gs before hval hW _ _ hsz hL _ _
 have hW' :=hW
 obtain⟨p,q,hA,hV,rfl,_,_⟩:=hW
 have hvars' :(OpenSpec.ofChange s).vars=[]:=hvars
 rw[hvars']at hV
 obtain⟨rfl,rfl⟩:=trodVars_none hV
 have hlt: ∀ x∈p,x.block<W.heap.size:=fun x hx=>by simpa using hW'.lt x (by simp[hx])
 have hlen: ∀ (ts:List TypeId) (vs:List Value) (ds:List (DataW H)) (p:List MemPlace),DataW.TrodAll enc C.prog W 0 (fun _=>true) true ts vs ds p→ds.length=ts.length:=by
  intro ts
  induction ts with
  |nil=>intro vs ds p h;cases vs<;>cases ds<;>first|rfl|exact h.elim
  |cons t ts ih=>
   intro vs ds p h
   cases vs with
   |nil=>exact h.elim
   |cons v vs=>
    cases ds with
    |nil=>exact h.elim
    |cons d ds=>
     obtain⟨_,_,_,h2,_⟩:=h
     simp[ih _ _ _ h2]
 have hsz' :(DataW.weightsEach C.prog fn.params.toList ds).all (· ≤reachBytes)=true:=by
  have e:(OpenSpec.ofChange s).bare.plain.varTypes C.prog=[]:=by
   show DataSpec.varTypes _ _=[]
   simp[DataSpec.varTypes,ChangeSpec.plain,OpenSpec.bare,OpenSpec.ofChange,hvars]
  rw[e]at hsz
  simpa using hsz
 refine(walk W base args ds p (fun j t v h1 h2=>hval j t v h1 h2) hA hlt hsz' hL).mono fun e W' ⟨he,hb⟩=>?_
 have hs:=hspec ds (hlen _ _ _ _ hA)
 refine⟨_,he,?_⟩
 show s.post enc C.prog fn false true false false W args _ W'
 refine⟨ds,[],p++[],[],p,[],hW',?_,?_,?_,hb.frame _,fun h=>by cases h⟩
 ·rw[List.append_nil,hs,hrt]
  exact trodAll_mk1 (shut_bool hub true)
 ·rw[List.append_nil,hs]
  exact trodAll_below hl hb hread hA hlt _ (fun x hx=>by simpa using hlt x hx)
 ·rw[hvars,List.append_nil,hs]
  rfl
end Go.Proofs.YtncmghnhfipklaaGreatDoor
/-
  The arguments of a law, opened: what a reading of a type gives, type by type, with what it weighs. For every program. No condition.
-/
namespace Go.Proofs.YtncmghnhfipklaaGreatDoor
open Go.ChangeShapes Go.WideShapes Go.ChangeAt Go.RowKit Go.Joins Go.Deep
set_option linter.unusedVariables false
def under(B:Nat):Nat→Prop:=fun b=>b<B
def Opens(P:Program)(t k:Nat){α:Type}(R:(Nat→Prop)→World→List Value→α→Prop):Prop:=
 P.cellsOf t=k∧0<k∧ ∀ {H:Type} {enc:TypeId×Value→H} (w:World) (n:Nat) (row:List Value) (y:DataW H×List MemPlace),row.length=k→DataW.trod enc P w 0 (fun _=>true) true n t row=some y→
  (∀ p∈y.2,p.block<w.heap.size)→(∀ q∈y.1.weights P t,q≤reachBytes)→ ∃ x,R (under w.heap.size) w row x
def sliceF{α:Type}(k bytes:Nat)(R:(Nat→Prop)→World→List Value→α→Prop):(Nat→Prop)→World→List Value→List α→Prop:=
 fun F w row xs=> ∃ ao n cap,row=[.slice ao n cap]∧SlF F w k R ao n cap xs∧xs.length*bytes≤140737488351232
theorem sliceF_firm{α:Type}{k bytes:Nat}{R:(Nat→Prop)→World→List Value→α→Prop}(hR:Firm R):Firm (sliceF k bytes R):=
 fun F G w w' row xs hs ⟨ao,n,cap,e,h,h8⟩=>⟨ao,n,cap,e,h.same hR hs,h8⟩
def intF:(Nat→Prop)→World→List Value→Int→Prop:=plainF fun x=>[.int .i64 x]
theorem intF_firm:Firm intF:=plainF_firm _
theorem opens_int{P:Program}{t:TypeId}(ht:P.underlying t=some (.int .i64))(hk:P.cellsOf t=1):Opens P t 1 intF:=
 ⟨hk,by omega,fun w n row y hl h _ _=>by
  match row,hl with
  |[c],_=>
   obtain⟨k,e, -, -⟩:=DataW.trod_int ht h
   exact⟨k,e⟩⟩
def strF:(Nat→Prop)→World→List Value→ByteArray→Prop:=fun _ _ row s=>row=[.string s]∧s.size≤140737488351232
theorem opens_string{P:Program}{t:TypeId}(ht:P.underlying t=some .string)(hk:P.cellsOf t=1):Opens P t 1 strF:=
 ⟨hk,by omega,fun w n row y hl h _ hB=>by
  match row,hl with
  |[c],_=>
   obtain⟨s,e,hy,hs⟩:=DataW.trod_string ht h
   refine⟨s,e,?_⟩
   rw[hy]at hB
   have:=hB s.data.toList.length (by simp[DataW.weights])
   simpa[reachBytes]using this⟩
theorem weightsAll_has{H:Type}{P:Program}{e:TypeId}: ∀ {l:List (DataW H)} {d:DataW H},d∈l→ ∀ n∈d.weights P e,n∈DataW.weightsAll P e l
 |x::l,d,hd,n,hn=>by
  simp only[DataW.weightsAll]
  rcases List.mem_cons.1 hd with rfl|hd
  ·exact List.mem_append_left _ hn
  ·exact List.mem_append_right _ (weightsAll_has hd n hn)
theorem weightsEach_has{H:Type}{P:Program}: ∀ {ts:List TypeId} {ds:List (DataW H)} {j:Nat} {t:TypeId} {d:DataW H},ts[j]?=some t→ds[j]?=some d→ ∀ n∈d.weights P t,n∈DataW.weightsEach P ts ds:=fun h1 h2 n hn=>DataW.weights_mem_each h1 h2 n hn
end Go.Proofs.YtncmghnhfipklaaGreatDoor
/-
  What every law of this seat wants of the program at its lifting. No condition.
-/
namespace Go.Proofs.YtncmghnhfipklaaGreatDoor
open Go.ChangeShapes Go.WideShapes Go.ChangeAt Go.RowKit Go.Joins Go.Deep
set_option linter.unusedVariables false
theorem own_knob:ownKnob Tryz.prog.godebug=none:=by kernel_rfl
theorem laid_out:laidOutB Tryz.prog=true:=by kernel_rfl
end Go.Proofs.YtncmghnhfipklaaGreatDoor
/-
  Plain functions of numbers and strings: what values, names and types are refused for.
-/
namespace Go.Proofs.YtncmghnhfipklaaGreatDoor
def firstN(f:Nat→Int):Nat→Int
 |0=>0
 |n+1=>if firstN f n=0 then f n else firstN f n
def AllZ(f:Nat→Int)(k:Nat):Prop:= ∀ j,j<k→f j=0
theorem allZ_zero(f:Nat→Int):AllZ f 0:=fun j h=>absurd h (Nat.not_lt_zero j)
theorem allZ_succ{f:Nat→Int}{k:Nat}(h:AllZ f k)(hk:f k=0):AllZ f (k+1):=fun j hj=>by
 rcases Nat.lt_succ_iff_lt_or_eq.1 hj with h' |rfl
 ·exact h j h'
 ·exact hk
theorem firstN_zero{f:Nat→Int}{n:Nat}(h:AllZ f n):firstN f n=0:=by
 induction n with
 |zero=>rfl
 |succ n ih=>
  have:=ih (fun j hj=>h j (by omega))
  simp[firstN,this,h n (by omega)]
theorem firstN_stays{f:Nat→Int}{k n:Nat}(hk:k≤n)(h:firstN f k≠0):firstN f n=firstN f k:=by
 induction n with
 |zero=>
      obtain rfl:k=0:=by omega
      rfl
 |succ n ih=>
  by_cases e:k=n+1
  ·rw[e]
  ·have:=ih (by omega)
   simp only[firstN]
   rw[if_neg (by rw[this];exact h),this]
theorem firstN_at{f:Nat→Int}{k n:Nat}(h:AllZ f k)(hk:k<n)(hn:f k≠0):firstN f n=f k:=by
 have e:firstN f (k+1)=f k:=by simp[firstN,firstN_zero h]
 rw[firstN_stays (k:=k+1) (by omega) (by rw[e];exact hn),e]
def inB(n lo hi:Int):Bool:=decide (lo≤n∧n≤hi)
theorem inB_true{n lo hi:Int}:inB n lo hi=true↔lo≤n∧n≤hi:=by simp[inB]
theorem inB_false{n lo hi:Int}:inB n lo hi=false↔ ¬ (lo≤n∧n≤hi):=by simp[inB]
def byteAt(s:ByteArray)(j:Nat):Int:=((s.data.toList.getD j 0).toNat:Int)
theorem byteAt_eq(s:ByteArray)(j:Nat)(h:j<s.size):(s[j].toNat:Int)=byteAt s j:=by
 unfold byteAt
 rw[List.getD_eq_getElem?_getD,List.getElem?_eq_getElem (by simpa using h)]
 rfl
def charE(s:ByteArray)(j:Nat):Int:=if(97≤byteAt s j∧byteAt s j≤122)∨(j≠0∧48≤byteAt s j∧byteAt s j≤57)then 0 else 4
def nameE(s:ByteArray):Int:=if 1≤s.size∧s.size≤10 then firstN (charE s) s.size else 1
structure Val where
 kind:Int
 int:Int
 text:ByteArray
def valE(v:Val):Int:=
 if v.kind=1 then(if v.text.size=0 then(if -1125899906842624≤v.int∧v.int≤1125899906842624 then 0 else 2)else 4)
 else if v.kind=2 then(if v.int=0 then(if v.text.size≤20 then 0 else 1)else 4)else 3
structure Fld where
 name:ByteArray
 kind:Int
def fldC(f:Fld):List Value:=[.string f.name,.int .i64 f.kind]
instance :Inhabited Fld:=⟨⟨ByteArray.empty,0⟩⟩
instance :Inhabited Val:=⟨⟨0,0,ByteArray.empty⟩⟩
def sameS(a b:ByteArray):Bool:=a.toList==b.toList
def fldTwice(fs:List Fld)(i:Nat)(k:Nat):Int:=if sameS (fs.getD k default).name (fs.getD i default).name=true then 7 else 0
def fldE(fs:List Fld)(i:Nat):Int:=
 if nameE (fs.getD i default).name=0 then(if inB (fs.getD i default).kind 1 2=true then firstN (fldTwice fs i) i else 3)else nameE (fs.getD i default).name
def typE(nm:ByteArray)(fs:List Fld):Int:=if nameE nm=0 then(if fs.length≤4 then firstN (fldE fs) fs.length else 1)else nameE nm
end Go.Proofs.YtncmghnhfipklaaGreatDoor
