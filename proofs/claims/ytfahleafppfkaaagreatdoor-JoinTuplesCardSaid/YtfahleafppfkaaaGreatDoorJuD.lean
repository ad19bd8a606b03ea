/-
  Teams of join in own memory: the events chosen as raw rows, the tuples found as rows of numbers.
-/
import Derived.Test.YtfahleafppfkaaaGreatDoorJuB
namespace Go.Proofs.YtfahleafppfkaaaGreatDoor
open Go.RowKit
set_option linter.unusedVariables false
set_option linter.unusedSimpArgs false
structure Tb (F:Nat→Prop) (u:World) (v:GA) (b:Bok) (rule:Nat) (R:Rul) (all:List Eve):Prop where
 env:Env F u
 far: ∀ b,F b→b<u.heap.size
 types:SlF F u 2 typF v.a1 v.n1 v.c1 b.types
 rules:SlF F u 7 rulF v.a2 v.n2 v.c2 b.rules
 alls:SlF (under u.heap.size) u 5 eveF v.a4 v.n4 v.c4 all
 okT: ∀ t∈b.types,typOk t
 okR: ∀ x∈b.rules,RulFit x
 okE: ∀ x∈b.rules,x.etype.size≤maxLen
 okA: ∀ x∈all,eveOk x
 fewA:all.length≤120
 book:bookE b=0
 is:b.rules[rule]?=some R
 evA: ∀ x∈all,eventE b.types x.e x.vals=0
structure Cho (b:Bok) (R:Rul) (all l:List Eve):Prop where
 sub: ∀ x∈l,x∈all
 few:l.length≤R.whens.length
 mis:AllZ (misE b.types R.whens l) l.length
def Rws(u:World)(rows:List (List Value))(l:List Eve):Prop:=rows.length=l.length∧ ∀ i (h:i<rows.length) (h' :i<l.length),eveF (under u.heap.size) u rows[i] l[i]
theorem Rws.nil{u:World}:Rws u [] []:=⟨rfl,fun i h=>by simp at h⟩
theorem Rws.snoc{u:World}{rows:List (List Value)}{l:List Eve}{row:List Value}{x:Eve}(h:Rws u rows l)(hx:eveF (under u.heap.size) u row x):Rws u (rows++[row]) (l++[x]):=by
 refine⟨by simp[h.1],fun i h1 h2=>?_⟩
 have e:=h.1
 by_cases hi:i<rows.length
 ·rw[List.getElem_append_left hi,List.getElem_append_left (by omega)]
  exact h.2 i hi (by omega)
 ·have e1:i=rows.length:=by simp at h1;omega
  subst e1
  rw[List.getElem_append_right (by omega),List.getElem_append_right (by omega)]
  simpa using hx
theorem SlF.turn{α β:Type}{F:Nat→Prop}{w:World}{k:Nat}{R:(Nat→Prop)→World→List Value→α→Prop}{R' :(Nat→Prop)→World→List Value→β→Prop}{ao:Option Addr}{n cap:Nat}{xs:List α}{ys:List β}(h:SlF F w k R ao n cap xs)(hl:ys.length=xs.length)(ht: ∀ i (hx:i<xs.length) (hy:i<ys.length) row,R F w row xs[i]→R' F w row ys[i]):SlF F w k R' ao n cap ys:=by
 obtain⟨h1,h2,h3,h5,h4⟩:=h
 refine⟨h1.trans hl.symm,h2,h3,h5,fun i hi=>?_⟩
 obtain⟨b,off,row,e,f,lt,ra,r⟩:=h4 i (by omega)
 exact⟨b,off,row,e,f,lt,ra,ht i _ hi row r⟩
theorem OwnF.cut{α:Type}{F:Nat→Prop}{B:Nat}{w:World}{e k m rc:Nat}{R:(Nat→Prop)→World→List Value→α→Prop}{ra:Option Addr}{xs:List α}{y:α}(h:OwnF F B w e k R (.slice ra m rc) (xs++[y])):OwnF F B w e k R (.slice ra xs.length rc) xs:=by
 obtain⟨rs,h1,h2⟩:=h
 have hl:(xs++[y]).length=xs.length+1:=by simp
 have h0:=h1.1
 rw[hl]at h0
 refine⟨rs.take (xs.length*k),⟨?_,?_⟩,fun i hi=>?_⟩
 ·rw[List.length_take,h0,Nat.add_mul];omega
 ·rcases h1.2 with⟨_,e0⟩|⟨g,cap,cur,e0,hb,hh,hn,hm,hs,ht⟩
  ·rw[hl]at e0;omega
  ·injection e0 with e1 e2 e3
   subst e1 e2 e3
   refine .inr ⟨g,rc,cur,rfl,hb,hh,by rw[hl]at hn;omega,hm,hs,?_⟩
   rw[←ht,List.take_take,hl,Nat.add_mul]
   congr 1
   omega
 ·obtain⟨row,h3,h4,h5⟩:=h2 i (by rw[hl];omega)
  refine⟨row,h3,fun j hj=>?_,?_⟩
  ·have hm:i*k+j<xs.length*k:=by
    have h6:(i+1)*k≤xs.length*k:=Nat.mul_le_mul_right k (by omega)
    rw[Nat.add_mul]at h6;omega
   rw[List.getElem?_take,if_pos hm]
   exact h4 j hj
  ·rw[List.getElem_append_left hi]at h5
   have e:off_ F (.slice ra xs.length rc)=off_ F (.slice ra m rc):=by unfold off_;cases ra<;>rfl
   rw[e]
   exact h5
def nsF(F:Nat→Prop)(w:World)(row:List Value)(xs:List Int):Prop:= ∃ ao n cap,row=[.slice ao n cap]∧SlF F w 1 intF ao n cap xs
theorem nsF_firm:Firm nsF:=fun F G w w' row x hs ⟨ao,n,cap,h1,h2⟩=>⟨ao,n,cap,h1,h2.same (plainF_firm _) hs⟩
section
variable {g:Nat} {u w:World} {s:PS} {L:List Ent} {e i:Nat} {rows:List (List Value)} {l:List Eve}
theorem same_new{At:PS→World→Prop}(hb:Below u.heap.size u w):Same (under u.heap.size) (under w.heap.size) u w:=⟨hb.size,fun k hk hlt=>⟨Nat.lt_of_lt_of_le hlt hb.size,hb.block k hlt⟩⟩
theorem tup_raw{ch:Value}(M:Mem (StaysB g u) g u w s L)(hi:L[i]?=some (slc u.heap.size e 5 rawF ch rows))(hr:Rws u rows l): ∃ ao cap,ch= .slice ao l.length cap∧SlF (under w.heap.size) w 5 eveF ao l.length cap l:=by
 have hO:OwnF (free_ u w L) u.heap.size w e 5 rawF ch rows:=M.say _ (Mem.of_get hi)
 obtain⟨ao,cap,h1,h2⟩:=hO.done (G:=under w.heap.size) rawF_firm (by omega) (fun b hb _=>hb)
 rw[hr.1]at h1 h2
 refine⟨ao,cap,h1,h2.turn hr.1.symm fun i hx hy row e=>?_⟩
 have e' :row=rows[i]:=e
 rw[e']
 exact eveF_firm _ _ _ _ _ _ (same_new (At:=StaysB g u) M.new) (hr.2 i hx hy)
theorem tup_at{ao:Option Addr}{n cap:Nat}(M:Mem (StaysB g u) g u w s L)(hi:L[i]?=some (slc u.heap.size e 5 rawF (.slice ao n cap) rows))(hr:Rws u rows l):SlF (under w.heap.size) w 5 eveF ao n cap l:=by
 obtain⟨ao',cap',h1,h2⟩:=tup_raw M hi hr
 injection h1 with e1 e2 e3
 subst e1 e2 e3
 exact h2
end
section
variable {F:Nat→Prop} {g zg:Nat} {u w:World} {s:PS} {L:List Ent} {e i j:Nat} {v:GA} {b:Bok} {rule:Nat} {R:Rul} {l all:List Eve} {rows:List (List Value)} {ao:Option Addr} {n cap:Nat} {ov:Value} {t:TypeId}
theorem Tb.tm(T:Tb F u v b rule R all)(hb:Below u.heap.size u w)(hlt:zg<w.heap.size)(hc:w.rangeAt zg 0 [.slice v.a1 v.n1 v.c1,.slice v.a2 v.n2 v.c2,.int .i64 rule,.slice v.a4 v.n4 v.c4,.slice ao n cap,ov])(hS:SlF (under w.heap.size) w 5 eveF ao n cap l)(C:Cho b R all l):
  Tm F w zg ⟨v.a1,v.n1,v.c1,v.a2,v.n2,v.c2,ao,n,cap,v.a4,v.n4,v.c4⟩ ov b rule R l all:=
 {lt:=hlt
  cells:=hc
  env:=T.env.below hb
  far:=fun k hk=>Nat.lt_of_lt_of_le (T.far k hk) hb.size
  types:=T.types.below typF_firm hb
  rules:=T.rules.below rulF_firm hb
  tup:=hS
  alls:=(T.alls.below eveF_firm hb).wide eveF_firm (fun b hb2 _=>Nat.lt_of_lt_of_le hb2 hb.size)
  okT:=T.okT
  okR:=T.okR
  okE:=T.okE
  sub:=C.sub
  okA:=T.okA
  fewA:=T.fewA
  book:=T.book
  is:=T.is
  few:=C.few
  mis:=C.mis
  evA:=T.evA}
theorem Tb.mem(T:Tb F u v b rule R all)(M:Mem (StaysB g u) g u w s L)(hz:L[j]?=some (own zg [.slice v.a1 v.n1 v.c1,.slice v.a2 v.n2 v.c2,.int .i64 rule,.slice v.a4 v.n4 v.c4,.slice ao n cap,ov] t))(hi:L[i]?=some (slc u.heap.size e 5 rawF (.slice ao n cap) rows))(hr:Rws u rows l)(C:Cho b R all l):
  Tm F w zg ⟨v.a1,v.n1,v.c1,v.a2,v.n2,v.c2,ao,n,cap,v.a4,v.n4,v.c4⟩ ov b rule R l all:=
 T.tm M.new (M.lt0 hz) (M.cells_ hz) (tup_at M hi hr) C
theorem Tb.rl(h:Tb F u v b rule R all):rule<b.rules.length∧ ∀ hr:rule<b.rules.length,b.rules[rule]=R:=by
 obtain⟨h1,h2⟩:=List.getElem?_eq_some_iff.1 h.is
 exact⟨h1,fun _=>h2⟩
theorem Tb.zero(h:Tb F u v b rule R all):ruleE b.types R=0:=by
 obtain⟨h1,h2⟩:=h.rl
 have:=rule_zero h.book h1
 rwa[h2 h1]at this
theorem takes_when{b:Bok}{r:Nat}{x:Eve}(h0:bookE b=0)(hr:r<b.rules.length)(hk:l.length<b.rules[r].whens.length)(hm:AllZ (misE b.types b.rules[r].whens l) l.length)(hx:eventE b.types x.e x.vals=0)(ht: ∀ y∈l,eventE b.types y.e y.vals=0):
  takesE b r 0 l.length x l=(takenB b.types b.rules[r].whens l x (b.rules[r].whens.getD l.length pat0),0):=by
 rw[takes_e3 h0 (by omega) (by simpa using hr)]
 have hz:AllZ (evE b.types (x::l)) (l.length+1):=fun i hi=>by
  rw[evE_at (by simpa using hi)]
  match i with
  |0=>exact hx
  |i+1=>exact ht _ (List.getElem_mem (by omega))
 have:=takesR_end (ts:=b.types) (R:=b.rules[r]) (part:=0) (k:=(l.length:Int)) (x:=x) (known:=l) ⟨by omega,by show(l.length:Int)<(b.rules[r].whens.length:Int);omega⟩ hz rfl hm
 exact this
theorem Tb.takes(T:Tb F u v b rule R all)(hb:Below u.heap.size u w)(hS:SlF (under w.heap.size) w 5 eveF ao n cap l)(C:Cho b R all l)(hk:l.length<R.whens.length){x:Eve}{p:Option Addr}{q r:Nat}(hx:x∈all)(hxv:SlF (under u.heap.size) u 3 (plainF valC) p q r x.vals):
  Calls Tryz.prog 37 #[.agg #[.slice v.a1 v.n1 v.c1,.slice v.a2 v.n2 v.c2],.int .i64 rule,.int .i64 0,.int .i64 l.length,.agg #[.int .i64 x.e.number,.int .i64 x.e.type,.int .i64 x.e.start,.int .i64 x.e.stop,.slice p q r],.slice ao n cap] w fun e w' =>e= .returned (.tuple #[.bool (takenB b.types R.whens l x (R.whens.getD l.length pat0)),.int .i64 0])∧Below w.heap.size w w' :=by
 obtain⟨h1,h2⟩:=T.rl
 obtain⟨h3,h4⟩:=rule_few T.zero
 have hn:n=l.length:=hS.1
 have hpos:0<w.heap.size:=by
  have:=T.rules.2.2.2.2 rule h1
  obtain⟨b1,_,_,_,hF,hlt,_⟩:=this
  have:=hb.size
  omega
 have e:=takes_any (Nat.lt_of_lt_of_le hpos (Nat.le_refl _)) (T.env.below hb) (fun k hk=>Nat.lt_of_lt_of_le (T.far k hk) hb.size) b v.a1 v.n1 v.c1 v.a2 v.n2 v.c2 (T.types.below typF_firm hb) (T.rules.below rulF_firm hb) T.okT T.okR T.okE x p q r ((hxv.below (plainF_firm _) hb).wide (plainF_firm _) (fun c hc _=>Nat.lt_of_lt_of_le hc hb.size)) (T.okA _ hx) ao n cap l hS (fun y hy=>T.okA _ (C.sub _ hy)) (by omega) rule 0 l.length
 rw[takes_when T.book h1 (by rw[h2 h1];exact hk) (by rw[h2 h1];exact C.mis) (T.evA _ hx) (fun y hy=>T.evA _ (C.sub _ hy)),h2 h1]at e
 exact e
theorem Cho.snoc{x:Eve}(C:Cho b R all l)(hx:x∈all)(hk:l.length<R.whens.length)(ht:takenB b.types R.whens l x (R.whens.getD l.length pat0)=true):Cho b R all (l++[x]):=by
 refine⟨fun y hy=>?_,by simp;omega,fun i hi=>?_⟩
 ·rcases List.mem_append.1 hy with h|h
  ·exact C.sub y h
  ·rw[List.mem_singleton.1 h];exact hx
 ·unfold misE
  by_cases h:i<l.length
  ·have:=C.mis i h
   unfold misE at this
   rw[show(l++[x]).getD i default=l.getD i default by simp[List.getD,List.getElem?_append_left h]]
   exact this
  ·have e1:i=l.length:=by simp at hi;omega
   subst e1
   rw[show(l++[x]).getD l.length default=x by simp[List.getD]]
   unfold takenB at ht
   simp only[Bool.and_eq_true]at ht
   rw[if_pos ht.1]
end
section
variable {P:Program} {dst:Option Tmp} {oty:TypeId} {pos:String} {after:Array Edge} {g:Option (Nat×Bool)} {l:List Value} {ds:List Deferred} {Q:Exit→Act→World→Prop} {K:Act→World→Prop}
variable {At:PS→World→Prop} {b:Nat} {u w:World} {s:PS} {L:List Ent} {ty j:Nat}
theorem q_rowv(M:Mem At b u w s L){e:Nat}{v:Value}[hy:Nth l j v][h1:OneC v][hT:RowI P ty e 1]{F:Nat→List Value}[hd: ∀ q,PutI l dst (.slice (some ⟨q,0,none⟩) 1 1) (F q)](h: ∀ q w',Mem At b u w' s (own q [v] e::L)→K ⟨(F q).toArray,ds⟩ w'):OWP P ⟨dst,.buildSlice ty 1 #[(0,.tmp j)],oty,pos,after,g⟩ ⟨l.toArray,ds⟩ w K Q:=
 owp_of (op_build2 M hT.row _ rfl _ (eval_tmp hy.nth) (cells_one h1.one) (fun q w' M' =>by rw[(hd q).put];exact h q w' M'))
theorem Mem.cutS{α:Type}{R:(Nat→Prop)→World→List Value→α→Prop}(hR:Firm R){e k i m rc:Nat}{ra:Option Addr}{xs:List α}{y:α}(M:Mem At b u w s L)(hi:L[i]?=some (slc u.heap.size e k R (.slice ra m rc) (xs++[y]))):Mem At b u w s (L.set i (slc u.heap.size e k R (.slice ra xs.length rc) xs)):=
 M.alter _ hi (slc_firm hR _ _) (fun z hz=>by cases ra<;>exact hz) (fun F G hFG _ hO=>by
  have h2:OwnF G u.heap.size w e k R (.slice ra m rc) (xs++[y]):=by
   obtain⟨rs,g1,g2⟩:=(hO:OwnF F u.heap.size w e k R (.slice ra m rc) (xs++[y]))
   exact⟨rs,g1,fun i hi=>by
    obtain⟨r,k3,k4,k5⟩:=g2 i hi
    exact⟨r,k3,k4,hR _ _ _ _ _ _ (Same.wide fun k hk _=>⟨hFG k hk.1,hk.2⟩) k5⟩⟩
  exact h2.cut)
theorem Mem.sink{e1 e2 e3 x:Ent}(M:Mem At b u w s (x::e1::e2::e3::L)):Mem At b u w s (e1::e2::e3::x::L):=M.perm ((List.perm_middle (l₁:=[e1,e2,e3])).symm)
theorem Mem.rise{e1 e2 e3 x:Ent}(M:Mem At b u w s (e1::e2::e3::x::L)):Mem At b u w s (x::e1::e2::e3::L):=M.perm (List.perm_middle (l₁:=[e1,e2,e3]))
end
theorem addL_len(ts:List Typ)(R:Rul)(all:List Eve)(h:all.length≤120): ∀ n l,(addL ts R all n l).length≤120^n
 |0,l=>by unfold addL;split<;>simp
 |n+1,l=>by
  unfold addL
  have: ∀ k:List Eve,(k.flatMap fun x=>if stepB ts R l x=true then addL ts R all n (l++[x])else []).length≤k.length*120^n:=by
   intro k
   induction k with
   |nil=>simp
   |cons x k ih=>
    rw[List.flatMap_cons,List.length_append,List.length_cons,Nat.add_mul]
    have:(if stepB ts R l x=true then addL ts R all n (l++[x])else []).length≤120^n:=by
     split
     ·exact addL_len ts R all h n _
     ·simp
    omega
  refine Nat.le_trans (this all) ?_
  rw[Nat.pow_succ,Nat.mul_comm]
  exact Nat.mul_le_mul_left _ h
theorem flat_snoc{α:Type}{all:List Eve}{f:Eve→List α}{j:Nat}(h:j<all.length):(all.take (j+1)).flatMap f=(all.take j).flatMap f++f all[j]:=by
 rw[List.take_add_one,List.getElem?_eq_getElem h,List.flatMap_append]
 simp
theorem flat_le{α:Type}{all:List Eve}{f:Eve→List α}(j:Nat):((all.take j).flatMap f).length≤(all.flatMap f).length:=by
 have h:all.flatMap f=(all.take j).flatMap f++(all.drop j).flatMap f:=by rw[←List.flatMap_append,List.take_append_drop]
 rw[h,List.length_append];omega
end Go.Proofs.YtfahleafppfkaaaGreatDoor
/-
  Are all of a team within their windows? Printed by jtw.py.
-/
namespace Go.Proofs.YtfahleafppfkaaaGreatDoor
open Go.RowKit
set_option linter.unusedVariables false
set_option linter.unusedSimpArgs false
theorem countP_snoc{l:List Eve}{f:Eve→Bool}{j:Nat}(h:j<l.length):(l.take (j+1)).countP f=(l.take j).countP f+(if f l[j]=true then 1 else 0):=by
 rw[List.take_add_one,List.getElem?_eq_getElem h,List.countP_append]
 exact congrArg ((l.take j).countP f+ ·) (by rw[Option.toList_some,List.countP_singleton])
theorem lastE_ge{l:List Eve}(h: ∀ x∈l,0≤x.e.stop∧x.e.stop≤1099511627776):0≤lastE l∧lastE l≤1099511627776:=by
 unfold lastE
 have: ∀ (l:List Eve) (n:Int),(∀ x∈l,0≤x.e.stop∧x.e.stop≤1099511627776)→0≤n∧n≤1099511627776→0≤l.foldl (fun n x=>if n<x.e.stop then x.e.stop else n) n∧l.foldl (fun n x=>if n<x.e.stop then x.e.stop else n) n≤1099511627776:=by
  intro l
  induction l with
  |nil=>intro n _ hn;exact hn
  |cons x l ih=>
   intro n h hn
   refine ih _ (fun y hy=>h y (List.mem_cons_of_mem _ hy)) ?_
   have:=h x (List.mem_cons_self ..)
   show 0≤(if n<x.e.stop then x.e.stop else n)∧(if n<x.e.stop then x.e.stop else n)≤1099511627776
   split<;>omega
 exact this l 0 h (by omega)
section
variable {F:Nat→Prop} {w0:World} {zg:Nat} {v:GA} {ov:Value} {b:Bok} {rule:Nat} {R:Rul} {l all:List Eve}
set_option maxRecDepth 8000 in
set_option maxHeartbeats 8000000 in
theorem windowsJ_any(G:Tm F w0 zg v ov b rule R l all)(hfull:l.length=R.whens.length):
  Calls Tryz.prog 34 #[.pointer (some ⟨zg,0,none⟩)] w0 fun e w' =>e= .returned (.bool (windowsB all R.whens l))∧Below w0.heap.size w0 w' :=by
 have M:=Mem.begin G.lt ⟨0,0⟩
 obtain⟨cr,or,b1,m1,e1,b2,m2,e2,b3,m3,e3,b4,m4,e4,b6,m6,e6,hixr,hRr,Y1,Y4⟩:=G.rule0
 have HR1:Hid (∀ wx,Below w0.heap.size w0 wx→wx.cell? ⟨cr,or+1,none⟩=some (.slice b1 m1 e1)):=fun wx hb=>(hRr wx hb) 1 _ rfl
 have HG1:=Lib.hid (G.cell (i:=1) rfl)
 have HG2:=Lib.hid (G.cell (i:=2) rfl)
 have HG3:=Lib.hid (G.cell (i:=3) rfl)
 have HG4:=Lib.hid (G.cell (i:=4) rfl)
 have HY1:=Lib.hid Y1
 have hle1:=Y1.le
 have N1:Hid (m1=R.whens.length):=Y1.len
 have HX3:=Lib.hid G.tup
 have hle3:=G.tup.le
 have N3:Hid (v.n3=l.length):=G.tup.len
 have HX4:=Lib.hid G.alls
 have hle4:=G.alls.le
 have N4:Hid (v.n4=all.length):=G.alls.len
 have hn4:v.n4≤120:=by have:=G.alls.len;have:=G.fewA;omega
 have HS:Hid (∀ x∈l,0≤x.e.stop∧x.e.stop≤1099511627776):=fun x hx=>(spanE_zero (span_of (G.evA _ (G.sub _ hx)))).2.1
 have HFU:=Lib.hid hfull
 have HBS:Hid (∀ i (hi:i<R.whens.length) (hl:i<l.length),winB (lastE l) (numE l) all R.whens[i] l[i]=false→windowsB all R.whens l=false):=fun i hi hl h=>List.all_eq_false.2 ⟨(R.whens[i],l[i]),by
  have hz:i<(R.whens.zip l).length:=by rw[List.length_zip];omega
  have:=List.getElem_mem hz
  rwa[List.getElem_zip]at this,by simp[h]⟩
 have HBE:Hid ((∀ i (hi:i<R.whens.length) (hl:i<l.length),winB (lastE l) (numE l) all R.whens[i] l[i]=true)→windowsB all R.whens l=true):=fun h=>by
  refine List.all_eq_true.2 fun z hz=>?_
  obtain⟨i,hi,rfl⟩:=List.mem_iff_getElem.1 hz
  have hi' :=hi
  rw[List.length_zip]at hi'
  rw[List.getElem_zip]
  exact h i (by omega) (by omega)
 clear G Y1 Y4 hRr
 generalize windowsB all R.whens l=T at HBS HBE ⊢
 go_enter Tryz.func34,Tryz.ntmps34
 go_wp2_with (with_reducible refine wC (HG4.out _ M.new) ?_)
 go_loopg [3,4,18] v.n3 (fun f n m i wr=> ∃ (j:Nat),j+f=v.n3∧n= .int .i64 (lastE (l.take j))∧m= .int .i64 (numE (l.take j))∧i= .int .i64 j∧Mem (StaysB zg w0) zg w0 wr ⟨0,0⟩ [])
 case atStart=>exact⟨0,by omega,rfl,rfl,rfl,M⟩
 case round=>
  clear M
  obtain⟨j,hj,rfl,rfl,rfl,M⟩:=hrel
  by_cases hlt:j<v.n3
  ·have hal:j<l.length:=by have:=N3.out;omega
   obtain⟨cx,ox,rowx,hixx, -,hrrx,hwx⟩:=SlF.rowAt (P:=Tryz.prog) HX3.out eveF_firm Tryz.underlying26 size_eve (i:=j) hal
   obtain⟨px,qx,rx,ex,ux⟩:=hrrx
   subst ex
   have HRX:=Lib.hid (fun wx hb=>(hwx wx hb).1)
   have HLS:Hid (lastE (l.take (j+1))=_):=lastE_snoc hal
   have HNS:Hid (numE (l.take (j+1))=_):=numE_snoc hal
   clear hwx ux
   generalize l[j]=x at HRX HLS HNS
   generalize lastE (l.take j)=ln at HLS ⊢
   generalize numE (l.take j)=nn at HNS ⊢
   clear hal
   by_cases h1:ln<x.e.stop<;>by_cases h2:nn<x.e.number
   all_goals
    go_wp2_with (with_reducible (first|(refine wV M ?_;clear M;intro zX w M)|(refine wS M ?_;clear M;intro w M)|refine wA (HRX.out _ M.new) ?_))
    ((refine wp_region_calm M (by kernel_rfl) (by kernel_rfl) ?_);(repeat((with_reducible refine c_list rfl fun K hK=>?_);(first|(refine c_load (l' :=?_) ⟨_,M⟩ (fun w M=>?_) ?_;rotate_left;focus((refine q_get M (by exact rfl) ?_);refine⟨rfl,?_⟩;with_reducible rfl))|(refine c_pure (v:=?_) (fun w=>?_) ?_;rotate_left;focus(go_simp;try with_reducible rfl)));(try go_simp);with_reducible refine hK _ ?_;clear hK K));(refine wpQuiet_nil ?_);clear M;intro w M)
    go_wp2_with (with_reducible (first|refine wq M ?_|(refine wS M ?_;clear M;intro w M)|(refine wV M ?_;clear M;intro z w M)|(refine wR M ?_;clear M;intro q w M)))
   all_goals
    go_roundg (v.n3 - (j+1))
    case measure=>omega
    case rel=>exact⟨j+1,by omega,by rw[HLS.out];first|rfl|(congr 1;(repeat' split)<;>omega),by rw[HNS.out];first|rfl|(congr 1;(repeat' split)<;>omega),by go_num,M.drop⟩
  ·have hje:l.take j=l:=List.take_of_length_le (by have:=N3.out;omega)
   rw[hje]
   have hlB:=lastE_ge HS.out
   clear hje
   generalize lastE l=last at HBS HBE hlB ⊢
   generalize numE l=top at HBS HBE ⊢
   go_wp2_with (with_reducible (first|refine wq M ?_|(refine wS M ?_;clear M;intro w M)|(refine wV M ?_;clear M;intro z w M)|(refine wR M ?_;clear M;intro q w M)))
   ((refine wp_region_calm M (by kernel_rfl) (by kernel_rfl) ?_);(repeat((with_reducible refine c_list rfl fun K hK=>?_);(first|(refine c_load (l' :=?_) ⟨_,M⟩ (fun w M=>?_) ?_;rotate_left;focus((first|(refine q_cellat (HG1.out _ M.new) ?_)|(refine q_cellat (HG2.out _ M.new) ?_)|(refine q_cellat (HR1.out _ M.new) ?_));refine⟨rfl,?_⟩;with_reducible rfl))|(refine c_pure (v:=?_) (fun w=>?_) ?_;rotate_left;focus(go_simp;try with_reducible rfl)));(try go_simp);with_reducible refine hK _ ?_;clear hK K));(refine wpQuiet_nil ?_);clear M;intro w M)
   go_wp2_with (with_reducible (first|refine wq M ?_|(refine wS M ?_;clear M;intro w M)|(refine wV M ?_;clear M;intro z w M)|(refine wR M ?_;clear M;intro q w M)))
   go_loopg [45] m1 (fun f i wr=> ∃ (j:Nat),j+f=m1∧i= .int .i64 j∧Mem (StaysB zg w0) zg w0 wr ⟨0,0⟩ []∧Hid (∀ i (hi:i<R.whens.length) (hl:i<l.length),i<j→winB last top all R.whens[i] l[i]=true))
   case atStart=>exact⟨0,by omega,rfl,M,fun i _ _ h=>absurd h (by omega)⟩
   case round=>
    clear M
    obtain⟨i,hj,rfl,M,HB⟩:=hrel
    by_cases hlt:i<m1
    ·have hkl:i<R.whens.length:=by have:=N1.out;omega
     have hil:i<l.length:=by have:=HFU.out;omega
     obtain⟨ca,oa,rowa,hixa, -,hrra,hwa⟩:=SlF.rowAt (P:=Tryz.prog) HY1.out patF_firm Tryz.underlying53 size_pat (i:=i) hkl
     obtain⟨so,sn,sc,ea, -⟩:=hrra
     subst ea
     have HRP:=Lib.hid (fun wx hb=>(hwa wx hb).1)
     obtain⟨cx,ox,rowx,hixx, -,hrrx,hwx⟩:=SlF.rowAt (P:=Tryz.prog) HX3.out eveF_firm Tryz.underlying26 size_eve (i:=i) hil
     obtain⟨px,qx,rx,ex,ux⟩:=hrrx
     subst ex
     have HRX:=Lib.hid (fun wx hb=>(hwx wx hb).1)
     have hst:=HS.out _ (List.getElem_mem hil)
     have HBS2:=Lib.hid (HBS.out i hkl hil)
     have HB2:Hid (winB last top all R.whens[i] l[i]=true→ ∀ i2 (hi:i2<R.whens.length) (hl:i2<l.length),i2<i+1→winB last top all R.whens[i2] l[i2]=true):=fun h i2 hi hl hlt2=>by
      by_cases he:i2=i
      ·subst he;exact h
      ·exact HB.out i2 hi hl (by omega)
     clear hwa hwx ux HB
     generalize R.whens[i]=P at HRP HBS2 HB2
     generalize l[i]=x at HRX HBS2 HB2 hst
     clear hkl hil
     unfold patC cndC opdC at HRP
     simp only[List.cons_append,List.nil_append]at HRP
     have hws:IntKind.i64.wrap (last - x.e.stop)=last - x.e.stop:=IntWalk.i64_in _ (by omega)
     go_upto_region 10 with(with_reducible (first|(refine wV M ?_;clear M;intro zP w M)|(refine wS M ?_;clear M;intro w M)|refine wA (HRP.out _ M.new) ?_))
     by_cases hw1:P.window=1
     ·have hb1:(P.window==1)=true:=by simp[hw1]
      have hwb:winB last top all P x=!decide (P.n<last - x.e.stop):=by unfold winB;rw[if_pos hw1]
      rw[hwb]at HBS2 HB2
      clear hwb
      by_cases hn:P.n<last - x.e.stop
      ·have HV:=Lib.hid (HBS2.out (by simp[hn]))
       clear HBS2 HB2
       rw[hw1]at M
       go_wp2_with (with_reducible (first|(refine wV M ?_;clear M;intro zX w M)|refine wq M ?_|(refine wS M ?_;clear M;intro w M)|refine wC (HG4.out _ M.new) ?_|refine wA (HRX.out _ M.new) ?_))
       go_ret
       rw[HV.out]
       exact⟨rfl,M.new⟩
      ·have HN:=Lib.hid (HB2.out (by simp[hn]))
       clear HBS2 HB2
       rw[hw1]at M
       go_wp2_with (with_reducible (first|(refine wV M ?_;clear M;intro zX w M)|refine wq M ?_|(refine wS M ?_;clear M;intro w M)|refine wC (HG4.out _ M.new) ?_|refine wA (HRX.out _ M.new) ?_))
       go_roundg (m1 - (i+1))
       case measure=>omega
       case rel=>exact⟨i+1,by omega,by go_num,M.drop.drop,HN⟩
     ·have hb1:(P.window==1)=false:=by simp[hw1]
      by_cases hw2:P.window=2
      ·have hwb:winB last top all P x=!decide (P.n≤newerN all x top):=by unfold winB;rw[if_neg hw1,if_pos hw2]
       rw[hwb]at HBS2 HB2
       clear hwb hw1 hb1
       rw[hw2]at M
       clear hw2
       go_wp2_with (with_reducible (first|(refine wV M ?_;clear M;intro zX w M)|refine wq M ?_|(refine wS M ?_;clear M;intro w M)|refine wC (HG4.out _ M.new) ?_|refine wC (HG3.out _ M.new) ?_|refine wA (HRX.out _ M.new) ?_))
       go_loopg [10,76] v.n4 (fun f n ii wr=> ∃ (j:Nat),j+f=v.n4∧n= .int .i64 ((all.take j).countP (newerB x top):Nat)∧ii= .int .i64 j∧Mem (StaysB zg w0) zg w0 wr ⟨0,0⟩ (own zX [.int .i64 x.e.number,.int .i64 x.e.type,.int .i64 x.e.start,.int .i64 x.e.stop,.slice px qx rx] 65::own zP [.string P.var,.string P.type,.int .i64 P.wher.kind,.slice so sn sc,.int .i64 P.wher.left.kind,.int .i64 P.wher.left.vkind,.int .i64 P.wher.left.vint,.string P.wher.left.vtext,.string P.wher.left.var,.string P.wher.left.field,.int .i64 P.wher.right.kind,.int .i64 P.wher.right.vkind,.int .i64 P.wher.right.vint,.string P.wher.right.vtext,.string P.wher.right.var,.string P.wher.right.field,.int .i64 2,.int .i64 P.n] 78::[]))
       case atStart=>exact⟨0,by omega,rfl,rfl,M⟩
       case round=>
        clear M
        obtain⟨j,hj2,rfl,rfl,M⟩:=hrel
        by_cases hlt2:j<v.n4
        ·have hal:j<all.length:=by have:=N4.out;omega
         obtain⟨cy,oy,rowy,hixy, -,hrry,hwy⟩:=SlF.rowAt (P:=Tryz.prog) HX4.out eveF_firm Tryz.underlying26 size_eve (i:=j) hal
         obtain⟨py,qy,ry,ey,uy⟩:=hrry
         subst ey
         have HRY:=Lib.hid (fun wx hb=>(hwy wx hb).1)
         have HCS:Hid ((all.take (j+1)).countP (newerB x top)=_):=countP_snoc hal
         have hcl:(all.take j).countP (newerB x top)≤120:=Nat.le_trans (Nat.le_trans (List.countP_le_length ..) (by rw[List.length_take];exact Nat.min_le_left _ _)) (by omega)
         clear hwy uy
         generalize all[j]=y at HRY HCS
         generalize (all.take j).countP (newerB x top)=cn at HCS hcl ⊢
         have hnb:newerB x top y=(y.e.type==x.e.type&&(decide (x.e.number<y.e.number)&&decide (y.e.number≤top))):=rfl
         rw[hnb]at HCS
         clear hnb hal
         by_cases c1:y.e.type=x.e.type
         ·have d1:(y.e.type==x.e.type)=true:=by simp[c1]
          by_cases c2:x.e.number<y.e.number
          ·by_cases c3:y.e.number≤top
           ·have HC:Hid ((all.take (j+1)).countP (newerB x top)=cn+1):=Lib.hid (by rw[HCS.out];simp[c1,c2,c3])
            clear HCS
            go_wp2_with (with_reducible (first|refine wq M ?_|(refine wS M ?_;clear M;intro w M)|(refine wV M ?_;clear M;intro z w M)|refine wA (HRY.out _ M.new) ?_))
            go_roundg (v.n4 - (j+1))
            case measure=>omega
            case rel=>exact⟨j+1,by omega,by rw[HC.out];go_num,by go_num,M.drop⟩
           ·have HC:Hid ((all.take (j+1)).countP (newerB x top)=cn):=Lib.hid (by rw[HCS.out];simp[c1,c2,c3])
            clear HCS
            go_wp2_with (with_reducible (first|refine wq M ?_|(refine wS M ?_;clear M;intro w M)|(refine wV M ?_;clear M;intro z w M)|refine wA (HRY.out _ M.new) ?_))
            go_roundg (v.n4 - (j+1))
            case measure=>omega
            case rel=>exact⟨j+1,by omega,by rw[HC.out],by go_num,M.drop⟩
          ·have HC:Hid ((all.take (j+1)).countP (newerB x top)=cn):=Lib.hid (by rw[HCS.out];simp[c1,c2])
           clear HCS
           go_wp2_with (with_reducible (first|refine wq M ?_|(refine wS M ?_;clear M;intro w M)|(refine wV M ?_;clear M;intro z w M)|refine wA (HRY.out _ M.new) ?_))
           go_roundg (v.n4 - (j+1))
           case measure=>omega
           case rel=>exact⟨j+1,by omega,by rw[HC.out],by go_num,M.drop⟩
         ·have d1:(y.e.type==x.e.type)=false:=by simp[c1]
          have HC:Hid ((all.take (j+1)).countP (newerB x top)=cn):=Lib.hid (by rw[HCS.out];simp[c1])
          clear HCS
          go_wp2_with (with_reducible (first|refine wq M ?_|(refine wS M ?_;clear M;intro w M)|(refine wV M ?_;clear M;intro z w M)|refine wA (HRY.out _ M.new) ?_))
          go_roundg (v.n4 - (j+1))
          case measure=>omega
          case rel=>exact⟨j+1,by omega,by rw[HC.out],by go_num,M.drop⟩
        ·have hje:(all.take j).countP (newerB x top)=newerN all x top:=by unfold newerN;rw[List.take_of_length_le (by have:=N4.out;omega)]
         rw[hje]
         clear hje
         generalize newerN all x top=cn at HBS2 HB2 ⊢
         by_cases hn:P.n≤cn
         ·have HV:=Lib.hid (HBS2.out (by simp[hn]))
          clear HBS2 HB2
          go_wp2_with (with_reducible refine wq M ?_)
          go_ret
          rw[HV.out]
          exact⟨rfl,M.new⟩
         ·have HN:=Lib.hid (HB2.out (by simp[hn]))
          clear HBS2 HB2
          go_wp2_with (with_reducible refine wq M ?_)
          go_roundg (m1 - (i+1))
          case measure=>omega
          case rel=>exact⟨i+1,by omega,by go_num,M.drop.drop,HN⟩
      ·have hb2:(P.window==2)=false:=by simp[hw2]
       have HN:=Lib.hid (HB2.out (by unfold winB;rw[if_neg hw1,if_neg hw2]))
       clear HBS2 HB2
       go_wp2_with (with_reducible (first|(refine wV M ?_;clear M;intro zX w M)|refine wq M ?_|(refine wS M ?_;clear M;intro w M)|refine wC (HG4.out _ M.new) ?_|refine wA (HRX.out _ M.new) ?_))
       go_roundg (m1 - (i+1))
       case measure=>omega
       case rel=>exact⟨i+1,by omega,by go_num,M.drop.drop,HN⟩
    ·have HV:=Lib.hid (HBE.out fun i2 h1 h2=>HB.out i2 h1 h2 (by have:=N1.out;omega))
     clear HB
     go_wp2_with (with_reducible (first|refine wq M ?_|(refine wS M ?_;clear M;intro w M)|(refine wV M ?_;clear M;intro z w M)|(refine wR M ?_;clear M;intro q w M)))
     go_ret
     rw[HV.out]
     exact⟨rfl,M.new⟩
end
end Go.Proofs.YtfahleafppfkaaaGreatDoor
