/-
  The walks of the reference's BookFault, fourteenth part: rules. Printed by chkn.py.
-/
import Derived.Test.YtncmghnhfipklaaGreatDoorPw25
import Derived.Deep.CutBlock
import Derived.Deep.DeepCutAuto
namespace Go.Proofs.YtncmghnhfipklaaGreatDoor
open Go.RowKit
set_option linter.unusedVariables false
set_option linter.unusedSimpArgs false
structure PatOk (p:Pat):Prop where
 var:p.var.size≤maxLen
 con:CondOk p.wher
structure RulOk (x:Rul):Prop where
 name:x.name.size≤maxLen
 whens: ∀ p∈x.whens,PatOk p
 nots: ∀ p∈x.nots,PatOk p
 manies: ∀ m∈x.manies,PatOk m.pat
 evals: ∀ o∈x.evals,o.vtext.size≤maxLen
theorem rowWord:RowT Tryz.prog 84 9 1:=⟨Tryz.underlying84,⟨.string ByteArray.empty,by kernel_rfl,rfl⟩,by kernel_rfl,by kernel_rfl,by omega,by omega⟩
instance :RowI Tryz.prog 84 9 1:=⟨rowWord⟩
section
variable {P:Program} {o:Oper} {a:Act} {Q:Exit→Act→World→Prop} {K:Act→World→Prop}
variable {At:PS→World→Prop} {b:Nat} {u w:World} {s:PS} {L:List Ent}
theorem op_build2(M:Mem At b u w s L){t e:Nat}(hT:RowT P t e 1)(y:Operand)(ho:o.op= .buildSlice t 1 #[(0,y)])(v:Value)(hy:a.eval y=v)(h1:v.cells= #[v])
  (h: ∀ q w',Mem At b u w' s (own q [v] e::L)→K (a.put o.dst (.slice (some ⟨q,0,none⟩) 1 1)) w'):o.wp P a w K Q:=by
 obtain⟨hu,ie,z,hie,hz,hsz,hzs,hpos,hsmall, -, -⟩:=hT.open
 have hf0:=fill_one 1 [v] ((Array.range (1*ie.size)).map (z.cells[· % z.cells.size]!)) rfl (by simp[hsz])
 have hf:Instr.fill (fun i=>some (i*ie.size,ie.size)) ((Array.range (1*ie.size)).map (z.cells[· % z.cells.size]!)) [(0,v)]=some [v].toArray:=by
  rw[hsz]at hf0 ⊢
  rw[←hf0]
  have h2:(Value.agg [v].toArray).cells= #[v]:=rfl
  simp only[Instr.fill,h1,h2]
 have hlow: ∀ y,(own w.heap.size [v] e).blk y→w.heap.size≤y∧y<(w.alloc (.cells [v].toArray e)).heap.size:=fun y hy=>by
  have e:w.heap.size=y:=by injection hy
  subst e
  simp
 exact wp_buildSlice t e 1 #[(0,y)] ho [v].toArray ie z hu hie hz (by rw[hsz];omega) (by rw[hsz];omega) (by simpa[hy]using hf) (h w.heap.size _ (M.push (Joins.below_alloc1 w _) (own_firm _ _ _) hlow (fun G _=>heap_alloc_new w _)))
end
section
variable {P:Program} {dst:Option Tmp} {oty:TypeId} {pos:String} {after:Array Edge} {g:Option (Nat×Bool)} {l:List Value} {ds:List Deferred} {Q:Exit→Act→World→Prop} {K:Act→World→Prop}
variable {At:PS→World→Prop} {b:Nat} {u w:World} {s:PS} {L:List Ent} {ty j:Nat}
theorem q_row1(M:Mem At b u w s L){e:Nat}{s1:ByteArray}[hy:Nth l j (.string s1)][hT:RowI P ty e 1]{F:Nat→List Value}[hd: ∀ q,PutI l dst (.slice (some ⟨q,0,none⟩) 1 1) (F q)](h: ∀ q w',Mem At b u w' s (own q [.string s1] e::L)→K ⟨(F q).toArray,ds⟩ w'):OWP P ⟨dst,.buildSlice ty 1 #[(0,.tmp j)],oty,pos,after,g⟩ ⟨l.toArray,ds⟩ w K Q:=
 owp_of (op_build2 M hT.row _ rfl _ (eval_tmp hy.nth) rfl (fun q w' M' =>by rw[(hd q).put];exact h q w' M'))
theorem Mem.slf{α:Type}{R:(Nat→Prop)→World→List Value→α→Prop}(hR:Firm R){e k i:Nat}{ra:Option Addr}{n rc:Nat}{xs:List α}(M:Mem At b u w s L)(hi:L[i]?=some (slc u.heap.size e k R (.slice ra n rc) xs))(hk:0<k):SlF (fun _=>True) w k R ra n rc xs:=by
 have hO:OwnF (free_ u w L) u.heap.size w e k R (.slice ra n rc) xs:=M.say _ (Mem.of_get hi)
 obtain⟨ao,cap,h1,h2⟩:=hO.done (G:=fun _=>True) hR hk (fun _ _ _=>trivial)
 injection h1 with e1 e2 e3
 subst e1 e2 e3
 exact h2
end
def lnkE(x:Rul)(i:Nat):Int:=linkE x (x.links.getD i lnk0)
def Pre0(x:Rul):Prop:=freeE x.name=0∧sizeB x=false
def Pre1(ts:List Typ)(x:Rul):Prop:=Pre0 x∧AllZ (whenE ts x) x.whens.length
def Pre2(ts:List Typ)(x:Rul):Prop:=Pre1 ts x∧AllZ (notE ts x) x.nots.length
def Pre3(ts:List Typ)(x:Rul):Prop:=Pre2 ts x∧AllZ (manyE ts x) x.manies.length
def Pre4(ts:List Typ)(x:Rul):Prop:=Pre3 ts x∧AllZ (lnkE x) x.links.length
def Stg(ts:List Typ)(x:Rul)(p:Prop)(f:Nat→Int)(j:Nat)(e:Int):Prop:=(e≠0→ruleE ts x=e)∧(e=0→p∧AllZ f j)
theorem ruleE_pre{ts:List Typ}{x:Rul}(h:Pre0 x):ruleE ts x=if firstN (whenE ts x) x.whens.length≠0 then firstN (whenE ts x) x.whens.length
  else if firstN (notE ts x) x.nots.length≠0 then firstN (notE ts x) x.nots.length
  else if firstN (manyE ts x) x.manies.length≠0 then firstN (manyE ts x) x.manies.length
  else if firstN (lnkE x) x.links.length≠0 then firstN (lnkE x) x.links.length else emitE ts x:=by
 unfold ruleE
 rw[if_neg (by rw[h.1];simp),if_neg (by rw[h.2];simp)]
 rfl
theorem stg_when{ts:List Typ}{x:Rul}{j:Nat}{e:Int}(h:Stg ts x (Pre0 x) (whenE ts x) j e)(h0:e=0)(hj:j<x.whens.length):Stg ts x (Pre0 x) (whenE ts x) (j+1) (whenE ts x j):=by
 obtain⟨hp,hz⟩:=h.2 h0
 refine⟨fun hn=>?_,fun hn=>⟨hp,allZ_succ hz hn⟩⟩
 rw[ruleE_pre hp,firstN_at hz hj hn,if_pos hn]
theorem stg_not{ts:List Typ}{x:Rul}{j:Nat}{e:Int}(h:Stg ts x (Pre1 ts x) (notE ts x) j e)(h0:e=0)(hj:j<x.nots.length):Stg ts x (Pre1 ts x) (notE ts x) (j+1) (notE ts x j):=by
 obtain⟨hp,hz⟩:=h.2 h0
 refine⟨fun hn=>?_,fun hn=>⟨hp,allZ_succ hz hn⟩⟩
 rw[ruleE_pre hp.1,firstN_zero hp.2,if_neg (by simp),firstN_at hz hj hn,if_pos hn]
theorem stg_many{ts:List Typ}{x:Rul}{j:Nat}{e:Int}(h:Stg ts x (Pre2 ts x) (manyE ts x) j e)(h0:e=0)(hj:j<x.manies.length):Stg ts x (Pre2 ts x) (manyE ts x) (j+1) (manyE ts x j):=by
 obtain⟨hp,hz⟩:=h.2 h0
 refine⟨fun hn=>?_,fun hn=>⟨hp,allZ_succ hz hn⟩⟩
 rw[ruleE_pre hp.1.1,firstN_zero hp.1.2,if_neg (by simp),firstN_zero hp.2,if_neg (by simp),firstN_at hz hj hn,if_pos hn]
theorem stg_link{ts:List Typ}{x:Rul}{j:Nat}{e:Int}(h:Stg ts x (Pre3 ts x) (lnkE x) j e)(h0:e=0)(hj:j<x.links.length):Stg ts x (Pre3 ts x) (lnkE x) (j+1) (lnkE x j):=by
 obtain⟨hp,hz⟩:=h.2 h0
 refine⟨fun hn=>?_,fun hn=>⟨hp,allZ_succ hz hn⟩⟩
 rw[ruleE_pre hp.1.1.1,firstN_zero hp.1.1.2,if_neg (by simp),firstN_zero hp.1.2,if_neg (by simp),firstN_zero hp.2,if_neg (by simp),firstN_at hz hj hn,if_pos hn]
theorem stg_next{ts:List Typ}{x:Rul}{p q:Prop}{f f' :Nat→Int}{j:Nat}{e:Int}(h:Stg ts x p f j e)(hq:e=0→p→AllZ f j→q):Stg ts x q f' 0 e:=
 ⟨h.1,fun h0=>⟨hq h0 (h.2 h0).1 (h.2 h0).2,allZ_zero _⟩⟩
theorem ruleE_end{ts:List Typ}{x:Rul}(h:Pre4 ts x):ruleE ts x=emitE ts x:=by
 rw[ruleE_pre h.1.1.1.1,firstN_zero h.1.1.1.2,if_neg (by simp),firstN_zero h.1.1.2,if_neg (by simp),firstN_zero h.1.2,if_neg (by simp),firstN_zero h.2,if_neg (by simp)]
theorem pat_there{ts:List Typ}{known:List Pat}{ahead:List ByteArray}{p:Pat}{part:Nat}(h:patE ts known ahead p part=0):typI ts p.type<ts.length:=by
 unfold patE at h
 by_cases h0:freeE p.var≠0
 ·rw[if_pos h0]at h;exact absurd h h0
 ·rw[if_neg h0]at h
  by_cases h1:inS ahead p.var=true
  ·rw[if_pos h1]at h;exact absurd h (by decide)
  ·rw[if_neg h1]at h
   by_cases h2:ts.length≤typI ts p.type
   ·rw[if_pos h2]at h;exact absurd h (by decide)
   ·omega
theorem whens_there{ts:List Typ}{x:Rul}{j:Nat}(hj:j≤x.whens.length)(h:AllZ (whenE ts x) j): ∀ p∈x.whens.take j,typI ts p.type<ts.length:=fun p hp=>by
 obtain⟨i,hi,rfl⟩:=List.mem_iff_getElem.1 hp
 rw[List.length_take]at hi
 rw[List.getElem_take]
 have hz:=h i (by omega)
 unfold whenE at hz
 rw[List.getD_eq_getElem?_getD,List.getElem?_eq_getElem (by omega)]at hz
 exact pat_there hz
theorem take_vars{l:List Pat}{j:Nat}(hj:j<l.length):vars (l.take j)++[l[j].var]=vars (l.take (j+1)):=by
 unfold vars
 rw[List.take_add_one,List.getElem?_eq_getElem hj,List.map_append]
 rfl
def man20(m:Many)(ao:Option Addr)(n cap:Nat):List Value:= .int .i64 m.count:: .string m.field::pat18 m.pat ao n cap
theorem manF.open20{F:Nat→Prop}{w:World}{row:List Value}{m:Many}(h:manF F w row m): ∃ ao n cap,row=man20 m ao n cap∧SlF F w 14 CondF ao n cap m.pat.wher.subs:=by
 obtain⟨ao,n,cap,h1,h2⟩:=h
 exact⟨ao,n,cap,h1,h2⟩
def manyP(ts:List Typ)(x:Rul)(al:List ByteArray)(m:Many):Int:=
 if(emS m.field=true∧ ¬ (1≤m.count∧m.count≤120))∨ ¬ (0≤m.count∧m.count≤1125899906842624)then 2
 else if patE ts x.whens al m.pat 2≠0 then patE ts x.whens al m.pat 2 else sumE (typAt ts m.pat.type) m.field
section
variable {g:Nat} {F G:Nat→Prop} {ao:Option Addr} {n cap:Nat} {w0:World} {ts:List Typ}
set_option maxRecDepth 8000 in
set_option maxHeartbeats 16000000 in
theorem ruleFault_pre(hg:g<w0.heap.size)(hX:SlF F w0 2 typF ao n cap ts)(hts: ∀ t∈ts,typOk t)(x:Rul)(row:List Value)(h:rulF G w0 row x)(hok:RulOk x)(h0:freeE x.name≠0):Calls Tryz.prog 30 #[.slice ao n cap,.agg row.toArray] w0 fun e w' =>e= .returned (.int .i64 (ruleE ts x))∧Below w0.heap.size w0 w' :=by
 have h' :=h
 obtain⟨a1,n1,c1,a2,n2,c2,a3,n3,c3,a4,n4,c4,a6,n6,c6,rfl,X1,X2,X3,X4,X6⟩:=h
 have M:=Mem.begin hg ⟨0,0⟩
 have HFN:=Lib.hid (fun wx=>freeName_any x.name wx hok.name)
 have hle1:=X1.le
 have hle2:=X2.le
 have hle3:=X3.le
 have hle4:=X4.le
 have N1:=Lib.hid X1.len
 have N2:=Lib.hid X2.len
 have N3:=Lib.hid X3.len
 have N4:=Lib.hid X4.len
 have HV:Hid (ruleE ts x=freeE x.name):=by show _=_;unfold ruleE;rw[if_pos h0]
 rw[HV.out]
 generalize freeE x.name=ev at HFN h0
 have hevb:(ev==0)=false:=by simpa using h0
 unfold rulC
 clear X1 X2 X3 X4 X6 hX hts hok h' h0 HV hg
 go_enter Tryz.func30,Tryz.ntmps30
 go_upto_block 0 with(first|(with_reducible (first|(refine wB (L:=[]) M ?_;clear M;intro za w1 M)|refine wq M ?_))|(go_at_call 52;with_reducible refine(HFN.out _).mono ?_;rintro e w5 ⟨rfl,hb5⟩;replace M:=M.below hb5;clear hb5))
 go_cut [5,6,7] (fun e a i wx=>e= .int .i64 ev∧Mem (StaysB g w0) g w0 wx ⟨0,0⟩ (own za [.string x.name,.slice a1 n1 c1,.slice a2 n2 c2,.slice a3 n3 c3,.slice a4 n4 c4,.string x.etype,.slice a6 n6 c6] 47::[]))
 case first=>
  go_wp2_with fail
  go_loopg [5,6,7] 0 (fun f e a i wr=>e= .int .i64 ev∧i= .int .i64 0∧Mem (StaysB g w0) g w0 wr ⟨0,0⟩ (own za [.string x.name,.slice a1 n1 c1,.slice a2 n2 c2,.slice a3 n3 c3,.slice a4 n4 c4,.string x.etype,.slice a6 n6 c6] 47::[]))
  case atStart=>exact⟨rfl,rfl,M⟩
  case round=>
   clear M
   obtain⟨rfl,rfl,M⟩:=hrel
   go_wp2_with (with_reducible refine wq M ?_)
   all_goals
    go_meet
    case rel=>exact⟨rfl,M⟩
 case rest=>
 clear M
 obtain⟨rfl,M⟩:=hcut
 go_upto_block 2 with(with_reducible (first|refine wq M ?_|(refine wS M ?_;clear M;intro w M)|(refine wV M ?_;clear M;intro z w M)|(refine wR M ?_;clear M;intro q w M)))
 go_cut [5,6,8] (fun e a i wx=>e= .int .i64 ev∧Mem (StaysB g w0) g w0 wx ⟨0,0⟩ (own za [.string x.name,.slice a1 n1 c1,.slice a2 n2 c2,.slice a3 n3 c3,.slice a4 n4 c4,.string x.etype,.slice a6 n6 c6] 47::[]))
 case first=>
  go_wp2_with fail
  go_loopg [5,6,8] 0 (fun f e a i wr=>e= .int .i64 ev∧i= .int .i64 0∧Mem (StaysB g w0) g w0 wr ⟨0,0⟩ (own za [.string x.name,.slice a1 n1 c1,.slice a2 n2 c2,.slice a3 n3 c3,.slice a4 n4 c4,.string x.etype,.slice a6 n6 c6] 47::[]))
  case atStart=>exact⟨rfl,rfl,M⟩
  case round=>
   clear M
   obtain⟨rfl,rfl,M⟩:=hrel
   go_wp2_with (with_reducible refine wq M ?_)
   all_goals
    go_meet
    case rel=>exact⟨rfl,M⟩
 case rest=>
 clear M
 obtain⟨rfl,M⟩:=hcut
 go_upto_block 4 with(with_reducible (first|refine wq M ?_|(refine wS M ?_;clear M;intro w M)|(refine wV M ?_;clear M;intro z w M)|(refine wR M ?_;clear M;intro q w M)))
 go_cut [5,6,9] (fun e a i wx=>e= .int .i64 ev∧Mem (StaysB g w0) g w0 wx ⟨0,0⟩ (own za [.string x.name,.slice a1 n1 c1,.slice a2 n2 c2,.slice a3 n3 c3,.slice a4 n4 c4,.string x.etype,.slice a6 n6 c6] 47::[]))
 case first=>
  go_wp2_with fail
  go_loopg [5,6,9] 0 (fun f e a i wr=>e= .int .i64 ev∧i= .int .i64 0∧Mem (StaysB g w0) g w0 wr ⟨0,0⟩ (own za [.string x.name,.slice a1 n1 c1,.slice a2 n2 c2,.slice a3 n3 c3,.slice a4 n4 c4,.string x.etype,.slice a6 n6 c6] 47::[]))
  case atStart=>exact⟨rfl,rfl,M⟩
  case round=>
   clear M
   obtain⟨rfl,rfl,M⟩:=hrel
   go_wp2_with (with_reducible refine wq M ?_)
   all_goals
    go_meet
    case rel=>exact⟨rfl,M⟩
 case rest=>
 clear M
 obtain⟨rfl,M⟩:=hcut
 go_upto_block 6 with(with_reducible (first|refine wq M ?_|(refine wS M ?_;clear M;intro w M)|(refine wV M ?_;clear M;intro z w M)|(refine wR M ?_;clear M;intro q w M)))
 go_cut [5,11] (fun e i wx=>e= .int .i64 ev∧Mem (StaysB g w0) g w0 wx ⟨0,0⟩ (own za [.string x.name,.slice a1 n1 c1,.slice a2 n2 c2,.slice a3 n3 c3,.slice a4 n4 c4,.string x.etype,.slice a6 n6 c6] 47::[]))
 case first=>
  go_wp2_with fail
  go_loopg [5,11] 0 (fun f e i wr=>e= .int .i64 ev∧i= .int .i64 0∧Mem (StaysB g w0) g w0 wr ⟨0,0⟩ (own za [.string x.name,.slice a1 n1 c1,.slice a2 n2 c2,.slice a3 n3 c3,.slice a4 n4 c4,.string x.etype,.slice a6 n6 c6] 47::[]))
  case atStart=>exact⟨rfl,rfl,M⟩
  case round=>
   clear M
   obtain⟨rfl,rfl,M⟩:=hrel
   go_wp2_with (with_reducible refine wq M ?_)
   all_goals
    go_meet
    case rel=>exact⟨rfl,M⟩
 case rest=>
 clear M
 obtain⟨rfl,M⟩:=hcut
 go_wp2_with (with_reducible (first|refine wq M ?_|(refine wS M ?_;clear M;intro w M)|(refine wV M ?_;clear M;intro z w M)|(refine wR M ?_;clear M;intro q w M)))
 go_ret
 exact⟨rfl,M.new⟩
set_option maxRecDepth 8000 in
set_option maxHeartbeats 16000000 in
theorem ruleFault_size(hg:g<w0.heap.size)(hX:SlF F w0 2 typF ao n cap ts)(hts: ∀ t∈ts,typOk t)(x:Rul)(row:List Value)(h:rulF G w0 row x)(hok:RulOk x)(h0:freeE x.name=0)(h1:sizeB x=true):Calls Tryz.prog 30 #[.slice ao n cap,.agg row.toArray] w0 fun e w' =>e= .returned (.int .i64 (ruleE ts x))∧Below w0.heap.size w0 w' :=by
 have h' :=h
 obtain⟨a1,n1,c1,a2,n2,c2,a3,n3,c3,a4,n4,c4,a6,n6,c6,rfl,X1,X2,X3,X4,X6⟩:=h
 have M:=Mem.begin hg ⟨0,0⟩
 have HFN:=Lib.hid (fun wx=>freeName_any x.name wx hok.name)
 have hle1:=X1.le
 have hle2:=X2.le
 have hle3:=X3.le
 have hle4:=X4.le
 have N1:=Lib.hid X1.len
 have N2:=Lib.hid X2.len
 have N3:=Lib.hid X3.len
 have N4:=Lib.hid X4.len
 have HV:Hid (ruleE ts x=1):=by show _=_;unfold ruleE;rw[if_neg (by rw[h0];simp),if_pos h1]
 rw[HV.out]
 rw[h0]at HFN
 have hleaf:(¬ (1≤n1∧n1≤3))∨2<n2∨2<n3∨6<n4:=by
  have e1:=N1.out
  have e2:=N2.out
  have e3:=N3.out
  have e4:=N4.out
  unfold sizeB at h1
  simp only[Bool.or_eq_true,decide_eq_true_eq]at h1
  omega
 unfold rulC
 clear X1 X2 X3 X4 X6 hX hts hok h' h0 HV hg h1
 go_enter Tryz.func30,Tryz.ntmps30
 go_upto_region 2 with(first|(with_reducible (first|(refine wB (L:=[]) M ?_;clear M;intro za w1 M)|refine wq M ?_))|(go_at_call 52;with_reducible refine(HFN.out _).mono ?_;rintro e w5 ⟨rfl,hb5⟩;replace M:=M.below hb5;clear hb5))
 go_cut [41] (fun v wx=>v= .bool true∧Mem (StaysB g w0) g w0 wx ⟨0,0⟩ (own za [.string x.name,.slice a1 n1 c1,.slice a2 n2 c2,.slice a3 n3 c3,.slice a4 n4 c4,.string x.etype,.slice a6 n6 c6] 47::[]))
 case first=>
  by_cases c1:1≤n1∧n1≤3
  ·have hin:inB (n1:Int) 1 3=true:=by rw[inB_true];omega
   by_cases c2:2<n2
   ·have d2:decide ((2:Int)<n2)=true:=by simp;omega
    clear hleaf c1
    go_wp2_with (first|(with_reducible refine wq M ?_)|(go_at_call 14;refine(in_any _ _ _ _).mono ?_;rintro e w4 ⟨rfl,rfl⟩;(try rw[hin])))
    go_meet
    case rel=>exact⟨rfl,M⟩
   ·have d2:decide ((2:Int)<n2)=false:=by simp;omega
    by_cases c3:2<n3
    ·have d3:decide ((2:Int)<n3)=true:=by simp;omega
     clear hleaf c1
     go_wp2_with (first|(with_reducible refine wq M ?_)|(go_at_call 14;refine(in_any _ _ _ _).mono ?_;rintro e w4 ⟨rfl,rfl⟩;(try rw[hin])))
     go_meet
     case rel=>exact⟨rfl,M⟩
    ·have d3:decide ((2:Int)<n3)=false:=by simp;omega
     have d4:decide ((6:Int)<n4)=true:=by simp;omega
     clear hleaf c1
     go_wp2_with (first|(with_reducible refine wq M ?_)|(go_at_call 14;refine(in_any _ _ _ _).mono ?_;rintro e w4 ⟨rfl,rfl⟩;(try rw[hin])))
     go_meet
     case rel=>exact⟨rfl,M⟩
  ·have hin:inB (n1:Int) 1 3=false:=by rw[inB_false];omega
   clear hleaf c1
   go_wp2_with (first|(with_reducible refine wq M ?_)|(go_at_call 14;refine(in_any _ _ _ _).mono ?_;rintro e w4 ⟨rfl,rfl⟩;(try rw[hin])))
   go_meet
   case rel=>exact⟨rfl,M⟩
 case rest=>
 clear M
 obtain⟨rfl,M⟩:=hcut
 have hevb:((1:Int)==0)=false:=by decide
 go_upto_block 0 with(with_reducible (first|refine wq M ?_|(refine wS M ?_;clear M;intro w M)|(refine wV M ?_;clear M;intro z w M)|(refine wR M ?_;clear M;intro q w M)))
 go_cut [5,6,7] (fun e a i wx=>e= .int .i64 1∧Mem (StaysB g w0) g w0 wx ⟨0,0⟩ (own za [.string x.name,.slice a1 n1 c1,.slice a2 n2 c2,.slice a3 n3 c3,.slice a4 n4 c4,.string x.etype,.slice a6 n6 c6] 47::[]))
 case first=>
  go_wp2_with fail
  go_loopg [5,6,7] 0 (fun f e a i wr=>e= .int .i64 1∧i= .int .i64 0∧Mem (StaysB g w0) g w0 wr ⟨0,0⟩ (own za [.string x.name,.slice a1 n1 c1,.slice a2 n2 c2,.slice a3 n3 c3,.slice a4 n4 c4,.string x.etype,.slice a6 n6 c6] 47::[]))
  case atStart=>exact⟨rfl,rfl,M⟩
  case round=>
   clear M
   obtain⟨rfl,rfl,M⟩:=hrel
   go_wp2_with (with_reducible refine wq M ?_)
   all_goals
    go_meet
    case rel=>exact⟨rfl,M⟩
 case rest=>
 clear M
 obtain⟨rfl,M⟩:=hcut
 go_upto_block 2 with(with_reducible (first|refine wq M ?_|(refine wS M ?_;clear M;intro w M)|(refine wV M ?_;clear M;intro z w M)|(refine wR M ?_;clear M;intro q w M)))
 go_cut [5,6,8] (fun e a i wx=>e= .int .i64 1∧Mem (StaysB g w0) g w0 wx ⟨0,0⟩ (own za [.string x.name,.slice a1 n1 c1,.slice a2 n2 c2,.slice a3 n3 c3,.slice a4 n4 c4,.string x.etype,.slice a6 n6 c6] 47::[]))
 case first=>
  go_wp2_with fail
  go_loopg [5,6,8] 0 (fun f e a i wr=>e= .int .i64 1∧i= .int .i64 0∧Mem (StaysB g w0) g w0 wr ⟨0,0⟩ (own za [.string x.name,.slice a1 n1 c1,.slice a2 n2 c2,.slice a3 n3 c3,.slice a4 n4 c4,.string x.etype,.slice a6 n6 c6] 47::[]))
  case atStart=>exact⟨rfl,rfl,M⟩
  case round=>
   clear M
   obtain⟨rfl,rfl,M⟩:=hrel
   go_wp2_with (with_reducible refine wq M ?_)
   all_goals
    go_meet
    case rel=>exact⟨rfl,M⟩
 case rest=>
 clear M
 obtain⟨rfl,M⟩:=hcut
 go_upto_block 4 with(with_reducible (first|refine wq M ?_|(refine wS M ?_;clear M;intro w M)|(refine wV M ?_;clear M;intro z w M)|(refine wR M ?_;clear M;intro q w M)))
 go_cut [5,6,9] (fun e a i wx=>e= .int .i64 1∧Mem (StaysB g w0) g w0 wx ⟨0,0⟩ (own za [.string x.name,.slice a1 n1 c1,.slice a2 n2 c2,.slice a3 n3 c3,.slice a4 n4 c4,.string x.etype,.slice a6 n6 c6] 47::[]))
 case first=>
  go_wp2_with fail
  go_loopg [5,6,9] 0 (fun f e a i wr=>e= .int .i64 1∧i= .int .i64 0∧Mem (StaysB g w0) g w0 wr ⟨0,0⟩ (own za [.string x.name,.slice a1 n1 c1,.slice a2 n2 c2,.slice a3 n3 c3,.slice a4 n4 c4,.string x.etype,.slice a6 n6 c6] 47::[]))
  case atStart=>exact⟨rfl,rfl,M⟩
  case round=>
   clear M
   obtain⟨rfl,rfl,M⟩:=hrel
   go_wp2_with (with_reducible refine wq M ?_)
   all_goals
    go_meet
    case rel=>exact⟨rfl,M⟩
 case rest=>
 clear M
 obtain⟨rfl,M⟩:=hcut
 go_upto_block 6 with(with_reducible (first|refine wq M ?_|(refine wS M ?_;clear M;intro w M)|(refine wV M ?_;clear M;intro z w M)|(refine wR M ?_;clear M;intro q w M)))
 go_cut [5,11] (fun e i wx=>e= .int .i64 1∧Mem (StaysB g w0) g w0 wx ⟨0,0⟩ (own za [.string x.name,.slice a1 n1 c1,.slice a2 n2 c2,.slice a3 n3 c3,.slice a4 n4 c4,.string x.etype,.slice a6 n6 c6] 47::[]))
 case first=>
  go_wp2_with fail
  go_loopg [5,11] 0 (fun f e i wr=>e= .int .i64 1∧i= .int .i64 0∧Mem (StaysB g w0) g w0 wr ⟨0,0⟩ (own za [.string x.name,.slice a1 n1 c1,.slice a2 n2 c2,.slice a3 n3 c3,.slice a4 n4 c4,.string x.etype,.slice a6 n6 c6] 47::[]))
  case atStart=>exact⟨rfl,rfl,M⟩
  case round=>
   clear M
   obtain⟨rfl,rfl,M⟩:=hrel
   go_wp2_with (with_reducible refine wq M ?_)
   all_goals
    go_meet
    case rel=>exact⟨rfl,M⟩
 case rest=>
 clear M
 obtain⟨rfl,M⟩:=hcut
 go_wp2_with (with_reducible (first|refine wq M ?_|(refine wS M ?_;clear M;intro w M)|(refine wV M ?_;clear M;intro z w M)|(refine wR M ?_;clear M;intro q w M)))
 go_ret
 exact⟨rfl,M.new⟩
set_option maxRecDepth 8000 in
set_option maxHeartbeats 16000000 in
theorem ruleFault_main(hg:g<w0.heap.size)(hX:SlF F w0 2 typF ao n cap ts)(hts: ∀ t∈ts,typOk t)(x:Rul)(row:List Value)(h:rulF G w0 row x)(hok:RulOk x)(h0:freeE x.name=0)(h1:sizeB x=false):Calls Tryz.prog 30 #[.slice ao n cap,.agg row.toArray] w0 fun e w' =>e= .returned (.int .i64 (ruleE ts x))∧Below w0.heap.size w0 w' :=by
 have h' :=h
 obtain⟨a1,n1,c1,a2,n2,c2,a3,n3,c3,a4,n4,c4,a6,n6,c6,rfl,X1,X2,X3,X4,X6⟩:=h
 have M:=Mem.begin hg ⟨0,0⟩
 have HFN:=Lib.hid (fun wx=>freeName_any x.name wx hok.name)
 have hle1:=X1.le
 have hle2:=X2.le
 have hle3:=X3.le
 have hle4:=X4.le
 have N1:=Lib.hid X1.len
 have N2:=Lib.hid X2.len
 have N3:=Lib.hid X3.len
 have N4:=Lib.hid X4.len
 have hs:(1≤n1∧n1≤3)∧n2≤2∧n3≤2∧n4≤6:=by
  have e1:=N1.out
  have e2:=N2.out
  have e3:=N3.out
  have e4:=N4.out
  unfold sizeB at h1
  simp only[Bool.or_eq_false_iff,decide_eq_false_iff_not]at h1
  omega
 have hin:inB (n1:Int) 1 3=true:=by rw[inB_true];omega
 have hp0:Hid (Pre0 x):=⟨h0,h1⟩
 rw[h0]at HFN
 obtain⟨⟨s1,s2⟩,s3,s4,s5⟩:=hs
 have s3' :decide ((2:Int)<n2)=false:=by simp;omega
 have s4' :decide ((2:Int)<n3)=false:=by simp;omega
 have s5' :decide ((6:Int)<n4)=false:=by simp;omega
 unfold rulC
 have hX:=Lib.hid hX
 have h' :=Lib.hid h'
 have X1:=Lib.hid X1
 have X2:=Lib.hid X2
 have X3:=Lib.hid X3
 have X4:=Lib.hid X4
 clear h0 h1 X6
 go_enter Tryz.func30,Tryz.ntmps30
 go_upto_block 0 with(first|(with_reducible (first|(refine wB (L:=[]) M ?_;clear M;intro za w1 M)|refine wq M ?_))|(go_at_call 52;with_reducible refine(HFN.out _).mono ?_;rintro e w5 ⟨rfl,hb5⟩;replace M:=M.below hb5;clear hb5)|(go_at_call 14;refine(in_any _ _ _ _).mono ?_;rintro e w4 ⟨rfl,rfl⟩;(try rw[hin])))
 replace M:=M.none_ (plainF_firm (fun s:ByteArray=>[.string s])) 9 1
 go_cut [5,6,7] (fun e a i wx=> ∃ (ev:Int) (ra:Option Addr) (rc:Nat) (al:List ByteArray),e= .int .i64 ev∧a= .slice ra al.length rc∧Mem (StaysB g w0) g w0 wx ⟨0,0⟩ (slc w0.heap.size 9 1 wordF (.slice ra al.length rc) al::own za [.string x.name,.slice a1 n1 c1,.slice a2 n2 c2,.slice a3 n3 c3,.slice a4 n4 c4,.string x.etype,.slice a6 n6 c6] 47::[])∧Hid (al.length≤3)∧Hid (ev=0→al=vars x.whens++vars (x.nots.take 0))∧Hid (Stg ts x (Pre1 ts x) (notE ts x) 0 ev))
 case first=>
  go_wp2_with fail
  go_loopg [5,6,7] n1 (fun f e a i wr=> ∃ (j:Nat) (ev:Int) (ra:Option Addr) (rc:Nat) (al:List ByteArray),j+f=n1∧e= .int .i64 ev∧a= .slice ra al.length rc∧i= .int .i64 j∧Mem (StaysB g w0) g w0 wr ⟨0,0⟩ (slc w0.heap.size 9 1 wordF (.slice ra al.length rc) al::own za [.string x.name,.slice a1 n1 c1,.slice a2 n2 c2,.slice a3 n3 c3,.slice a4 n4 c4,.string x.etype,.slice a6 n6 c6] 47::[])∧Hid (al.length≤j)∧Hid (ev=0→al=vars (x.whens.take j))∧Hid (Stg ts x (Pre0 x) (whenE ts x) j ev))
  case atStart=>exact⟨0,0,none,0,[],by omega,rfl,rfl,rfl,M,Nat.le_refl _,fun _=>rfl,⟨fun h=>absurd rfl h,fun _=>⟨hp0.out,allZ_zero _⟩⟩⟩
  case round=>
   clear M
   obtain⟨j,ev,ra,rc,al,hj,rfl,rfl,rfl,M,HL,HA,HS⟩:=hrel
   by_cases hev:ev=0
   ·by_cases hlt:j<n1
    ·have hkl:j<x.whens.length:=by have:=N1.out;omega
     have HS2:=Lib.hid (stg_when HS.out hev hkl)
     obtain⟨hp,hz⟩:=HS.out.2 hev
     have hal:=HA.out hev
     have HB:Hid (al.length≤100000):=by have:=HL.out;show _≤_;omega
     obtain⟨cp,op,rowp,hixp, -,hrrp,hwp⟩:=SlF.rowAt (P:=Tryz.prog) X1.out patF_firm Tryz.underlying40 size_pat (i:=j) hkl
     obtain⟨p1,q1,s1,ep,u1⟩:=patF.open18 hrrp
     subst ep
     have HR:=Lib.hid (fun wx hb=>(hwp wx hb).1)
     have HP0:Hid (∀ wx,Below w0.heap.size w0 wx→wx.cell? ⟨cp,op,none⟩=some (.string x.whens[j].var)):=fun wx hb=>(hwp wx hb).1 0 _ rfl
     have hpo:=hok.whens _ (List.getElem_mem hkl)
     have HC:Hid (∀ wx,Below w0.heap.size w0 wx→SlF (fun _=>True) wx 1 wordF ra al.length rc al→Calls Tryz.prog 53 #[.slice ao n cap,.slice a1 j c1,.slice ra al.length rc,.agg (pat18 x.whens[j] p1 q1 s1).toArray,.int .i64 0] wx fun e w' =>e= .returned (.int .i64 (whenE ts x j))∧Below wx.heap.size wx w'):=fun wx hb hA=>by
      have hE:whenE ts x j=patE ts (x.whens.take j) al x.whens[j] 0:=by unfold whenE;rw[hal,List.getD_eq_getElem?_getD,List.getElem?_eq_getElem hkl];rfl
      rw[hE]
      exact patternFault_any (Nat.lt_of_lt_of_le hg hb.size) (hX.out.below typF_firm hb) hts ((X1.out.take j c1 (by omega) (by omega) (Nat.le_refl _)).below patF_firm hb) (whens_there (by omega) hz) hA _ (u1.below condF_firm hb) hpo.var hpo.con 0 (by omega)
     have HAL:Hid (al++[x.whens[j].var]=vars (x.whens.take (j+1))):=by show _=_;rw[hal];exact take_vars hkl
     clear hwp hrrp u1 hal hz hp hpo
     generalize x.whens[j]=p at HR HP0 HC HAL
     clear hkl
     generalize whenE ts x j=ev2 at HC HS2
     unfold pat18 at HR HC
     subst hev
     have hjc:j≤c1:=by omega
     clear HA HS hX X1 X2 X3 X4 h' hok hts hg
     go_wp2_with (with_reducible refine wq M ?_)
     ((refine wp_region_still_tail 11 (by kernel_rfl) (by kernel_rfl) ?_);(simp only[List.take_succ_cons,List.take_zero,List.drop_succ_cons,List.drop_zero]);(change wpStill _ _ (World.drew _) (fun a' =>wpList _ _ _ _ a' (World.drew _)) _ _);replace M:=M.drew;generalize World.drew _=wd at M ⊢;(repeat(first|((with_reducible refine s_list rfl fun K hK=>?_);refine s_load ?_;(first|(refine q_at (HR.out _ M.new) (by rfl) ?_)|refine q_get M (by exact rfl) ?_);refine⟨rfl,hK _ ?_⟩;clear hK K)|((with_reducible refine s_list rfl fun K hK=>?_);refine s_pure ?_;go_simp;refine hK _ ?_;clear hK K)));(refine wpStill_nil ?_))
     go_wp2_with (first|(go_at_call 53;with_reducible refine(HC.out _ M.new (M.slf (plainF_firm _) (i:=0) rfl (by decide))).mono ?_;rintro e w5 ⟨rfl,hb5⟩;replace M:=M.below hb5;clear hb5)|(first|(with_reducible (first|refine wq M ?_|refine wC (HP0.out _ M.new) ?_|(refine w_ (q_row1 M ?_);clear M;intro q w M)))|(refine w_ (q_app (R:=wordF) (plainF_firm _) M 1 rfl _ rfl (by rfl) (by rfl) HB.out ?_);clear M;intro ra2 rc2 w M;(simp only[List.set_cons_zero,List.set_cons_succ]at M))))
     all_goals
      go_roundg (n1 - (j+1))
      case measure=>omega
      case rel=>exact⟨j+1,ev2,ra2,rc2,al++[p.var],by omega,rfl,by simp,by go_num,by(have e:(al++[p.var]).length=al.length+1:=by simp);rw[e];exact M.drop,by(have:=HL.out;show _≤_;simp only[List.length_append,List.length_cons,List.length_nil];omega),fun _=>HAL.out,HS2⟩
    ·have hjn:j=n1:=by omega
     have HQ:Hid (Stg ts x (Pre1 ts x) (notE ts x) 0 ev):=stg_next HS.out (fun _ hp hz=>⟨hp,by rw[←N1.out,←hjn];exact hz⟩)
     have HA2:Hid (ev=0→al=vars x.whens++vars (x.nots.take 0)):=fun h=>by rw[HA.out h];rw[hjn,N1.out,List.take_length];simp[vars]
     have HL2:Hid (al.length≤3):=by have:=HL.out;show _≤_;omega
     subst hev
     clear HA HS hX X1 X2 X3 X4 h' hok hts hg
     go_wp2_with (with_reducible refine wq M ?_)
     go_meet
     case rel=>exact⟨0,ra,rc,al,rfl,rfl,M,HL2,fun h=>HA2.out (by trivial),HQ⟩
   ·have hevb:(ev==0)=false:=by simpa using hev
    have HQ:Hid (Stg ts x (Pre1 ts x) (notE ts x) 0 ev):=stg_next HS.out (fun h=>absurd h hev)
    have HA2:Hid (ev=0→al=vars x.whens++vars (x.nots.take 0)):=fun h=>absurd h hev
    have HL2:Hid (al.length≤3):=by have:=HL.out;show _≤_;omega
    clear HA HS hX X1 X2 X3 X4 h' hok hts hg
    go_wp2_with (with_reducible refine wq M ?_)
    all_goals
     go_meet
     case rel=>exact⟨ev,ra,rc,al,rfl,rfl,M,HL2,fun h=>HA2.out (by exact h),HQ⟩
 case rest=>
 clear M
 obtain⟨ev,ra,rc,al,rfl,rfl,M,HL,HA,HS⟩:=hcut
 go_upto_block 2 with(with_reducible (first|refine wq M ?_|(refine wS M ?_;clear M;intro w M)|(refine wV M ?_;clear M;intro z w M)|(refine wR M ?_;clear M;intro q w M)))
 go_cut [5,6,8] (fun e a i wx=> ∃ (ev:Int) (ra:Option Addr) (rc:Nat) (al:List ByteArray),e= .int .i64 ev∧a= .slice ra al.length rc∧Mem (StaysB g w0) g w0 wx ⟨0,0⟩ (slc w0.heap.size 9 1 wordF (.slice ra al.length rc) al::own za [.string x.name,.slice a1 n1 c1,.slice a2 n2 c2,.slice a3 n3 c3,.slice a4 n4 c4,.string x.etype,.slice a6 n6 c6] 47::[])∧Hid (al.length≤5)∧Hid (ev=0→al=vars x.whens++vars x.nots++vars ((x.manies.take 0).map Many.pat))∧Hid (Stg ts x (Pre2 ts x) (manyE ts x) 0 ev))
 case first=>
  go_wp2_with fail
  go_loopg [5,6,8] n2 (fun f e a i wr=> ∃ (j:Nat) (ev:Int) (ra:Option Addr) (rc:Nat) (al:List ByteArray),j+f=n2∧e= .int .i64 ev∧a= .slice ra al.length rc∧i= .int .i64 j∧Mem (StaysB g w0) g w0 wr ⟨0,0⟩ (slc w0.heap.size 9 1 wordF (.slice ra al.length rc) al::own za [.string x.name,.slice a1 n1 c1,.slice a2 n2 c2,.slice a3 n3 c3,.slice a4 n4 c4,.string x.etype,.slice a6 n6 c6] 47::[])∧Hid (al.length≤3+j)∧Hid (ev=0→al=vars x.whens++vars (x.nots.take j))∧Hid (Stg ts x (Pre1 ts x) (notE ts x) j ev))
  case atStart=>exact⟨0,ev,ra,rc,al,by omega,rfl,rfl,rfl,M,HL,HA,HS⟩
  case round=>
   clear M
   obtain⟨j,ev,ra,rc,al,hj,rfl,rfl,rfl,M,HL,HA,HS⟩:=hrel
   by_cases hev:ev=0
   ·by_cases hlt:j<n2
    ·have hkl:j<x.nots.length:=by have:=N2.out;omega
     have HS2:=Lib.hid (stg_not HS.out hev hkl)
     obtain⟨hp,hz⟩:=HS.out.2 hev
     have hal:=HA.out hev
     have HB:Hid (al.length≤100000):=by have:=HL.out;show _≤_;omega
     obtain⟨cp,op,rowp,hixp, -,hrrp,hwp⟩:=SlF.rowAt (P:=Tryz.prog) X2.out patF_firm Tryz.underlying40 size_pat (i:=j) hkl
     obtain⟨p1,q1,s1,ep,u1⟩:=patF.open18 hrrp
     subst ep
     have HR:=Lib.hid (fun wx hb=>(hwp wx hb).1)
     have HP0:Hid (∀ wx,Below w0.heap.size w0 wx→wx.cell? ⟨cp,op,none⟩=some (.string x.nots[j].var)):=fun wx hb=>(hwp wx hb).1 0 _ rfl
     have hpo:=hok.nots _ (List.getElem_mem hkl)
     have HC:Hid (∀ wx,Below w0.heap.size w0 wx→SlF (fun _=>True) wx 1 wordF ra al.length rc al→Calls Tryz.prog 53 #[.slice ao n cap,.slice a1 n1 c1,.slice ra al.length rc,.agg (pat18 x.nots[j] p1 q1 s1).toArray,.int .i64 1] wx fun e w' =>e= .returned (.int .i64 (notE ts x j))∧Below wx.heap.size wx w'):=fun wx hb hA=>by
      have hE:notE ts x j=patE ts x.whens al x.nots[j] 1:=by unfold notE;rw[hal,List.getD_eq_getElem?_getD,List.getElem?_eq_getElem hkl];rfl
      rw[hE]
      exact patternFault_any (Nat.lt_of_lt_of_le hg hb.size) (hX.out.below typF_firm hb) hts (X1.out.below patF_firm hb) (by have h:=whens_there (Nat.le_refl _) hp.2;rw[List.take_length]at h;exact h) hA _ (u1.below condF_firm hb) hpo.var hpo.con 1 (by omega)
     have HAL:Hid (al++[x.nots[j].var]=vars x.whens++vars (x.nots.take (j+1))):=by show _=_;rw[hal];rw[List.append_assoc,take_vars hkl]
     clear hwp hrrp u1 hal hz hp hpo
     generalize x.nots[j]=p at HR HP0 HC HAL
     clear hkl
     generalize notE ts x j=ev2 at HC HS2
     unfold pat18 at HR HC
     subst hev
     clear HA HS hX X1 X2 X3 X4 h' hok hts hg
     go_wp2_with (with_reducible refine wq M ?_)
     ((refine wp_region_still_tail 9 (by kernel_rfl) (by kernel_rfl) ?_);(simp only[List.take_succ_cons,List.take_zero,List.drop_succ_cons,List.drop_zero]);(change wpStill _ _ (World.drew _) (fun a' =>wpList _ _ _ _ a' (World.drew _)) _ _);replace M:=M.drew;generalize World.drew _=wd at M ⊢;(repeat(first|((with_reducible refine s_list rfl fun K hK=>?_);refine s_load ?_;(first|(refine q_at (HR.out _ M.new) (by rfl) ?_)|refine q_get M (by exact rfl) ?_);refine⟨rfl,hK _ ?_⟩;clear hK K)|((with_reducible refine s_list rfl fun K hK=>?_);refine s_pure ?_;go_simp;refine hK _ ?_;clear hK K)));(refine wpStill_nil ?_))
     go_wp2_with (first|(go_at_call 53;with_reducible refine(HC.out _ M.new (M.slf (plainF_firm _) (i:=0) rfl (by decide))).mono ?_;rintro e w5 ⟨rfl,hb5⟩;replace M:=M.below hb5;clear hb5)|(first|(with_reducible (first|refine wq M ?_|refine wC (HP0.out _ M.new) ?_|(refine w_ (q_row1 M ?_);clear M;intro q w M)))|(refine w_ (q_app (R:=wordF) (plainF_firm _) M 1 rfl _ rfl (by rfl) (by rfl) HB.out ?_);clear M;intro ra2 rc2 w M;(simp only[List.set_cons_zero,List.set_cons_succ]at M))))
     all_goals
      go_roundg (n2 - (j+1))
      case measure=>omega
      case rel=>exact⟨j+1,ev2,ra2,rc2,al++[p.var],by omega,rfl,by simp,by go_num,by(have e:(al++[p.var]).length=al.length+1:=by simp);rw[e];exact M.drop,by(have:=HL.out;show _≤_;simp only[List.length_append,List.length_cons,List.length_nil];omega),fun _=>HAL.out,HS2⟩
    ·have hjn:j=n2:=by omega
     have HQ:Hid (Stg ts x (Pre2 ts x) (manyE ts x) 0 ev):=stg_next HS.out (fun _ hp hz=>⟨hp,by rw[←N2.out,←hjn];exact hz⟩)
     have HA2:Hid (ev=0→al=vars x.whens++vars x.nots++vars ((x.manies.take 0).map Many.pat)):=fun h=>by rw[HA.out h];rw[hjn,N2.out,List.take_length];simp[vars]
     have HL2:Hid (al.length≤5):=by have:=HL.out;show _≤_;omega
     subst hev
     clear HA HS hX X1 X2 X3 X4 h' hok hts hg
     go_wp2_with (with_reducible refine wq M ?_)
     go_meet
     case rel=>exact⟨0,ra,rc,al,rfl,rfl,M,HL2,fun h=>HA2.out (by trivial),HQ⟩
   ·have hevb:(ev==0)=false:=by simpa using hev
    have HQ:Hid (Stg ts x (Pre2 ts x) (manyE ts x) 0 ev):=stg_next HS.out (fun h=>absurd h hev)
    have HA2:Hid (ev=0→al=vars x.whens++vars x.nots++vars ((x.manies.take 0).map Many.pat)):=fun h=>absurd h hev
    have HL2:Hid (al.length≤5):=by have:=HL.out;show _≤_;omega
    clear HA HS hX X1 X2 X3 X4 h' hok hts hg
    go_wp2_with (with_reducible refine wq M ?_)
    all_goals
     go_meet
     case rel=>exact⟨ev,ra,rc,al,rfl,rfl,M,HL2,fun h=>HA2.out (by exact h),HQ⟩
 case rest=>
 clear M
 obtain⟨ev,ra,rc,al,rfl,rfl,M,HL,HA,HS⟩:=hcut
 go_upto_block 4 with(with_reducible (first|refine wq M ?_|(refine wS M ?_;clear M;intro w M)|(refine wV M ?_;clear M;intro z w M)|(refine wR M ?_;clear M;intro q w M)))
 go_cut [5,6,9] (fun e a i wx=> ∃ (ev:Int) (ra:Option Addr) (rc:Nat) (al:List ByteArray),e= .int .i64 ev∧a= .slice ra al.length rc∧Mem (StaysB g w0) g w0 wx ⟨0,0⟩ (slc w0.heap.size 9 1 wordF (.slice ra al.length rc) al::own za [.string x.name,.slice a1 n1 c1,.slice a2 n2 c2,.slice a3 n3 c3,.slice a4 n4 c4,.string x.etype,.slice a6 n6 c6] 47::[])∧Hid (al.length≤7)∧Hid (ev=0→al=al)∧Hid (Stg ts x (Pre3 ts x) (lnkE x) 0 ev))
 case first=>
  go_wp2_with fail
  go_loopg [5,6,9] n3 (fun f e a i wr=> ∃ (j:Nat) (ev:Int) (ra:Option Addr) (rc:Nat) (al:List ByteArray),j+f=n3∧e= .int .i64 ev∧a= .slice ra al.length rc∧i= .int .i64 j∧Mem (StaysB g w0) g w0 wr ⟨0,0⟩ (slc w0.heap.size 9 1 wordF (.slice ra al.length rc) al::own za [.string x.name,.slice a1 n1 c1,.slice a2 n2 c2,.slice a3 n3 c3,.slice a4 n4 c4,.string x.etype,.slice a6 n6 c6] 47::[])∧Hid (al.length≤5+j)∧Hid (ev=0→al=vars x.whens++vars x.nots++vars ((x.manies.take j).map Many.pat))∧Hid (Stg ts x (Pre2 ts x) (manyE ts x) j ev))
  case atStart=>exact⟨0,ev,ra,rc,al,by omega,rfl,rfl,rfl,M,HL,HA,HS⟩
  case round=>
   clear M
   obtain⟨j,ev,ra,rc,al,hj,rfl,rfl,rfl,M,HL,HA,HS⟩:=hrel
   by_cases hev:ev=0
   ·by_cases hlt:j<n3
    ·have hkl:j<x.manies.length:=by have:=N3.out;omega
     have HS2:=Lib.hid (stg_many HS.out hev hkl)
     obtain⟨hp,hz⟩:=HS.out.2 hev
     have hal:=HA.out hev
     have HB:Hid (al.length≤100000):=by have:=HL.out;show _≤_;omega
     obtain⟨cp,op,rowp,hixp, -,hrrp,hwp⟩:=SlF.rowAt (P:=Tryz.prog) X3.out manF_firm Tryz.underlying41 size_man (i:=j) hkl
     obtain⟨p1,q1,s1,ep,u1⟩:=manF.open20 hrrp
     subst ep
     have HR:=Lib.hid (fun wx hb=>(hwp wx hb).1)
     have HP2:Hid (∀ wx,Below w0.heap.size w0 wx→wx.cell? ⟨cp,op+2,none⟩=some (.string x.manies[j].pat.var)):=fun wx hb=>(hwp wx hb).1 2 _ rfl
     have hpo:=hok.manies _ (List.getElem_mem hkl)
     have hge:x.manies.getD j man0=x.manies[j]:=by rw[List.getD_eq_getElem?_getD,List.getElem?_eq_getElem hkl];rfl
     have HE:Hid (manyE ts x j=manyP ts x al x.manies[j]):=by show _=_;unfold manyE;rw[hge,←hal];rfl
     have HC:Hid (∀ wx,Below w0.heap.size w0 wx→SlF (fun _=>True) wx 1 wordF ra al.length rc al→Calls Tryz.prog 53 #[.slice ao n cap,.slice a1 n1 c1,.slice ra al.length rc,.agg (pat18 x.manies[j].pat p1 q1 s1).toArray,.int .i64 2] wx fun e w' =>e= .returned (.int .i64 (patE ts x.whens al x.manies[j].pat 2))∧Below wx.heap.size wx w'):=fun wx hb hA=>
      patternFault_any (Nat.lt_of_lt_of_le hg hb.size) (hX.out.below typF_firm hb) hts (X1.out.below patF_firm hb) (by have h:=whens_there (Nat.le_refl _) hp.1.2;rw[List.take_length]at h;exact h) hA _ (u1.below condF_firm hb) hpo.var hpo.con 2 (by omega)
     have HAL:Hid (al++[x.manies[j].pat.var]=vars x.whens++vars x.nots++vars ((x.manies.take (j+1)).map Many.pat)):=by
      show _=_
      rw[hal,List.append_assoc]
      congr 1
      rw[List.map_take,List.map_take,←take_vars (l:=x.manies.map Many.pat) (by simpa using hkl)]
      simp
     clear hwp hrrp u1 hal hz hp hpo hge
     generalize x.manies[j]=p at HR HP2 HC HAL HE
     clear hkl
     rw[HE.out]at HS2
     unfold man20 pat18 at HR
     unfold pat18 at HC
     subst hev
     unfold manyP at HS2
     have HT:=Lib.hid (fun(ht:typI ts p.pat.type<ts.length)=>SlF.rowAt (P:=Tryz.prog) hX.out typF_firm Tryz.underlying22 size_typ (i:=typI ts p.pat.type) ht)
     have HTN:Hid (typI ts p.pat.type<ts.length→ ∀ wx,Below w0.heap.size w0 wx→Calls Tryz.prog 29 #[.slice ao n cap,.string p.pat.type] wx fun e w' =>e= .returned (.int .i64 (typI ts p.pat.type:Nat))∧Below wx.heap.size wx w'):=fun ht wx hbx=>by
      have h:=typeNamed_any (Nat.lt_of_lt_of_le hg hbx.size) (hX.out.below typF_firm hbx) p.pat.type
      unfold placeV at h
      rw[if_pos ht]at h
      exact h
     have NX:=Lib.hid hX.out.len
     have HTO:Hid (∀ (ht:typI ts p.pat.type<ts.length),typOk ts[typI ts p.pat.type]):=fun ht=>hts _ (List.getElem_mem ht)
     have HTA:Hid (∀ (ht:typI ts p.pat.type<ts.length),typAt ts p.pat.type=ts[typI ts p.pat.type]):=fun ht=>by show _=_;unfold typAt;rw[List.getD_eq_getElem?_getD,List.getElem?_eq_getElem ht];rfl
     have HQT:Hid (patE ts x.whens al p.pat 2=0→typI ts p.pat.type<ts.length):=fun h=>pat_there h
     have hgg:=Lib.hid hg
     generalize patE ts x.whens al p.pat 2=qe at HC HS2 HQT
     generalize typI ts p.pat.type=ti at HT HTN HTO HTA HQT
     cases hem:emS p.field with
     |true=>
      have hf:p.field.toList=[]:=by simpa[emS]using hem
      have hsu:sumE (typAt ts p.pat.type) p.field=0:=by unfold sumE;rw[if_pos hem]
      rw[hsu]at HS2
      by_cases hc:1≤p.count∧p.count≤120
      ·have hi1:inB p.count 1 120=true:=by rw[inB_true];exact hc
       have hi2:inB p.count 0 1125899906842624=true:=by rw[inB_true];omega
       rw[if_neg (by simp only[hem,true_and];omega)]at HS2
       by_cases hq:qe=0
       ·subst hq
        rw[if_neg (by simp)]at HS2
        clear HT HTN NX HTO HTA HQT hgg hsu hem hc
        clear HA HS hX X1 X2 X3 X4 h' hok hts hg
        go_wp2_with (first|(first|(with_reducible (first|refine wq M ?_|(refine wS M ?_;clear M;intro w M)|(refine wV M ?_;clear M;intro z w M)|refine wA (HR.out _ M.new) ?_|refine wC (HP2.out _ M.new) ?_|(refine w_ (q_row1 M ?_);clear M;intro q w M)))|(refine w_ (q_app (R:=wordF) (plainF_firm _) M 2 rfl _ rfl (by rfl) (by rfl) HB.out ?_);clear M;intro ra2 rc2 w M;(simp only[List.set_cons_zero,List.set_cons_succ]at M)))|(go_at_call 14;refine(in_any _ _ _ _).mono ?_;rintro e w4 ⟨rfl,rfl⟩;(first|rw[hi1]|rw[hi2]))|(go_at_call 53;with_reducible refine(HC.out _ M.new (M.slf (plainF_firm _) (i:=1) rfl (by decide))).mono ?_;rintro e w5 ⟨rfl,hb5⟩;replace M:=M.below hb5;clear hb5))
        all_goals
         go_roundg (n3 - (j+1))
         case measure=>omega
         case rel=>exact⟨j+1,0,ra2,rc2,al++[p.pat.var],by omega,rfl,by simp,by go_num,by(have e:(al++[p.pat.var]).length=al.length+1:=by simp);rw[e];exact M.drop.drop,by(have:=HL.out;show _≤_;simp only[List.length_append,List.length_cons,List.length_nil];omega),fun _=>HAL.out,HS2⟩
       ·have hqb:(qe==0)=false:=by simpa using hq
        rw[if_pos hq]at HS2
        clear HT HTN NX HTO HTA HQT hgg hsu hem hc hq
        clear HA HS hX X1 X2 X3 X4 h' hok hts hg
        go_wp2_with (first|(first|(with_reducible (first|refine wq M ?_|(refine wS M ?_;clear M;intro w M)|(refine wV M ?_;clear M;intro z w M)|refine wA (HR.out _ M.new) ?_|refine wC (HP2.out _ M.new) ?_|(refine w_ (q_row1 M ?_);clear M;intro q w M)))|(refine w_ (q_app (R:=wordF) (plainF_firm _) M 2 rfl _ rfl (by rfl) (by rfl) HB.out ?_);clear M;intro ra2 rc2 w M;(simp only[List.set_cons_zero,List.set_cons_succ]at M)))|(go_at_call 14;refine(in_any _ _ _ _).mono ?_;rintro e w4 ⟨rfl,rfl⟩;(first|rw[hi1]|rw[hi2]))|(go_at_call 53;with_reducible refine(HC.out _ M.new (M.slf (plainF_firm _) (i:=1) rfl (by decide))).mono ?_;rintro e w5 ⟨rfl,hb5⟩;replace M:=M.below hb5;clear hb5))
        all_goals
         go_roundg (n3 - (j+1))
         case measure=>omega
         case rel=>exact⟨j+1,qe,ra2,rc2,al++[p.pat.var],by omega,rfl,by simp,by go_num,by(have e:(al++[p.pat.var]).length=al.length+1:=by simp);rw[e];exact M.drop.drop,by(have:=HL.out;show _≤_;simp only[List.length_append,List.length_cons,List.length_nil];omega),fun _=>HAL.out,HS2⟩
      ·have hi1:inB p.count 1 120=false:=by rw[inB_false];exact hc
       rw[if_pos (Or.inl ⟨hem,hc⟩)]at HS2
       have HV:Hid (ruleE ts x=2):=HS2.out.1 (by decide)
       clear HT HTN NX HTO HTA HQT hgg hsu hem hc HS2
       clear HA HS hX X1 X2 X3 X4 h' hok hts hg
       go_wp2_with (first|(with_reducible (first|refine wq M ?_|(refine wS M ?_;clear M;intro w M)|(refine wV M ?_;clear M;intro z w M)|refine wA (HR.out _ M.new) ?_))|(go_at_call 14;refine(in_any _ _ _ _).mono ?_;rintro e w4 ⟨rfl,rfl⟩;(rw[hi1])))
       go_ret
       rw[HV.out]
       exact⟨rfl,M.new⟩
     |false=>
      have hf:p.field.toList.isEmpty=false:=hem
      have hf2:(!p.field.toList.isEmpty)=true:=by rw[hf];rfl
      by_cases hc:0≤p.count∧p.count≤1125899906842624
      ·have hi2:inB p.count 0 1125899906842624=true:=by rw[inB_true];exact hc
       rw[if_neg (by simp only[hem];simp;omega)]at HS2
       by_cases hq:qe=0
       ·have ht:=HQT.out hq
        subst hq
        rw[if_neg (by simp)]at HS2
        obtain⟨ct,ot,rowt,hixt, -,hrrt,hwt⟩:=HT.out ht
        obtain⟨t1,t2,t3,et,ut⟩:=hrrt
        subst et
        have HTN2:=Lib.hid (HTN.out ht)
        have HT0:Hid (∀ wx,Below w0.heap.size w0 wx→wx.rangeAt ct ot [.string ts[ti].name,.slice t1 t2 t3]):=fun wx hbx=>(hwt wx hbx).1
        have htok:=HTO.out ht
        have hta:=HTA.out ht
        have HSF:Hid (∀ wx,Below w0.heap.size w0 wx→Calls Tryz.prog 54 #[.agg #[.string ts[ti].name,.slice t1 t2 t3],.string p.field] wx fun e w' =>e= .returned (.int .i64 (sumE (typAt ts p.pat.type) p.field))∧Below wx.heap.size wx w'):=fun wx hbx=>by
         rw[hta]
         exact sumFault_any (Nat.lt_of_lt_of_le hg hbx.size) (ut.below (plainF_firm _) hbx) htok p.field hem
        have htn:(ti:Int)<n:=by have:=NX.out;omega
        have htp:(0:Int)≤(ti:Nat):=by omega
        clear hwt ut htok hta
        generalize ts[ti].name=tname at HT0 HSF
        generalize sumE (typAt ts p.pat.type) p.field=se at HSF HS2
        clear HT HTN NX HTO HTA HQT hgg hem hc ht
        clear HA HS hX X1 X2 X3 X4 h' hok hts hg
        go_wp2_with (first|(with_reducible (first|refine wq M ?_|(refine wS M ?_;clear M;intro w M)|(refine wV M ?_;clear M;intro z w M)|refine wA (HR.out _ M.new) ?_))|(go_at_call 14;refine(in_any _ _ _ _).mono ?_;rintro e w4 ⟨rfl,rfl⟩;(rw[hi2]))|(go_at_call 53;with_reducible refine(HC.out _ M.new (M.slf (plainF_firm _) (i:=1) rfl (by decide))).mono ?_;rintro e w5 ⟨rfl,hb5⟩;replace M:=M.below hb5;clear hb5))
        (refine wp_region_any (by kernel_rfl) ?_;(try(change wpAny _ _ _ _ _ _ _ (World.drew _)));replace M:=M.drew;generalize World.drew _=w at M ⊢;have S:=St.o;((refine tk 0 (v:=?_) rfl (by kernel_rfl) rfl ?_ ?_;rotate_left;focus(intro w;go_simp;try with_reducible rfl));(try go_simp);(refine tk 1 (v:=?_) rfl (by kernel_rfl) rfl ?_ ?_;rotate_left;focus(intro w;go_simp;try with_reducible rfl));(try go_simp);(refine tk 2 (v:=?_) rfl (by kernel_rfl) rfl ?_ ?_;rotate_left;focus(intro w;go_simp;try with_reducible rfl));(try go_simp);(refine tk 3 (v:=?_) rfl (by kernel_rfl) rfl ?_ ?_;rotate_left;focus(intro w;go_simp;try with_reducible rfl));(try go_simp);(refine tk 8 (v:=?_) rfl (by kernel_rfl) rfl ?_ ?_;rotate_left;focus(intro w;go_simp;try with_reducible rfl));(try go_simp);replace S:=S.add 271;refine rd2 4 9 (by kernel_rfl) rfl rfl ?_ rfl rfl ?_<;>intro K hK);all_goals(first|(refine o_dst (some 153) ?_;(refine q_get M (by exact rfl) ?_);(all_goals(refine hK _ _ ?_;clear hK K;replace S:=S.add 16)))|(refine o_dst (some 158) ?_;(refine q_get M (by exact rfl) ?_);(all_goals(refine hK _ _ ?_;clear hK K;replace S:=S.add 512))));all_goals(first|(replace S:St 287:=S;refine rd2 5 9 (by kernel_rfl) rfl rfl ?_ rfl rfl ?_<;>intro K hK)|(replace S:St 783:=S;refine rd1 4 (by kernel_rfl) rfl rfl ?_<;>intro K hK));all_goals(first|(refine o_dst (some 154) ?_;(refine owp_of ?_;go_simp;(go_at_call 29;with_reducible refine(HTN2.out _ M.new).mono ?_;rintro e w5 ⟨rfl,hb5⟩;replace M:=M.below hb5;clear hb5);(try go_simp));(all_goals(refine hK _ _ ?_;clear hK K;replace S:=S.add 32)))|(refine o_dst (some 158) ?_;(refine q_get M (by exact rfl) ?_);(all_goals(refine hK _ _ ?_;clear hK K;replace S:=S.add 512)))|(refine o_dst (some 153) ?_;(refine q_get M (by exact rfl) ?_);(all_goals(refine hK _ _ ?_;clear hK K;replace S:=S.add 16))));all_goals(first|(replace S:St 319:=S;(refine tk 6 (v:=?_) rfl (by kernel_rfl) rfl ?_ ?_;rotate_left;focus(intro w;go_simp;try with_reducible rfl));(try go_simp);replace S:=S.add 64;refine rd2 7 9 (by kernel_rfl) rfl rfl ?_ rfl rfl ?_<;>intro K hK)|(replace S:St 799:=S;refine rd1 5 (by kernel_rfl) rfl rfl ?_<;>intro K hK));all_goals(first|(refine o_dst (some 156) ?_;(refine q_at (HT0.out _ M.new) (by rfl) ?_);(all_goals(refine hK _ _ ?_;clear hK K;replace S:=S.add 128)))|(refine o_dst (some 158) ?_;(refine q_get M (by exact rfl) ?_);(all_goals(refine hK _ _ ?_;clear hK K;replace S:=S.add 512)))|(refine o_dst (some 154) ?_;(refine owp_of ?_;go_simp;(go_at_call 29;with_reducible refine(HTN2.out _ M.new).mono ?_;rintro e w5 ⟨rfl,hb5⟩;replace M:=M.below hb5;clear hb5);(try go_simp));(all_goals(refine hK _ _ ?_;clear hK K;replace S:=S.add 32))));all_goals(first|(replace S:St 511:=S;refine rd1 9 (by kernel_rfl) rfl rfl ?_<;>intro K hK)|(replace S:St 895:=S;refine rd1 7 (by kernel_rfl) rfl rfl ?_<;>intro K hK)|(replace S:St 831:=S;(refine tk 6 (v:=?_) rfl (by kernel_rfl) rfl ?_ ?_;rotate_left;focus(intro w;go_simp;try with_reducible rfl));(try go_simp);replace S:=S.add 64;refine rd1 7 (by kernel_rfl) rfl rfl ?_<;>intro K hK));all_goals(first|(refine o_dst (some 158) ?_;(refine q_get M (by exact rfl) ?_);(all_goals(refine hK _ _ ?_;clear hK K;replace S:=S.add 512)))|(refine o_dst (some 156) ?_;(refine q_at (HT0.out _ M.new) (by rfl) ?_);(all_goals(refine hK _ _ ?_;clear hK K;replace S:=S.add 128))));all_goals(refine rd1 10 (by kernel_rfl) rfl rfl ?_<;>intro K hK);all_goals(refine o_dst (some 159) ?_;(refine owp_of ?_;go_simp;(go_at_call 54;with_reducible refine(HSF.out _ M.new).mono ?_;rintro e w5 ⟨rfl,hb5⟩;replace M:=M.below hb5;clear hb5);(try go_simp));(all_goals(refine hK _ _ ?_;clear hK K;replace S:=S.add 1024)));all_goals(clear S;((refine tk 11 (v:=?_) rfl (by kernel_rfl) rfl ?_ ?_;rotate_left;focus(intro w;go_simp;try with_reducible rfl));(try go_simp);refine wpAny_done (by kernel_rfl) ?_ _)))
        all_goals(go_wp2_with (first|(with_reducible (first|refine wq M ?_|refine wC (HP2.out _ M.new) ?_|(refine w_ (q_row1 M ?_);clear M;intro q w M)))|(refine w_ (q_app (R:=wordF) (plainF_firm _) M 2 rfl _ rfl (by rfl) (by rfl) HB.out ?_);clear M;intro ra2 rc2 w M;(simp only[List.set_cons_zero,List.set_cons_succ]at M))))
        all_goals
         go_roundg (n3 - (j+1))
         case measure=>omega
         case rel=>exact⟨j+1,se,ra2,rc2,al++[p.pat.var],by omega,rfl,by simp,by go_num,by(have e:(al++[p.pat.var]).length=al.length+1:=by simp);rw[e];exact M.drop.drop,by(have:=HL.out;show _≤_;simp only[List.length_append,List.length_cons,List.length_nil];omega),fun _=>HAL.out,HS2⟩
       ·have hqb:(qe==0)=false:=by simpa using hq
        rw[if_pos hq]at HS2
        clear HT HTN NX HTO HTA HQT hgg hem hc hq
        clear HA HS hX X1 X2 X3 X4 h' hok hts hg
        go_wp2_with (first|(first|(with_reducible (first|refine wq M ?_|(refine wS M ?_;clear M;intro w M)|(refine wV M ?_;clear M;intro z w M)|refine wA (HR.out _ M.new) ?_|refine wC (HP2.out _ M.new) ?_|(refine w_ (q_row1 M ?_);clear M;intro q w M)))|(refine w_ (q_app (R:=wordF) (plainF_firm _) M 2 rfl _ rfl (by rfl) (by rfl) HB.out ?_);clear M;intro ra2 rc2 w M;(simp only[List.set_cons_zero,List.set_cons_succ]at M)))|(go_at_call 14;refine(in_any _ _ _ _).mono ?_;rintro e w4 ⟨rfl,rfl⟩;(rw[hi2]))|(go_at_call 53;with_reducible refine(HC.out _ M.new (M.slf (plainF_firm _) (i:=1) rfl (by decide))).mono ?_;rintro e w5 ⟨rfl,hb5⟩;replace M:=M.below hb5;clear hb5))
        all_goals
         go_roundg (n3 - (j+1))
         case measure=>omega
         case rel=>exact⟨j+1,qe,ra2,rc2,al++[p.pat.var],by omega,rfl,by simp,by go_num,by(have e:(al++[p.pat.var]).length=al.length+1:=by simp);rw[e];exact M.drop.drop,by(have:=HL.out;show _≤_;simp only[List.length_append,List.length_cons,List.length_nil];omega),fun _=>HAL.out,HS2⟩
      ·have hi2:inB p.count 0 1125899906842624=false:=by rw[inB_false];exact hc
       rw[if_pos (Or.inr hc)]at HS2
       have HV:Hid (ruleE ts x=2):=HS2.out.1 (by decide)
       clear HT HTN NX HTO HTA HQT hgg hem hc HS2
       clear HA HS hX X1 X2 X3 X4 h' hok hts hg
       go_wp2_with (first|(with_reducible (first|refine wq M ?_|(refine wS M ?_;clear M;intro w M)|(refine wV M ?_;clear M;intro z w M)|refine wA (HR.out _ M.new) ?_))|(go_at_call 14;refine(in_any _ _ _ _).mono ?_;rintro e w4 ⟨rfl,rfl⟩;(rw[hi2])))
       go_ret
       rw[HV.out]
       exact⟨rfl,M.new⟩
    ·have hjn:j=n3:=by omega
     have HQ:Hid (Stg ts x (Pre3 ts x) (lnkE x) 0 ev):=stg_next HS.out (fun _ hp hz=>⟨hp,by rw[←N3.out,←hjn];exact hz⟩)
     have HA2:Hid (ev=0→al=al):=fun h=>rfl
     have HL2:Hid (al.length≤7):=by have:=HL.out;show _≤_;omega
     subst hev
     clear HA HS hX X1 X2 X3 X4 h' hok hts hg
     go_wp2_with (with_reducible refine wq M ?_)
     go_meet
     case rel=>exact⟨0,ra,rc,al,rfl,rfl,M,HL2,fun h=>HA2.out (by trivial),HQ⟩
   ·have hevb:(ev==0)=false:=by simpa using hev
    have HQ:Hid (Stg ts x (Pre3 ts x) (lnkE x) 0 ev):=stg_next HS.out (fun h=>absurd h hev)
    have HA2:Hid (ev=0→al=al):=fun h=>absurd h hev
    have HL2:Hid (al.length≤7):=by have:=HL.out;show _≤_;omega
    clear HA HS hX X1 X2 X3 X4 h' hok hts hg
    go_wp2_with (with_reducible refine wq M ?_)
    all_goals
     go_meet
     case rel=>exact⟨ev,ra,rc,al,rfl,rfl,M,HL2,fun h=>HA2.out (by exact h),HQ⟩
 case rest=>
 clear M
 obtain⟨ev,ra,rc,al,rfl,rfl,M,HL,HA,HS⟩:=hcut
 clear HA
 go_upto_block 6 with(with_reducible (first|refine wq M ?_|(refine wS M ?_;clear M;intro w M)|(refine wV M ?_;clear M;intro z w M)|(refine wR M ?_;clear M;intro q w M)))
 go_cut [5,11] (fun e i wx=> ∃ (ev:Int),e= .int .i64 ev∧Mem (StaysB g w0) g w0 wx ⟨0,0⟩ (slc w0.heap.size 9 1 wordF (.slice ra al.length rc) al::own za [.string x.name,.slice a1 n1 c1,.slice a2 n2 c2,.slice a3 n3 c3,.slice a4 n4 c4,.string x.etype,.slice a6 n6 c6] 47::[])∧Hid (Stg ts x (Pre4 ts x) (fun _=>0) 0 ev))
 case first=>
  go_wp2_with fail
  go_loopg [5,11] n4 (fun f e i wr=> ∃ (j:Nat) (ev:Int),j+f=n4∧e= .int .i64 ev∧i= .int .i64 j∧Mem (StaysB g w0) g w0 wr ⟨0,0⟩ (slc w0.heap.size 9 1 wordF (.slice ra al.length rc) al::own za [.string x.name,.slice a1 n1 c1,.slice a2 n2 c2,.slice a3 n3 c3,.slice a4 n4 c4,.string x.etype,.slice a6 n6 c6] 47::[])∧Hid (Stg ts x (Pre3 ts x) (lnkE x) j ev))
  case atStart=>exact⟨0,ev,by omega,rfl,rfl,M,HS⟩
  case round=>
   clear M
   obtain⟨j,ev,hj,rfl,rfl,M,HS⟩:=hrel
   by_cases hev:ev=0
   ·by_cases hlt:j<n4
    ·have hkl:j<x.links.length:=by have:=N4.out;omega
     have HS2:=Lib.hid (stg_link HS.out hev hkl)
     obtain⟨cp,op,rowp,hixp, -,hrrp,hwp⟩:=SlF.rowAt (P:=Tryz.prog) X4.out lnkF_firm Tryz.underlying42 size_lnk (i:=j) hkl
     obtain⟨p1,q1,s1,ep,u1⟩:=hrrp
     subst ep
     have HR:=Lib.hid (fun wx hb=>(hwp wx hb).1)
     have HC:Hid (∀ wx,Below w0.heap.size w0 wx→Calls Tryz.prog 55 #[.agg (rulC x (.slice a1 n1 c1) (.slice a2 n2 c2) (.slice a3 n3 c3) (.slice a4 n4 c4) (.slice a6 n6 c6)).toArray,.agg (lnkC x.links[j] p1 q1 s1).toArray] wx fun e w' =>e= .returned (.int .i64 (lnkE x j))∧Below wx.heap.size wx w'):=fun wx hb=>by
      have hE:lnkE x j=linkE x x.links[j]:=by unfold lnkE;rw[List.getD_eq_getElem?_getD,List.getElem?_eq_getElem hkl];rfl
      rw[hE]
      exact linkFault_any (Nat.lt_of_lt_of_le hg hb.size) x _ (rulF_firm _ _ _ _ _ _ (Same.below hb) h'.out) x.links[j] p1 q1 s1 (u1.below (plainF_firm _) hb)
     clear hwp u1
     unfold lnkC at HR HC
     unfold rulC at HC
     generalize x.links[j]=p at HR HC
     clear hkl
     generalize lnkE x j=ev2 at HC HS2
     subst hev
     clear HL hX X1 X2 X3 X4 h' hok hts hg
     go_wp2_with (with_reducible refine wq M ?_)
     ((refine wp_region_still_tail 6 (by kernel_rfl) (by kernel_rfl) ?_);(simp only[List.take_succ_cons,List.take_zero,List.drop_succ_cons,List.drop_zero]);(change wpStill _ _ (World.drew _) (fun a' =>wpList _ _ _ _ a' (World.drew _)) _ _);replace M:=M.drew;generalize World.drew _=wd at M ⊢;(repeat(first|((with_reducible refine s_list rfl fun K hK=>?_);refine s_load ?_;(first|(refine q_at (HR.out _ M.new) (by rfl) ?_)|refine q_all M (by rfl) ?_|refine q_get M (by exact rfl) ?_);refine⟨rfl,hK _ ?_⟩;clear hK K)|((with_reducible refine s_list rfl fun K hK=>?_);refine s_pure ?_;go_simp;refine hK _ ?_;clear hK K)));(refine wpStill_nil ?_))
     go_wp2_with (go_at_call 55;with_reducible refine(HC.out _ M.new).mono ?_;rintro e w5 ⟨rfl,hb5⟩;replace M:=M.below hb5;clear hb5)
     all_goals
      go_roundg (n4 - (j+1))
      case measure=>omega
      case rel=>exact⟨j+1,ev2,by omega,rfl,by go_num,M,HS2⟩
    ·have hjn:j=n4:=by omega
     have HQ:Hid (Stg ts x (Pre4 ts x) (fun _=>0) 0 ev):=stg_next HS.out (fun _ hp hz=>⟨hp,by rw[←N4.out,←hjn];exact hz⟩)
     subst hev
     clear HL hX X1 X2 X3 X4 h' hok hts hg
     go_wp2_with (with_reducible refine wq M ?_)
     go_meet
     case rel=>exact⟨0,rfl,M,HQ⟩
   ·have hevb:(ev==0)=false:=by simpa using hev
    have HQ:Hid (Stg ts x (Pre4 ts x) (fun _=>0) 0 ev):=stg_next HS.out (fun h=>absurd h hev)
    clear HL hX X1 X2 X3 X4 h' hok hts hg
    go_wp2_with (with_reducible refine wq M ?_)
    all_goals
     go_meet
     case rel=>exact⟨ev,rfl,M,HQ⟩
 case rest=>
 clear M
 obtain⟨ev,rfl,M,HS⟩:=hcut
 by_cases hev:ev=0
 ·have HV:Hid (ruleE ts x=emitE ts x):=ruleE_end (HS.out.2 hev).1
  have hkn: ∀ p∈x.whens,typI ts p.type<ts.length:=by
   have h:=whens_there (Nat.le_refl _) (HS.out.2 hev).1.1.1.1.2
   rw[List.take_length]at h
   exact h
  have HEM:Hid (∀ wx,Below w0.heap.size w0 wx→Calls Tryz.prog 56 #[.slice ao n cap,.agg (rulC x (.slice a1 n1 c1) (.slice a2 n2 c2) (.slice a3 n3 c3) (.slice a4 n4 c4) (.slice a6 n6 c6)).toArray] wx fun e w' =>e= .returned (.int .i64 (emitE ts x))∧Below wx.heap.size wx w'):=fun wx hb=>
   emitFault_any (Nat.lt_of_lt_of_le hg hb.size) (hX.out.below typF_firm hb) hts x _ (rulF_firm _ _ _ _ _ _ (Same.below hb) h'.out) hkn hok.evals
  unfold rulC at HEM
  subst hev
  clear hkn HS
  clear HL hX X1 X2 X3 X4 h' hok hts hg
  go_wp2_with (first|(with_reducible refine wq M ?_)|(go_at_call 56;with_reducible refine(HEM.out _ M.new).mono ?_;rintro e w5 ⟨rfl,hb5⟩;replace M:=M.below hb5;clear hb5))
  go_ret
  rw[HV.out]
  exact⟨rfl,M.new⟩
 ·have HV:Hid (ruleE ts x=ev):=HS.out.1 hev
  have hevb:(ev==0)=false:=by simpa using hev
  clear HS
  clear HL hX X1 X2 X3 X4 h' hok hts hg
  go_wp2_with (with_reducible (first|refine wq M ?_|(refine wS M ?_;clear M;intro w M)|(refine wV M ?_;clear M;intro z w M)|(refine wR M ?_;clear M;intro q w M)))
  go_ret
  rw[HV.out]
  exact⟨rfl,M.new⟩
theorem ruleFault_any(hg:g<w0.heap.size)(hX:SlF F w0 2 typF ao n cap ts)(hts: ∀ t∈ts,typOk t)(x:Rul)(row:List Value)(h:rulF G w0 row x)(hok:RulOk x):Calls Tryz.prog 30 #[.slice ao n cap,.agg row.toArray] w0 fun e w' =>e= .returned (.int .i64 (ruleE ts x))∧Below w0.heap.size w0 w' :=by
 by_cases h0:freeE x.name=0
 ·cases h1:sizeB x with
  |true=>exact ruleFault_size hg hX hts x row h hok h0 h1
  |false=>exact ruleFault_main hg hX hts x row h hok h0 h1
 ·exact ruleFault_pre hg hX hts x row h hok h0
end
end Go.Proofs.YtncmghnhfipklaaGreatDoor
