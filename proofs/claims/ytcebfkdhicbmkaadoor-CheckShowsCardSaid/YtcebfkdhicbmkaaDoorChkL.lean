/-
  The walks of the reference's BookFault, twelfth part: what is emitted. Printed by chkl.py.
-/
import Derived.Test.YtcebfkdhicbmkaaDoorChkK
namespace Go.Proofs.YtcebfkdhicbmkaaDoor
open Go.RowKit
set_option linter.unusedVariables false
set_option linter.unusedSimpArgs false
section
variable {g:Nat} {F G:Nat→Prop} {ao:Option Addr} {n cap:Nat} {w0:World} {ts:List Typ}
set_option maxRecDepth 8000 in
set_option maxHeartbeats 4000000 in
theorem emitFault_none(hg:g<w0.heap.size)(hX:SlF F w0 2 typF ao n cap ts)(hts: ∀ t∈ts,typOk t)(x:Rul)(row:List Value)(h:rulF G w0 row x)(hkn: ∀ p∈x.whens,typI ts p.type<ts.length)(hev: ∀ o∈x.evals,o.vtext.size≤maxLen)(h1:emS x.etype=true):Calls Tryd.prog 51 #[.slice ao n cap,.agg row.toArray] w0 fun e w' =>e= .returned (.int .i64 (emitE ts x))∧Below w0.heap.size w0 w' :=by
 have HV:Hid (emitE ts x=if x.evals.length=0 then 0 else 4):=by show _=_;unfold emitE;rw[if_pos h1]
 have he0:x.etype.toList=[]:=by simpa[emS]using h1
 obtain⟨a1,n1,c1,a2,n2,c2,a3,n3,c3,a4,n4,c4,a6,n6,c6,rfl,X1,X2,X3,X4,X6⟩:=h
 have M:=Mem.begin hg ⟨0,0⟩
 have hle6:=X6.le
 have N6:=Lib.hid X6.len
 have hleX:=hX.le
 have NX:=Lib.hid hX.len
 unfold rulC
 rw[HV.out]
 by_cases h0:x.evals.length=0
 ·have hn:(n6:Int)=0:=by have:=N6.out;omega
  rw[if_pos h0]
  clear hg hX hts hkn hev X1 X2 X3 X4 X6 h1 h0 HV
  go_enter Tryd.func51,Tryd.ntmps51
  go_wp2_with (with_reducible (first|(refine wB (L:=[]) M ?_;clear M;intro za w1 M)|(refine wV M ?_;clear M;intro ze w2 M)|refine wq M ?_|(refine wS M ?_;clear M;intro w M)))
  go_ret
  exact⟨rfl,M.new⟩
 ·have hn:(0:Int)<n6:=by have:=N6.out;omega
  rw[if_neg h0]
  clear hg hX hts hkn hev X1 X2 X3 X4 X6 h1 h0 HV
  go_enter Tryd.func51,Tryd.ntmps51
  go_wp2_with (with_reducible (first|(refine wB (L:=[]) M ?_;clear M;intro za w1 M)|(refine wV M ?_;clear M;intro ze w2 M)|refine wq M ?_|(refine wS M ?_;clear M;intro w M)))
  go_ret
  exact⟨rfl,M.new⟩
set_option maxRecDepth 8000 in
set_option maxHeartbeats 4000000 in
theorem emitFault_type(hg:g<w0.heap.size)(hX:SlF F w0 2 typF ao n cap ts)(hts: ∀ t∈ts,typOk t)(x:Rul)(row:List Value)(h:rulF G w0 row x)(hkn: ∀ p∈x.whens,typI ts p.type<ts.length)(hev: ∀ o∈x.evals,o.vtext.size≤maxLen)(h1:emS x.etype=false)(h2:ts.length≤typI ts x.etype):Calls Tryd.prog 51 #[.slice ao n cap,.agg row.toArray] w0 fun e w' =>e= .returned (.int .i64 (emitE ts x))∧Below w0.heap.size w0 w' :=by
 have HV:Hid (emitE ts x=6):=by show _=_;unfold emitE;rw[h1,if_neg (by simp),if_pos h2]
 have he0:x.etype.toList.isEmpty=false:=h1
 obtain⟨a1,n1,c1,a2,n2,c2,a3,n3,c3,a4,n4,c4,a6,n6,c6,rfl,X1,X2,X3,X4,X6⟩:=h
 have M:=Mem.begin hg ⟨0,0⟩
 have hle6:=X6.le
 have N6:=Lib.hid X6.len
 have hleX:=hX.le
 have NX:=Lib.hid hX.len
 unfold rulC
 have HTN:=Lib.hid (fun wx (hb:Below w0.heap.size w0 wx)=>typeNamed_any (Nat.lt_of_lt_of_le hg hb.size) (hX.below typF_firm hb) x.etype)
 have hpv:placeV (typI ts x.etype) ts.length= -1:=by unfold placeV;rw[if_neg (by omega)]
 rw[hpv]at HTN
 rw[HV.out]
 clear hg hX hts hkn hev X1 X2 X3 X4 X6 h1 h2 HV hpv
 go_enter Tryd.func51,Tryd.ntmps51
 go_wp2_with (first|(with_reducible (first|(refine wB (L:=[]) M ?_;clear M;intro za w1 M)|(refine wV M ?_;clear M;intro ze w2 M)|refine wq M ?_|(refine wS M ?_;clear M;intro w M)))|(go_at_call 24;with_reducible refine(HTN.out _ M.new).mono ?_;rintro e w5 ⟨rfl,hb5⟩;replace M:=M.below hb5;clear hb5))
 go_ret
 exact⟨rfl,M.new⟩
set_option maxRecDepth 8000 in
set_option maxHeartbeats 4000000 in
theorem emitFault_len(hg:g<w0.heap.size)(hX:SlF F w0 2 typF ao n cap ts)(hts: ∀ t∈ts,typOk t)(x:Rul)(row:List Value)(h:rulF G w0 row x)(hkn: ∀ p∈x.whens,typI ts p.type<ts.length)(hev: ∀ o∈x.evals,o.vtext.size≤maxLen)(h1:emS x.etype=false)(h2:typI ts x.etype<ts.length)(h3:x.evals.length≠(typAt ts x.etype).fields.length):Calls Tryd.prog 51 #[.slice ao n cap,.agg row.toArray] w0 fun e w' =>e= .returned (.int .i64 (emitE ts x))∧Below w0.heap.size w0 w' :=by
 have HV:Hid (emitE ts x=13):=by show _=_;unfold emitE;rw[h1,if_neg (by simp),if_neg (by omega),if_pos h3]
 have he0:x.etype.toList.isEmpty=false:=h1
 obtain⟨a1,n1,c1,a2,n2,c2,a3,n3,c3,a4,n4,c4,a6,n6,c6,rfl,X1,X2,X3,X4,X6⟩:=h
 have M:=Mem.begin hg ⟨0,0⟩
 have hle6:=X6.le
 have N6:=Lib.hid X6.len
 have hleX:=hX.le
 have NX:=Lib.hid hX.len
 unfold rulC
 have HTN:=Lib.hid (fun wx (hb:Below w0.heap.size w0 wx)=>typeNamed_any (Nat.lt_of_lt_of_le hg hb.size) (hX.below typF_firm hb) x.etype)
 have hpv:placeV (typI ts x.etype) ts.length=(typI ts x.etype:Nat):=by unfold placeV;rw[if_pos h2]
 rw[hpv]at HTN
 rw[HV.out]
 obtain⟨ct,ot,rowt,hixt, -,hrrt,hwt⟩:=SlF.rowAt (P:=Tryd.prog) hX typF_firm Tryd.underlying22 size_typ (i:=typI ts x.etype) h2
 obtain⟨t1,t2,t3,et,ut⟩:=hrrt
 subst et
 have hTT:typAt ts x.etype=ts[typI ts x.etype]:=by unfold typAt;rw[List.getD_eq_getElem?_getD,List.getElem?_eq_getElem h2];rfl
 have HT1:Hid (∀ wx,Below w0.heap.size w0 wx→wx.cell? ⟨ct,ot+1,none⟩=some (.slice t1 t2 t3)):=fun wx hb=>(hwt wx hb).1 1 _ rfl
 have hne:((n6:Int)!=t2)=true:=by
  have e1:=N6.out
  have e2:=ut.len
  rw[hTT]at h3
  simp;omega
 have htn:(typI ts x.etype:Int)<n:=by have:=NX.out;omega
 have htp:(0:Int)≤(typI ts x.etype:Nat):=by omega
 generalize typI ts x.etype=ti at HTN hixt htn htp
 clear hg hX hts hkn hev X1 X2 X3 X4 X6 h1 h2 h3 HV hpv hwt ut hTT
 go_enter Tryd.func51,Tryd.ntmps51
 go_wp2_with (first|(with_reducible (first|(refine wB (L:=[]) M ?_;clear M;intro za w1 M)|(refine wV M ?_;clear M;intro ze w2 M)|refine wq M ?_|(refine wS M ?_;clear M;intro w M)))|(go_at_call 24;with_reducible refine(HTN.out _ M.new).mono ?_;rintro e w5 ⟨rfl,hb5⟩;replace M:=M.below hb5;clear hb5))
 ((refine wp_region_still_lit (by kernel_rfl) (by kernel_rfl) ?_);(change wpStill _ _ (World.drew _) _ _ _);replace M:=M.drew;(repeat(first|((with_reducible refine s_list rfl fun K hK=>?_);refine s_load ?_;(first|(refine q_cellat (HT1.out _ M.new) ?_)|refine q_get M (by exact rfl) ?_);refine⟨rfl,hK _ ?_⟩;clear hK K)|((with_reducible refine s_list rfl fun K hK=>?_);refine s_pure ?_;go_simp;refine hK _ ?_;clear hK K)));(refine wpStill_nil ?_))
 go_wp2_with (with_reducible (first|refine wq M ?_|(refine wS M ?_;clear M;intro w M)|(refine wV M ?_;clear M;intro z w M)|(refine wR M ?_;clear M;intro q w M)))
 go_ret
 exact⟨rfl,M.new⟩
end
end Go.Proofs.YtcebfkdhicbmkaaDoor
