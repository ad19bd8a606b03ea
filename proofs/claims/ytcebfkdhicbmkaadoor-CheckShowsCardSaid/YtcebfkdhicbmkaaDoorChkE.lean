/-
  The walks of the reference's BookFault, fifth part: conditions as a whole; fields that are summed up; who speaks of a type.
-/
import Derived.Test.YtcebfkdhicbmkaaDoorChkD
namespace Go.Proofs.YtcebfkdhicbmkaaDoor
open Go.RowKit
set_option linter.unusedVariables false
set_option linter.unusedSimpArgs false
section
variable {g:Nat} {F G H S:Nat→Prop} {ao:Option Addr} {n cap:Nat} {bo:Option Addr} {m bcap:Nat} {oo:Option Addr} {k ocap:Nat} {w0:World} {ts:List Typ} {known:List Pat} {own:Typ}
theorem condFault_any(hg:g<w0.heap.size)(hX:SlF F w0 2 typF ao n cap ts)(hts: ∀ t∈ts,typOk t)(hY:SlF G w0 18 patF bo m bcap known)(hkn: ∀ p∈known,typI ts p.type<ts.length)(hO:SlF H w0 2 (plainF fldC) oo k ocap own.fields)(hown:typOk own):
  ∀ (f:Nat) (d:Int),d+f=9→1≤d→ ∀ (c:Cond) (so:Option Addr) (sn scap:Nat) (wx:World),Below w0.heap.size w0 wx→SlF S wx 14 CondF so sn scap c.subs→CondOk c→
   Calls Tryd.prog 70 #[.slice ao n cap,.slice bo m bcap,.agg #[.string own.name,.slice oo k ocap],.agg (cnd14 c.kind so sn scap c.left c.right).toArray,.int .i64 d] wx (CndPostR (condR ts known own f c) wx):=by
 intro f
 induction f with
 |zero=>
  intro d hd h1 c so sn scap wx hb hS hok
  have hg' :=Nat.lt_of_lt_of_le hg hb.size
  by_cases hk:1≤c.kind∧c.kind≤7
  ·exact condFault_deep hg' (hX.below typF_firm hb) hts (hY.below patF_firm hb) hkn (hO.below (plainF_firm _) hb) hown c d (by omega) hk
  ·exact condFault_kind hg' (hX.below typF_firm hb) hts (hY.below patF_firm hb) hkn (hO.below (plainF_firm _) hb) hown c d 0 hk
 |succ f ih=>
  intro d hd h1 c so sn scap wx hb hS hok
  have hg' :=Nat.lt_of_lt_of_le hg hb.size
  by_cases hk:1≤c.kind∧c.kind≤7
  ·by_cases h4:4≤c.kind
   ·exact condFault_test hg' (hX.below typF_firm hb) hts (hY.below patF_firm hb) hkn (hO.below (plainF_firm _) hb) hown c hS hok d f (by omega) ⟨h4,hk.2⟩
   ·exact condFault_tree hg' (hX.below typF_firm hb) hts (hY.below patF_firm hb) hkn (hO.below (plainF_firm _) hb) hown c hS hok d f (by omega) (by omega)
     (fun j hj so2 sn2 sc2 wy hby hS2=>ih (d+1) (by omega) (by omega) c.subs[j] so2 sn2 sc2 wy (hb.trans (hby.mono hb.size)) hS2 (hok.subs _ (List.getElem_mem hj)))
  ·exact condFault_kind hg' (hX.below typF_firm hb) hts (hY.below patF_firm hb) hkn (hO.below (plainF_firm _) hb) hown c d (f+1) hk
set_option maxHeartbeats 2000000 in
theorem sumFault_any(hg:g<w0.heap.size)(hO:SlF H w0 2 (plainF fldC) oo k ocap own.fields)(hown:typOk own)(fd:ByteArray)(hf:emS fd=false):
  Calls Tryd.prog 49 #[.agg #[.string own.name,.slice oo k ocap],.string fd] w0 fun e w' =>e= .returned (.int .i64 (sumE own fd))∧Below w0.heap.size w0 w' :=by
 have M:=Mem.begin hg ⟨0,0⟩
 have HFA:Hid (∀ wx,Below w0.heap.size w0 wx→Calls Tryd.prog 71 #[.agg #[.string own.name,.slice oo k ocap],.string fd] wx fun e w' =>e= .returned (.int .i64 (atI own.fields fd))∧Below wx.heap.size wx w'):=fun wx hbx=>
  fieldAt_any own.name oo k ocap own.fields fd wx (fld_R (hO.below (plainF_firm _) hbx) hown.2)
 have hle:=hO.le
 have NL:=Lib.hid hO.len
 by_cases hff:fldAt own.fields fd<own.fields.length
 ·have HA:=Lib.hid (atI_some hff)
  obtain⟨ca,oa,rowa,hixa, -,hrra,hwa⟩:=SlF.rowAt (P:=Tryd.prog) hO (plainF_firm _) Tryd.underlying36 size_fld (i:=fldAt own.fields fd) hff
  have e1:rowa=fldC own.fields[fldAt own.fields fd]:=hrra
  subst e1
  have HC1:Hid (∀ wx,Below w0.heap.size w0 wx→wx.cell? ⟨ca,oa+1,none⟩=some (.int .i64 own.fields[fldAt own.fields fd].kind)):=fun wx hbx=>(hwa wx hbx).1 1 _ rfl
  have HV:Hid (sumE own fd=if own.fields[fldAt own.fields fd].kind=1 then 0 else 13):=by
   show _=_
   unfold sumE
   rw[hf,if_neg (by simp),if_pos hff,List.getD_eq_getElem?_getD,List.getElem?_eq_getElem hff]
   rfl
  generalize own.fields[fldAt own.fields fd].kind=kd at HC1 HV
  have hfn:(fldAt own.fields fd:Int)<k:=by have:=NL.out;omega
  rw[HA.out]at HFA
  generalize fldAt own.fields fd=fi at HFA hixa hfn
  clear hg hO hown hf hff hwa hrra HA
  rw[HV.out]
  by_cases h1:kd=1
  ·subst h1
   go_enter Tryd.func49,Tryd.ntmps49
   go_wp2_with (first|(with_reducible (first|(refine wB M ?_;clear M;intro za w1 M)|refine wq M ?_|refine wC (HC1.out _ M.new) ?_))|(go_at_call 71;with_reducible refine(HFA.out _ M.new).mono ?_;rintro e w5 ⟨rfl,hb5⟩;replace M:=M.below hb5;clear hb5))
   go_ret
   exact⟨rfl,M.new⟩
  ·have hkb:(kd !=1)=true:=by simpa using h1
   rw[if_neg h1]
   clear h1
   go_enter Tryd.func49,Tryd.ntmps49
   go_wp2_with (first|(with_reducible (first|(refine wB M ?_;clear M;intro za w1 M)|refine wq M ?_|refine wC (HC1.out _ M.new) ?_))|(go_at_call 71;with_reducible refine(HFA.out _ M.new).mono ?_;rintro e w5 ⟨rfl,hb5⟩;replace M:=M.below hb5;clear hb5))
   go_ret
   exact⟨rfl,M.new⟩
 ·have HA:=Lib.hid (atI_none hff)
  rw[HA.out]at HFA
  have HV:Hid (sumE own fd=6):=by show _=_;unfold sumE;rw[hf,if_neg (by simp),if_neg hff]
  clear hg hO hown hf hff HA
  go_enter Tryd.func49,Tryd.ntmps49
  go_wp2_with (first|(with_reducible (first|(refine wB M ?_;clear M;intro za w1 M)|refine wq M ?_))|(go_at_call 71;with_reducible refine(HFA.out _ M.new).mono ?_;rintro e w5 ⟨rfl,hb5⟩;replace M:=M.below hb5;clear hb5))
  go_ret
  rw[HV.out]
  exact⟨rfl,M.new⟩
end
end Go.Proofs.YtcebfkdhicbmkaaDoor
