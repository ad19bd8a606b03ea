/-
  The walks of the reference's BookFault, fifth part: conditions as a whole; fields that are summed up; who speaks of a type.
-/
import Derived.Test.YtncmghnhfipklaaGreatDoorPw12
import Derived.Test.YtncmghnhfipklaaGreatDoorPw09
import Derived.Lib.MinMax
namespace Go.Proofs.YtncmghnhfipklaaGreatDoor
open Go.RowKit
set_option linter.unusedVariables false
set_option linter.unusedSimpArgs false
section
variable {g:Nat} {F G H S:Nat→Prop} {ao:Option Addr} {n cap:Nat} {bo:Option Addr} {m bcap:Nat} {oo:Option Addr} {k ocap:Nat} {w0:World} {ts:List Typ} {known:List Pat} {own:Typ}
theorem condFault_any(hg:g<w0.heap.size)(hX:SlF F w0 2 typF ao n cap ts)(hts: ∀ t∈ts,typOk t)(hY:SlF G w0 18 patF bo m bcap known)(hkn: ∀ p∈known,typI ts p.type<ts.length)(hO:SlF H w0 2 (plainF fldC) oo k ocap own.fields)(hown:typOk own):
  ∀ (f:Nat) (d:Int),d+f=9→1≤d→ ∀ (c:Cond) (so:Option Addr) (sn scap:Nat) (wx:World),Below w0.heap.size w0 wx→SlF S wx 14 CondF so sn scap c.subs→CondOk c→
   Calls Tryz.prog 84 #[.slice ao n cap,.slice bo m bcap,.agg #[.string own.name,.slice oo k ocap],.agg (cnd14 c.kind so sn scap c.left c.right).toArray,.int .i64 d] wx (CndPostR (condR ts known own f c) wx):=by
 intro f
 induction f with
 |zero=>
  intro d hd h1 c so sn scap wx hb hS hok
  have hg' :=Nat.lt_of_lt_of_le hg hb.size
  by_cases hk:1≤c.kind∧c.kind≤7
  ·exact condFault_deep hg' (hX.below typF_firm hb) hts (hY.below patF_firm hb) hkn (hO.below (plainF_firm _) hb) hown c d (by omega) hk
  ·exact condFault_kind hg' (hX.below typF_firm hb) hts (hY.below patF_firm hb) hkn (hO.below (plainF_firm _) hb) hown c d 0 hk
 |succ f ih=>
  intro d hd h1 c so sn scap wx hb hS hok
  have hg' :=Nat.lt_of_lt_of_le hg hb.size
  by_cases hk:1≤c.kind∧c.kind≤7
  ·by_cases h4:4≤c.kind
   ·exact condFault_test hg' (hX.below typF_firm hb) hts (hY.below patF_firm hb) hkn (hO.below (plainF_firm _) hb) hown c hS hok d f (by omega) ⟨h4,hk.2⟩
   ·exact condFault_tree hg' (hX.below typF_firm hb) hts (hY.below patF_firm hb) hkn (hO.below (plainF_firm _) hb) hown c hS hok d f (by omega) (by omega)
     (fun j hj so2 sn2 sc2 wy hby hS2=>ih (d+1) (by omega) (by omega) c.subs[j] so2 sn2 sc2 wy (hb.trans (hby.mono hb.size)) hS2 (hok.subs _ (List.getElem_mem hj)))
  ·exact condFault_kind hg' (hX.below typF_firm hb) hts (hY.below patF_firm hb) hkn (hO.below (plainF_firm _) hb) hown c d (f+1) hk
set_option maxHeartbeats 2000000 in
theorem sumFault_any(hg:g<w0.heap.size)(hO:SlF H w0 2 (plainF fldC) oo k ocap own.fields)(hown:typOk own)(fd:ByteArray)(hf:emS fd=false):
  Calls Tryz.prog 54 #[.agg #[.string own.name,.slice oo k ocap],.string fd] w0 fun e w' =>e= .returned (.int .i64 (sumE own fd))∧Below w0.heap.size w0 w' :=by
 have M:=Mem.begin hg ⟨0,0⟩
 have HFA:Hid (∀ wx,Below w0.heap.size w0 wx→Calls Tryz.prog 85 #[.agg #[.string own.name,.slice oo k ocap],.string fd] wx fun e w' =>e= .returned (.int .i64 (atI own.fields fd))∧Below wx.heap.size wx w'):=fun wx hbx=>
  fieldAt_any own.name oo k ocap own.fields fd wx (fld_R (hO.below (plainF_firm _) hbx) hown.2)
 have hle:=hO.le
 have NL:=Lib.hid hO.len
 by_cases hff:fldAt own.fields fd<own.fields.length
 ·have HA:=Lib.hid (atI_some hff)
  obtain⟨ca,oa,rowa,hixa, -,hrra,hwa⟩:=SlF.rowAt (P:=Tryz.prog) hO (plainF_firm _) Tryz.underlying49 size_fld (i:=fldAt own.fields fd) hff
  have e1:rowa=fldC own.fields[fldAt own.fields fd]:=hrra
  subst e1
  have HC1:Hid (∀ wx,Below w0.heap.size w0 wx→wx.cell? ⟨ca,oa+1,none⟩=some (.int .i64 own.fields[fldAt own.fields fd].kind)):=fun wx hbx=>(hwa wx hbx).1 1 _ rfl
  have HV:Hid (sumE own fd=if own.fields[fldAt own.fields fd].kind=1 then 0 else 13):=by
   show _=_
   unfold sumE
   rw[hf,if_neg (by simp),if_pos hff,List.getD_eq_getElem?_getD,List.getElem?_eq_getElem hff]
   rfl
  generalize own.fields[fldAt own.fields fd].kind=kd at HC1 HV
  have hfn:(fldAt own.fields fd:Int)<k:=by have:=NL.out;omega
  rw[HA.out]at HFA
  generalize fldAt own.fields fd=fi at HFA hixa hfn
  clear hg hO hown hf hff hwa hrra HA
  rw[HV.out]
  by_cases h1:kd=1
  ·subst h1
   go_enter Tryz.func54,Tryz.ntmps54
   go_wp2_with (first|(with_reducible (first|(refine wB M ?_;clear M;intro za w1 M)|refine wq M ?_|refine wC (HC1.out _ M.new) ?_))|(go_at_call 85;with_reducible refine(HFA.out _ M.new).mono ?_;rintro e w5 ⟨rfl,hb5⟩;replace M:=M.below hb5;clear hb5))
   go_ret
   exact⟨rfl,M.new⟩
  ·have hkb:(kd !=1)=true:=by simpa using h1
   rw[if_neg h1]
   clear h1
   go_enter Tryz.func54,Tryz.ntmps54
   go_wp2_with (first|(with_reducible (first|(refine wB M ?_;clear M;intro za w1 M)|refine wq M ?_|refine wC (HC1.out _ M.new) ?_))|(go_at_call 85;with_reducible refine(HFA.out _ M.new).mono ?_;rintro e w5 ⟨rfl,hb5⟩;replace M:=M.below hb5;clear hb5))
   go_ret
   exact⟨rfl,M.new⟩
 ·have HA:=Lib.hid (atI_none hff)
  rw[HA.out]at HFA
  have HV:Hid (sumE own fd=6):=by show _=_;unfold sumE;rw[hf,if_neg (by simp),if_neg hff]
  clear hg hO hown hf hff HA
  go_enter Tryz.func54,Tryz.ntmps54
  go_wp2_with (first|(with_reducible (first|(refine wB M ?_;clear M;intro za w1 M)|refine wq M ?_))|(go_at_call 85;with_reducible refine(HFA.out _ M.new).mono ?_;rintro e w5 ⟨rfl,hb5⟩;replace M:=M.below hb5;clear hb5))
  go_ret
  rw[HV.out]
  exact⟨rfl,M.new⟩
end
theorem size_str:SizeIs Tryz.prog 9 1:=fun w=>by kernel_rfl
section
variable {g:Nat} {F G H S:Nat→Prop} {ao:Option Addr} {n cap:Nat} {bo:Option Addr} {m bcap:Nat} {lo:Option Addr} {an acap:Nat} {so:Option Addr} {sn scap:Nat} {w0:World} {ts:List Typ} {known:List Pat} {ahead:List ByteArray}
set_option maxRecDepth 8000 in
set_option maxHeartbeats 4000000 in
theorem patFault_name(hg:g<w0.heap.size)(hX:SlF F w0 2 typF ao n cap ts)(hts: ∀ t∈ts,typOk t)(hY:SlF G w0 18 patF bo m bcap known)(hkn: ∀ p∈known,typI ts p.type<ts.length)(hA:SlF H w0 1 wordF lo an acap ahead)(p:Pat)(hS:SlF S w0 14 CondF so sn scap p.wher.subs)(hv:p.var.size≤maxLen)(hok:CondOk p.wher)(part:Nat)(hp:part≤2)(h0:freeE p.var≠0):
  Calls Tryz.prog 53 #[.slice ao n cap,.slice bo m bcap,.slice lo an acap,.agg (pat18 p so sn scap).toArray,.int .i64 part] w0 fun e w' =>e= .returned (.int .i64 (patE ts known ahead p part))∧Below w0.heap.size w0 w' :=by
 have M:=Mem.begin hg ⟨0,0⟩
 have hleA:=hA.le
 have NA:=Lib.hid hA.len
 have HAA:=Lib.hid hA
 have HFN:Hid (∀ wx,Below w0.heap.size w0 wx→Calls Tryz.prog 52 #[.string p.var] wx fun e w' =>e= .returned (.int .i64 (freeE p.var))∧Below wx.heap.size wx w'):=fun wx hbx=>freeName_any p.var wx hv
 have HTN:Hid (∀ wx,Below w0.heap.size w0 wx→Calls Tryz.prog 29 #[.slice ao n cap,.string p.type] wx fun e w' =>e= .returned (.int .i64 (placeV (typI ts p.type) ts.length))∧Below wx.heap.size wx w'):=fun wx hbx=>
  typeNamed_any (Nat.lt_of_lt_of_le hg hbx.size) (hX.below typF_firm hbx) p.type
 have HV:Hid (patE ts known ahead p part=freeE p.var):=by show _=_;unfold patE;rw[if_pos h0]
 rw[HV.out]
 have hb:(freeE p.var !=0)=true:=by simpa using h0
 generalize freeE p.var=q at HFN hb
 unfold pat18
 clear hg hX hts hY hkn hA hS hv hok hp h0 HV
 go_enter Tryz.func53,Tryz.ntmps53
 go_wp2_with (first|(with_reducible (first|(refine wB (L:=[]) M ?_;clear M;intro za w1 M)|refine wq M ?_))|(go_at_call 52;with_reducible refine(HFN.out _ M.new).mono ?_;rintro e w5 ⟨rfl,hb5⟩;replace M:=M.below hb5;clear hb5))
 go_ret
 exact⟨rfl,M.new⟩
set_option maxRecDepth 8000 in
set_option maxHeartbeats 4000000 in
theorem patFault_twice(hg:g<w0.heap.size)(hX:SlF F w0 2 typF ao n cap ts)(hts: ∀ t∈ts,typOk t)(hY:SlF G w0 18 patF bo m bcap known)(hkn: ∀ p∈known,typI ts p.type<ts.length)(hA:SlF H w0 1 wordF lo an acap ahead)(p:Pat)(hS:SlF S w0 14 CondF so sn scap p.wher.subs)(hv:p.var.size≤maxLen)(hok:CondOk p.wher)(part:Nat)(hp:part≤2)(h0:freeE p.var=0)(hin:inS ahead p.var=true):
  Calls Tryz.prog 53 #[.slice ao n cap,.slice bo m bcap,.slice lo an acap,.agg (pat18 p so sn scap).toArray,.int .i64 part] w0 fun e w' =>e= .returned (.int .i64 (patE ts known ahead p part))∧Below w0.heap.size w0 w' :=by
 have M:=Mem.begin hg ⟨0,0⟩
 have hleA:=hA.le
 have NA:=Lib.hid hA.len
 have HAA:=Lib.hid hA
 have HFN:Hid (∀ wx,Below w0.heap.size w0 wx→Calls Tryz.prog 52 #[.string p.var] wx fun e w' =>e= .returned (.int .i64 (freeE p.var))∧Below wx.heap.size wx w'):=fun wx hbx=>freeName_any p.var wx hv
 have HTN:Hid (∀ wx,Below w0.heap.size w0 wx→Calls Tryz.prog 29 #[.slice ao n cap,.string p.type] wx fun e w' =>e= .returned (.int .i64 (placeV (typI ts p.type) ts.length))∧Below wx.heap.size wx w'):=fun wx hbx=>
  typeNamed_any (Nat.lt_of_lt_of_le hg hbx.size) (hX.below typF_firm hbx) p.type
 have HV:Hid (patE ts known ahead p part=7):=by show _=_;unfold patE;rw[if_neg (by omega),if_pos hin]
 rw[HV.out]
 rw[h0]at HFN
 have HIN:=Lib.hid hin
 unfold pat18
 clear hg hX hts hY hkn hA hS hv hok hp h0 HV hin
 go_enter Tryz.func53,Tryz.ntmps53
 go_wp2_with (first|(with_reducible (first|(refine wB (L:=[]) M ?_;clear M;intro za w1 M)|refine wq M ?_))|(go_at_call 52;with_reducible refine(HFN.out _ M.new).mono ?_;rintro e w5 ⟨rfl,hb5⟩;replace M:=M.below hb5;clear hb5))
 go_loopw [12] (fun i wr=> ∃ j:Nat,j≤an∧i= .int .i64 j∧Mem (StaysB g w0) g w0 wr ⟨0,0⟩ (own za [.string p.var,.string p.type,.int .i64 p.wher.kind,.slice so sn scap,.int .i64 p.wher.left.kind,.int .i64 p.wher.left.vkind,.int .i64 p.wher.left.vint,.string p.wher.left.vtext,.string p.wher.left.var,.string p.wher.left.field,.int .i64 p.wher.right.kind,.int .i64 p.wher.right.vkind,.int .i64 p.wher.right.vint,.string p.wher.right.vtext,.string p.wher.right.var,.string p.wher.right.field,.int .i64 p.window,.int .i64 p.n] 61::[])∧Hid (NoB ahead (fun x=>sameS x p.var) j)) (fun i _=>an - (intOf i).toNat)
 case atStart=>exact⟨0,by omega,rfl,M,noB_zero _ _⟩
 case round=>
  clear M
  obtain⟨j,hj,rfl,M,HB⟩:=hrel
  by_cases hlt:j<an
  ·have hkl:j<ahead.length:=by have:=NA.out;omega
   obtain⟨ca,oa,rowa,hixa, -,hrra,hwa⟩:=SlF.rowAt (P:=Tryz.prog) HAA.out wordF_firm Tryz.underlying84 size_str (i:=j) hkl
   have e1:rowa=[.string ahead[j]]:=hrra
   subst e1
   have HA0:Hid (∀ wx,Below w0.heap.size w0 wx→wx.cell? ⟨ca,oa,none⟩=some (.string ahead[j])):=fun wx hb=>(hwa wx hb).1 0 _ rfl
   have HP:Hid (∀ b,sameS ahead[j] p.var=b→(ahead[j].toList==p.var.toList)=b):=fun b h=>h
   have HT:Hid (sameS ahead[j] p.var=false→NoB ahead (fun x=>sameS x p.var) (j+1)):=fun h=>noB_succ HB.out hkl h
   have HN:Hid (sameS ahead[j] p.var=true→inS ahead p.var=true):=fun h=>List.any_eq_true.2 ⟨_,List.getElem_mem hkl,h⟩
   clear hwa hrra HB
   generalize ahead[j]=x at HA0 HP HT HN
   cases hsm:sameS x p.var with
   |true=>
    have hq:=HP.out _ hsm
    clear HP HT HN hsm
    go_wp2_with (with_reducible (first|refine wq M ?_|(refine wS M ?_;clear M;intro w M)|(refine wV M ?_;clear M;intro z w M)|(refine wR M ?_;clear M;intro q w M)))
    ((refine wp_region_still_lit (by kernel_rfl) (by kernel_rfl) ?_);(change wpStill _ _ (World.drew _) _ _ _);replace M:=M.drew;(repeat(first|((with_reducible refine s_list rfl fun K hK=>?_);refine s_load ?_;(first|(refine q_cellat (HA0.out _ M.new) ?_)|refine q_get M (by exact rfl) ?_);refine⟨rfl,hK _ ?_⟩;clear hK K)|((with_reducible refine s_list rfl fun K hK=>?_);refine s_pure ?_;go_simp;refine hK _ ?_;clear hK K)));(refine wpStill_nil ?_))
    go_wp2_with (with_reducible (first|refine wq M ?_|(refine wS M ?_;clear M;intro w M)|(refine wV M ?_;clear M;intro z w M)|(refine wR M ?_;clear M;intro q w M)))
    go_ret
    exact⟨rfl,M.new⟩
   |false=>
    have hq:=HP.out _ hsm
    have HV2:=Lib.hid (HT.out hsm)
    clear HP HT HN hsm
    go_wp2_with (with_reducible (first|refine wq M ?_|(refine wS M ?_;clear M;intro w M)|(refine wV M ?_;clear M;intro z w M)|(refine wR M ?_;clear M;intro q w M)))
    ((refine wp_region_still_lit (by kernel_rfl) (by kernel_rfl) ?_);(change wpStill _ _ (World.drew _) _ _ _);replace M:=M.drew;(repeat(first|((with_reducible refine s_list rfl fun K hK=>?_);refine s_load ?_;(first|(refine q_cellat (HA0.out _ M.new) ?_)|refine q_get M (by exact rfl) ?_);refine⟨rfl,hK _ ?_⟩;clear hK K)|((with_reducible refine s_list rfl fun K hK=>?_);refine s_pure ?_;go_simp;refine hK _ ?_;clear hK K)));(refine wpStill_nil ?_))
    go_wp2_with (with_reducible (first|refine wq M ?_|(refine wS M ?_;clear M;intro w M)|(refine wV M ?_;clear M;intro z w M)|(refine wR M ?_;clear M;intro q w M)))
    go_roundw
    case rel=>exact⟨j+1,by omega,by go_num,M,HV2⟩
    case measure=>simp[intOf];omega
  ·exact absurd HIN.out (by rw[Bool.not_eq_true];exact List.any_eq_false.2 (fun x hx=>by obtain⟨q,hq,rfl⟩:=List.mem_iff_getElem.1 hx;have e:sameS ahead[q] p.var=false:=HB.out q hq (by have:=NA.out;omega);rw[e];simp))
set_option maxRecDepth 8000 in
set_option maxHeartbeats 4000000 in
theorem patFault_none(hg:g<w0.heap.size)(hX:SlF F w0 2 typF ao n cap ts)(hts: ∀ t∈ts,typOk t)(hY:SlF G w0 18 patF bo m bcap known)(hkn: ∀ p∈known,typI ts p.type<ts.length)(hA:SlF H w0 1 wordF lo an acap ahead)(p:Pat)(hS:SlF S w0 14 CondF so sn scap p.wher.subs)(hv:p.var.size≤maxLen)(hok:CondOk p.wher)(part:Nat)(hp:part≤2)(h0:freeE p.var=0)(hin:inS ahead p.var=false)(ht:ts.length≤typI ts p.type):
  Calls Tryz.prog 53 #[.slice ao n cap,.slice bo m bcap,.slice lo an acap,.agg (pat18 p so sn scap).toArray,.int .i64 part] w0 fun e w' =>e= .returned (.int .i64 (patE ts known ahead p part))∧Below w0.heap.size w0 w' :=by
 have M:=Mem.begin hg ⟨0,0⟩
 have hleA:=hA.le
 have NA:=Lib.hid hA.len
 have HAA:=Lib.hid hA
 have HFN:Hid (∀ wx,Below w0.heap.size w0 wx→Calls Tryz.prog 52 #[.string p.var] wx fun e w' =>e= .returned (.int .i64 (freeE p.var))∧Below wx.heap.size wx w'):=fun wx hbx=>freeName_any p.var wx hv
 have HTN:Hid (∀ wx,Below w0.heap.size w0 wx→Calls Tryz.prog 29 #[.slice ao n cap,.string p.type] wx fun e w' =>e= .returned (.int .i64 (placeV (typI ts p.type) ts.length))∧Below wx.heap.size wx w'):=fun wx hbx=>
  typeNamed_any (Nat.lt_of_lt_of_le hg hbx.size) (hX.below typF_firm hbx) p.type
 have HV:Hid (patE ts known ahead p part=6):=by show _=_;unfold patE;rw[if_neg (by omega),hin,if_neg (by simp),if_pos ht]
 rw[HV.out]
 rw[h0]at HFN
 have hpv:placeV (typI ts p.type) ts.length= -1:=by unfold placeV;rw[if_neg (by omega)]
 rw[hpv]at HTN
 unfold pat18
 clear hg hX hts hY hkn hA hS hv hok hp h0 HV ht hpv
 go_enter Tryz.func53,Tryz.ntmps53
 go_wp2_with (first|(with_reducible (first|(refine wB (L:=[]) M ?_;clear M;intro za w1 M)|refine wq M ?_))|(go_at_call 52;with_reducible refine(HFN.out _ M.new).mono ?_;rintro e w5 ⟨rfl,hb5⟩;replace M:=M.below hb5;clear hb5))
 go_loopw [12] (fun i wr=> ∃ j:Nat,j≤an∧i= .int .i64 j∧Mem (StaysB g w0) g w0 wr ⟨0,0⟩ (own za [.string p.var,.string p.type,.int .i64 p.wher.kind,.slice so sn scap,.int .i64 p.wher.left.kind,.int .i64 p.wher.left.vkind,.int .i64 p.wher.left.vint,.string p.wher.left.vtext,.string p.wher.left.var,.string p.wher.left.field,.int .i64 p.wher.right.kind,.int .i64 p.wher.right.vkind,.int .i64 p.wher.right.vint,.string p.wher.right.vtext,.string p.wher.right.var,.string p.wher.right.field,.int .i64 p.window,.int .i64 p.n] 61::[])∧Hid (NoB ahead (fun x=>sameS x p.var) j)) (fun i _=>an - (intOf i).toNat)
 case atStart=>exact⟨0,by omega,rfl,M,noB_zero _ _⟩
 case round=>
  clear M
  obtain⟨j,hj,rfl,M,HB⟩:=hrel
  by_cases hlt:j<an
  ·have hkl:j<ahead.length:=by have:=NA.out;omega
   obtain⟨ca,oa,rowa,hixa, -,hrra,hwa⟩:=SlF.rowAt (P:=Tryz.prog) HAA.out wordF_firm Tryz.underlying84 size_str (i:=j) hkl
   have e1:rowa=[.string ahead[j]]:=hrra
   subst e1
   have HA0:Hid (∀ wx,Below w0.heap.size w0 wx→wx.cell? ⟨ca,oa,none⟩=some (.string ahead[j])):=fun wx hb=>(hwa wx hb).1 0 _ rfl
   have HP:Hid (∀ b,sameS ahead[j] p.var=b→(ahead[j].toList==p.var.toList)=b):=fun b h=>h
   have HT:Hid (sameS ahead[j] p.var=false→NoB ahead (fun x=>sameS x p.var) (j+1)):=fun h=>noB_succ HB.out hkl h
   have HN:Hid (sameS ahead[j] p.var=true→inS ahead p.var=true):=fun h=>List.any_eq_true.2 ⟨_,List.getElem_mem hkl,h⟩
   clear hwa hrra HB
   generalize ahead[j]=x at HA0 HP HT HN
   cases hsm:sameS x p.var with
   |true=>
    rw[HN.out hsm]at hin;cases hin
   |false=>
    have hq:=HP.out _ hsm
    have HV2:=Lib.hid (HT.out hsm)
    clear HP HT HN hsm
    go_wp2_with (with_reducible (first|refine wq M ?_|(refine wS M ?_;clear M;intro w M)|(refine wV M ?_;clear M;intro z w M)|(refine wR M ?_;clear M;intro q w M)))
    ((refine wp_region_still_lit (by kernel_rfl) (by kernel_rfl) ?_);(change wpStill _ _ (World.drew _) _ _ _);replace M:=M.drew;(repeat(first|((with_reducible refine s_list rfl fun K hK=>?_);refine s_load ?_;(first|(refine q_cellat (HA0.out _ M.new) ?_)|refine q_get M (by exact rfl) ?_);refine⟨rfl,hK _ ?_⟩;clear hK K)|((with_reducible refine s_list rfl fun K hK=>?_);refine s_pure ?_;go_simp;refine hK _ ?_;clear hK K)));(refine wpStill_nil ?_))
    go_wp2_with (with_reducible (first|refine wq M ?_|(refine wS M ?_;clear M;intro w M)|(refine wV M ?_;clear M;intro z w M)|(refine wR M ?_;clear M;intro q w M)))
    go_roundw
    case rel=>exact⟨j+1,by omega,by go_num,M,HV2⟩
    case measure=>simp[intOf];omega
  ·go_wp2_with (first|(with_reducible refine wq M ?_)|(go_at_call 29;with_reducible refine(HTN.out _ M.new).mono ?_;rintro e w5 ⟨rfl,hb5⟩;replace M:=M.below hb5;clear hb5))
   go_ret
   exact⟨rfl,M.new⟩
end
theorem patI_map(l:List Pat)(s:ByteArray):(l.map Pat.var).findIdx (fun n=>sameS n s)=patI l s:=by
 unfold patI
 rw[List.findIdx_map]
 rfl
def latK(G:Mx)(p k:Nat):Int:=(List.range k).foldl (fun n i=>max n (G (2*i+1) p)) (G 1 p)
theorem latK_next(G:Mx)(p k:Nat):latK G p (k+1)=max (latK G p k) (G (2*k+1) p):=by
 unfold latK
 rw[List.range_succ,List.foldl_append]
 rfl
def leastK(G:Mx)(w k:Nat):Int:=(List.range k).foldl (fun n i=>min n (G (2*w+1) (2*i+1))) NOB
theorem leastK_next(G:Mx)(w k:Nat):leastK G w (k+1)=min (leastK G w k) (G (2*w+1) (2*k+1)):=by
 unfold leastK
 rw[List.range_succ,List.foldl_append]
 rfl
section
variable {g:Nat} {F:Nat→Prop} {ao:Option Addr} {n cap:Nat} {w:World}
set_option maxHeartbeats 2000000 in
theorem sindex_any(hg:g<w.heap.size){ts:List ByteArray}(hX:SlF F w 1 (plainF strC) ao n cap ts)(nm:ByteArray):
  Calls Tryz.prog 62 #[.slice ao n cap,.string nm] w fun e w' =>e= .returned (.int .i64 (placeV (ts.findIdx (fun s=>sameS s nm)) ts.length))∧Below w.heap.size w w' :=by
 have NL:Hid (n=ts.length):=hX.len
 have hle:=hX.le
 have M:=Mem.begin hg ⟨0,0⟩
 have HX:=Lib.hid hX
 clear hX hg
 go_enter Tryz.func62,Tryz.ntmps62
 go_wp2_with fail
 go_loopw [8] (fun i wr=> ∃ k:Nat,k≤n∧i= .int .i64 k∧Mem (StaysB g w) g w wr ⟨0,0⟩ []∧Hid (NoB ts (fun s=>sameS s nm) k)) (fun i _=>n - (intOf i).toNat)
 case atStart=>exact⟨0,by omega,rfl,M,noB_zero _ _⟩
 case round=>
  clear M
  obtain⟨k,hk,rfl,M,HB⟩:=hrel
  by_cases hlt:k<n
  ·have hkl:k<ts.length:=by have:=NL.out;omega
   obtain⟨ca,oa,rowa,hixa, -,hrra,hwa⟩:=SlF.rowAt (P:=Tryz.prog) HX.out (plainF_firm _) Tryz.underlying84 size_str (i:=k) hkl
   have ea:rowa=strC ts[k]:=hrra
   subst ea
   have HA0:Hid (∀ wx,Below w.heap.size w wx→wx.cell? ⟨ca,oa,none⟩=some (.string ts[k])):=fun wx hb=>(hwa wx hb).1 0 _ rfl
   have HP:Hid (∀ b,sameS ts[k] nm=b→(nm.toList==ts[k].toList)=b):=fun b h=>by rw[sameS_comm]at h;exact h
   have HS:Hid (sameS ts[k] nm=true→placeV (ts.findIdx (fun s=>sameS s nm)) ts.length=k):=fun h=>place_at HB.out hkl h
   have HT:Hid (sameS ts[k] nm=false→NoB ts (fun s=>sameS s nm) (k+1)):=fun h=>noB_succ HB.out hkl h
   clear hwa hrra HB
   generalize ts[k]=tn at HA0 HP HS HT
   cases hsm:sameS tn nm with
   |true=>
    have hq:=HP.out _ hsm
    have HV:=Lib.hid (HS.out hsm)
    clear HP HS HT hsm
    go_wp2_with (with_reducible refine wC (HA0.out _ M.new) ?_)
    go_ret
    rw[HV.out]
    exact⟨rfl,M.new⟩
   |false=>
    have hq:=HP.out _ hsm
    have HV:=Lib.hid (HT.out hsm)
    clear HP HS HT hsm
    go_wp2_with (with_reducible refine wC (HA0.out _ M.new) ?_)
    go_roundw
    case rel=>exact⟨k+1,by omega,by go_num,M,HV⟩
    case measure=>simp[intOf];omega
  ·have HV:Hid (placeV (ts.findIdx (fun s=>sameS s nm)) ts.length= -1):=by
    have e:k=ts.length:=by have:=NL.out;omega
    exact place_none (e▸HB.out)
   go_wp2
   go_ret
   rw[HV.out]
   exact⟨rfl,M.new⟩
set_option maxRecDepth 8000 in
set_option maxHeartbeats 8000000 in
theorem behind_any{w0:World}(hg:g<w0.heap.size){zf:Nat}{G:Mx}(HM: ∀ wx,Below w0.heap.size w0 wx→wx.cell? ⟨zf,1,none⟩=some (.slice ao n cap))(HL:LinesAt w0 ao n cap G){k p:Nat}(hp:p<n)(h1:1≤k)(hk:2*k≤n)(hkm:k≤1000):
  Calls Tryz.prog 25 #[.pointer (some ⟨zf,0,none⟩),.int .i64 k,.int .i64 p] w0 fun e w' =>e= .returned (.int .i64 (latF G k p))∧Below w0.heap.size w0 w' :=by
 have M:=Mem.begin hg ⟨0,0⟩
 have HMM:=Lib.hid HM
 have HP0: ∀ wx,Calls Tryz.prog 26 #[.int .i64 0] wx fun e w' =>e= .returned (.int .i64 1)∧Below wx.heap.size wx w' :=fun wx=>pend_any 0 (by omega) wx
 have HLL:=Lib.hid HL
 have HE:Hid (latK G p k=latF G k p):=rfl
 obtain⟨A1,o1,ra1,rc1,hix1,hc1,hj1⟩:=HL 1 (by omega)
 obtain⟨B1,q1,hiy1,hv1⟩:=hj1 p hp
 have hixA: ∀ wx,(Instr.indexAt 78 (.slice ao n cap) (.int .i64 1)).run Tryz.prog wx= .ok (.pointer (some ⟨A1,o1+1,none⟩)) wx:=hix1
 have HC1:=Lib.hid hc1
 have HV1:=Lib.hid hv1
 clear hg HM HL hc1 hj1 hv1 hix1
 go_enter Tryz.func25,Tryz.ntmps25
 go_wp2_with fail
 ((refine wp_region_first [0,1,2,3,7,5,6,8,9,10] [(true,0),(true,1),(true,2),(true,3),(true,7),(false,4),(true,5),(true,6),(true,8),(true,9),(true,10)] (fun _ M=>M) M (by kernel_rfl) (by kernel_rfl) (fun _ _ _ _ _ h=>h) ?_);clear M;intro w M;(repeat(first|((with_reducible refine m_read rfl M.kept fun K hK=>?_);(first|(refine r_load (l' :=?_) ⟨_,M.kept⟩ (fun w M=>?_) ?_;rotate_left;focus((first|(refine q_cellat (HMM.out _ M.new) ?_)|(refine q_cellat (HC1.out _ M.new) ?_)|(refine q_cellat (HV1.out _ M.new) ?_));refine⟨rfl,?_⟩;with_reducible rfl))|(refine r_pure (v:=?_) rfl (fun w=>?_) ?_;rotate_left;focus(go_simp;try with_reducible rfl)));(try go_simp);with_reducible refine hK _ ?_;clear hK K)|((with_reducible refine m_step rfl rfl fun K hK=>?_);((refine owp_of ?_;go_simp;(go_at_call 26;with_reducible refine(HP0 _).mono ?_;rintro e w5 ⟨rfl,hb5⟩;replace M:=M.below hb5;clear hb5)));(try go_simp);with_reducible refine hK _ _ M.kept ?_;clear hK K)));(with_reducible refine m_nil ?_))
 clear hixA hiy1 HC1 HV1
 go_wp2_with (with_reducible (first|refine wq M ?_|(refine wS M ?_;clear M;intro w M)|(refine wV M ?_;clear M;intro z w M)|(refine wR M ?_;clear M;intro q w M)))
 go_loopg [7,20] k (fun f a b wr=> ∃ j:Nat,j+f=k∧b= .int .i64 j∧a= .int .i64 (latK G p j)∧Mem (StaysB g w0) g w0 wr ⟨0,0⟩ [])
 case atStart=>exact⟨0,by omega,rfl,rfl,M⟩
 case round=>
  clear M
  obtain⟨j,hjk,rfl,rfl,M⟩:=hrel
  by_cases hlt:j<k
  ·have hjm:j≤1000:=by omega
   obtain⟨A2,o2,ra2,rc2,hix2,hc2,hj2⟩:=HLL.out (2*j+1) (by omega)
   obtain⟨B2,q2,hiy2,hv2⟩:=hj2 p hp
   have hixB: ∀ wx,(Instr.indexAt 78 (.slice ao n cap) (.int .i64 (2*(j:Int)+1))).run Tryz.prog wx= .ok (.pointer (some ⟨A2,o2+(2*j+1),none⟩)) wx:=hix2
   have HC2:=Lib.hid hc2
   have HV2:=Lib.hid hv2
   have HN:=Lib.hid (latK_next G p j)
   clear hc2 hj2 hv2 hix2 HLL
   generalize latK G p j=v at HN
   generalize G (2*j+1) p=x at HN HV2
   go_wp2_with (with_reducible (first|refine wq M ?_|(refine wS M ?_;clear M;intro w M)|(refine wV M ?_;clear M;intro z w M)|(refine wR M ?_;clear M;intro q w M)))
   ((refine wp_region_first [0,1,2,3,4,5,9,7,8,10,11,13] [(true,0),(true,1),(true,2),(true,3),(true,4),(true,5),(true,9),(false,6),(true,7),(true,8),(true,10),(true,11),(false,12),(true,13)] (fun _ M=>M) M (by kernel_rfl) (by kernel_rfl) (fun _ _ _ _ _ h=>h) ?_);clear M;intro w M;(repeat(first|((with_reducible refine m_read rfl M.kept fun K hK=>?_);(first|(refine r_load (l' :=?_) ⟨_,M.kept⟩ (fun w M=>?_) ?_;rotate_left;focus((first|(refine q_cellat (HMM.out _ M.new) ?_)|(refine q_cellat (HC2.out _ M.new) ?_)|(refine q_cellat (HV2.out _ M.new) ?_));refine⟨rfl,?_⟩;with_reducible rfl))|(refine r_pure (v:=?_) rfl (fun w=>?_) ?_;rotate_left;focus(go_simp;try with_reducible rfl)));(try go_simp);with_reducible refine hK _ ?_;clear hK K)|((with_reducible refine m_step rfl rfl fun K hK=>?_);(first|((refine owp_of ?_;go_simp;(go_at_call 26;with_reducible refine(pend_any j hjm _).mono ?_;rintro e w5 ⟨rfl,hb5⟩;replace M:=M.below hb5;clear hb5)))|(refine owp_of ?_;go_simp));(try go_simp);with_reducible refine hK _ _ M.kept ?_;clear hK K)));(with_reducible refine m_nil ?_))
   go_wp2_with (with_reducible (first|refine wq M ?_|(refine wS M ?_;clear M;intro w M)|(refine wV M ?_;clear M;intro z w M)|(refine wR M ?_;clear M;intro q w M)))
   go_roundg (k - (j+1))
   case measure=>omega
   case rel=>exact⟨j+1,by omega,by go_num,by rw[HN.out],M⟩
  ·have e:j=k:=by omega
   subst e
   go_wp2_with (with_reducible (first|refine wq M ?_|(refine wS M ?_;clear M;intro w M)|(refine wV M ?_;clear M;intro z w M)|(refine wR M ?_;clear M;intro q w M)))
   go_ret
   rw[HE.out]
   exact⟨rfl,M.new⟩
set_option maxRecDepth 8000 in
set_option maxHeartbeats 8000000 in
theorem delay_any{w0:World}(hg:g<w0.heap.size){zf:Nat}{G:Mx}(HM: ∀ wx,Below w0.heap.size w0 wx→wx.cell? ⟨zf,1,none⟩=some (.slice ao n cap))(HL:LinesAt w0 ao n cap G){k:Nat}(hk:2*k+1<n)(hkm:k≤1000):
  Calls Tryz.prog 23 #[.pointer (some ⟨zf,0,none⟩),.int .i64 k] w0 fun e w' =>e= .returned (.int .i64 (max (leastF G k) 0))∧Below w0.heap.size w0 w' :=by
 have M:=Mem.begin hg ⟨0,0⟩
 have HMM:=Lib.hid HM
 have HE:Hid (leastK G k k=leastF G k):=rfl
 have HL0:Hid (leastK G k 0=1152921504606846976):=rfl
 obtain⟨A2,o2,ra2,rc2,hix2,hc2,hj2⟩:=HL (2*k+1) hk
 have hixB: ∀ wx,(Instr.indexAt 78 (.slice ao n cap) (.int .i64 (2*(k:Int)+1))).run Tryz.prog wx= .ok (.pointer (some ⟨A2,o2+(2*k+1),none⟩)) wx:=hix2
 have HC2:=Lib.hid hc2
 have HJ2:=Lib.hid hj2
 clear hg HM HL hc2 hj2 hix2
 go_enter Tryz.func23,Tryz.ntmps23
 go_wp2_with fail
 go_loopg [5,8] k (fun f a b wr=> ∃ j:Nat,j+f=k∧b= .int .i64 j∧a= .int .i64 (leastK G k j)∧Mem (StaysB g w0) g w0 wr ⟨0,0⟩ [])
 case atStart=>exact⟨0,by omega,rfl,by rw[HL0.out],M⟩
 case round=>
  clear M
  obtain⟨j,hjk,rfl,rfl,M⟩:=hrel
  by_cases hlt:j<k
  ·have hjm:j≤1000:=by omega
   obtain⟨B2,q2,hiy2,hv2⟩:=HJ2.out (2*j+1) (by omega)
   have hiyB: ∀ wx,(Instr.indexAt 26 (.slice ra2 n rc2) (.int .i64 (2*(j:Int)+1))).run Tryz.prog wx= .ok (.pointer (some ⟨B2,q2+(2*j+1),none⟩)) wx:=hiy2
   have HV2:=Lib.hid hv2
   have HN:=Lib.hid (leastK_next G k j)
   clear hv2 hiy2
   generalize leastK G k j=v at HN
   generalize G (2*k+1) (2*j+1)=x at HN HV2
   go_wp2_with (with_reducible (first|refine wq M ?_|(refine wS M ?_;clear M;intro w M)|(refine wV M ?_;clear M;intro z w M)|(refine wR M ?_;clear M;intro q w M)))
   ((refine wp_region_first [0,1,2,3,4,5,9,7,8,11,12,14] [(true,0),(true,1),(true,2),(true,3),(true,4),(true,5),(true,9),(false,6),(true,7),(true,8),(false,10),(true,11),(true,12),(false,13),(true,14)] (fun _ M=>M) M (by kernel_rfl) (by kernel_rfl) (fun _ _ _ _ _ h=>h) ?_);clear M;intro w M;(repeat(first|((with_reducible refine m_read rfl M.kept fun K hK=>?_);(first|(refine r_load (l' :=?_) ⟨_,M.kept⟩ (fun w M=>?_) ?_;rotate_left;focus((first|(refine q_cellat (HMM.out _ M.new) ?_)|(refine q_cellat (HC2.out _ M.new) ?_)|(refine q_cellat (HV2.out _ M.new) ?_));refine⟨rfl,?_⟩;with_reducible rfl))|(refine r_pure (v:=?_) rfl (fun w=>?_) ?_;rotate_left;focus(go_simp;try with_reducible rfl)));(try go_simp);with_reducible refine hK _ ?_;clear hK K)|((with_reducible refine m_step rfl rfl fun K hK=>?_);(first|((refine owp_of ?_;go_simp;(go_at_call 26;with_reducible refine(pend_any k hkm _).mono ?_;rintro e w5 ⟨rfl,hb5⟩;replace M:=M.below hb5;clear hb5)))|((refine owp_of ?_;go_simp;(go_at_call 26;with_reducible refine(pend_any j hjm _).mono ?_;rintro e w5 ⟨rfl,hb5⟩;replace M:=M.below hb5;clear hb5)))|(refine owp_of ?_;go_simp));(try go_simp);with_reducible refine hK _ _ M.kept ?_;clear hK K)));(with_reducible refine m_nil ?_))
   go_wp2_with (with_reducible (first|refine wq M ?_|(refine wS M ?_;clear M;intro w M)|(refine wV M ?_;clear M;intro z w M)|(refine wR M ?_;clear M;intro q w M)))
   go_roundg (k - (j+1))
   case measure=>omega
   case rel=>exact⟨j+1,by omega,by go_num,by rw[HN.out],M⟩
  ·have e:j=k:=by omega
   subst e
   go_wp2_with (with_reducible (first|refine wq M ?_|(refine wS M ?_;clear M;intro w M)|(refine wV M ?_;clear M;intro z w M)|(refine wR M ?_;clear M;intro q w M)))
   go_ret
   rw[HE.out]
   exact⟨rfl,M.new⟩
end
end Go.Proofs.YtncmghnhfipklaaGreatDoor
