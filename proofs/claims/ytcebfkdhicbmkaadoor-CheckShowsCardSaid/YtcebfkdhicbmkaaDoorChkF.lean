/-
  The walks of the reference's BookFault, sixth part: patterns. Printed by chkf.py.
-/
import Derived.Test.YtcebfkdhicbmkaaDoorChkE
namespace Go.Proofs.YtcebfkdhicbmkaaDoor
open Go.RowKit
set_option linter.unusedVariables false
set_option linter.unusedSimpArgs false
theorem size_str:SizeIs Tryd.prog 9 1:=fun w=>by kernel_rfl
section
variable {g:Nat} {F G H S:Nat→Prop} {ao:Option Addr} {n cap:Nat} {bo:Option Addr} {m bcap:Nat} {lo:Option Addr} {an acap:Nat} {so:Option Addr} {sn scap:Nat} {w0:World} {ts:List Typ} {known:List Pat} {ahead:List ByteArray}
set_option maxRecDepth 8000 in
set_option maxHeartbeats 4000000 in
theorem patFault_name(hg:g<w0.heap.size)(hX:SlF F w0 2 typF ao n cap ts)(hts: ∀ t∈ts,typOk t)(hY:SlF G w0 18 patF bo m bcap known)(hkn: ∀ p∈known,typI ts p.type<ts.length)(hA:SlF H w0 1 wordF lo an acap ahead)(p:Pat)(hS:SlF S w0 14 CondF so sn scap p.wher.subs)(hv:p.var.size≤maxLen)(hok:CondOk p.wher)(part:Nat)(hp:part≤2)(h0:freeE p.var≠0):
  Calls Tryd.prog 48 #[.slice ao n cap,.slice bo m bcap,.slice lo an acap,.agg (pat18 p so sn scap).toArray,.int .i64 part] w0 fun e w' =>e= .returned (.int .i64 (patE ts known ahead p part))∧Below w0.heap.size w0 w' :=by
 have M:=Mem.begin hg ⟨0,0⟩
 have hleA:=hA.le
 have NA:=Lib.hid hA.len
 have HAA:=Lib.hid hA
 have HFN:Hid (∀ wx,Below w0.heap.size w0 wx→Calls Tryd.prog 47 #[.string p.var] wx fun e w' =>e= .returned (.int .i64 (freeE p.var))∧Below wx.heap.size wx w'):=fun wx hbx=>freeName_any p.var wx hv
 have HTN:Hid (∀ wx,Below w0.heap.size w0 wx→Calls Tryd.prog 24 #[.slice ao n cap,.string p.type] wx fun e w' =>e= .returned (.int .i64 (placeV (typI ts p.type) ts.length))∧Below wx.heap.size wx w'):=fun wx hbx=>
  typeNamed_any (Nat.lt_of_lt_of_le hg hbx.size) (hX.below typF_firm hbx) p.type
 have HV:Hid (patE ts known ahead p part=freeE p.var):=by show _=_;unfold patE;rw[if_pos h0]
 rw[HV.out]
 have hb:(freeE p.var !=0)=true:=by simpa using h0
 generalize freeE p.var=q at HFN hb
 unfold pat18
 clear hg hX hts hY hkn hA hS hv hok hp h0 HV
 go_enter Tryd.func48,Tryd.ntmps48
 go_wp2_with (first|(with_reducible (first|(refine wB (L:=[]) M ?_;clear M;intro za w1 M)|refine wq M ?_))|(go_at_call 47;with_reducible refine(HFN.out _ M.new).mono ?_;rintro e w5 ⟨rfl,hb5⟩;replace M:=M.below hb5;clear hb5))
 go_ret
 exact⟨rfl,M.new⟩
set_option maxRecDepth 8000 in
set_option maxHeartbeats 4000000 in
theorem patFault_twice(hg:g<w0.heap.size)(hX:SlF F w0 2 typF ao n cap ts)(hts: ∀ t∈ts,typOk t)(hY:SlF G w0 18 patF bo m bcap known)(hkn: ∀ p∈known,typI ts p.type<ts.length)(hA:SlF H w0 1 wordF lo an acap ahead)(p:Pat)(hS:SlF S w0 14 CondF so sn scap p.wher.subs)(hv:p.var.size≤maxLen)(hok:CondOk p.wher)(part:Nat)(hp:part≤2)(h0:freeE p.var=0)(hin:inS ahead p.var=true):
  Calls Tryd.prog 48 #[.slice ao n cap,.slice bo m bcap,.slice lo an acap,.agg (pat18 p so sn scap).toArray,.int .i64 part] w0 fun e w' =>e= .returned (.int .i64 (patE ts known ahead p part))∧Below w0.heap.size w0 w' :=by
 have M:=Mem.begin hg ⟨0,0⟩
 have hleA:=hA.le
 have NA:=Lib.hid hA.len
 have HAA:=Lib.hid hA
 have HFN:Hid (∀ wx,Below w0.heap.size w0 wx→Calls Tryd.prog 47 #[.string p.var] wx fun e w' =>e= .returned (.int .i64 (freeE p.var))∧Below wx.heap.size wx w'):=fun wx hbx=>freeName_any p.var wx hv
 have HTN:Hid (∀ wx,Below w0.heap.size w0 wx→Calls Tryd.prog 24 #[.slice ao n cap,.string p.type] wx fun e w' =>e= .returned (.int .i64 (placeV (typI ts p.type) ts.length))∧Below wx.heap.size wx w'):=fun wx hbx=>
  typeNamed_any (Nat.lt_of_lt_of_le hg hbx.size) (hX.below typF_firm hbx) p.type
 have HV:Hid (patE ts known ahead p part=7):=by show _=_;unfold patE;rw[if_neg (by omega),if_pos hin]
 rw[HV.out]
 rw[h0]at HFN
 have HIN:=Lib.hid hin
 unfold pat18
 clear hg hX hts hY hkn hA hS hv hok hp h0 HV hin
 go_enter Tryd.func48,Tryd.ntmps48
 go_wp2_with (first|(with_reducible (first|(refine wB (L:=[]) M ?_;clear M;intro za w1 M)|refine wq M ?_))|(go_at_call 47;with_reducible refine(HFN.out _ M.new).mono ?_;rintro e w5 ⟨rfl,hb5⟩;replace M:=M.below hb5;clear hb5))
 go_loopw [12] (fun i wr=> ∃ j:Nat,j≤an∧i= .int .i64 j∧Mem (StaysB g w0) g w0 wr ⟨0,0⟩ (own za [.string p.var,.string p.type,.int .i64 p.wher.kind,.slice so sn scap,.int .i64 p.wher.left.kind,.int .i64 p.wher.left.vkind,.int .i64 p.wher.left.vint,.string p.wher.left.vtext,.string p.wher.left.var,.string p.wher.left.field,.int .i64 p.wher.right.kind,.int .i64 p.wher.right.vkind,.int .i64 p.wher.right.vint,.string p.wher.right.vtext,.string p.wher.right.var,.string p.wher.right.field,.int .i64 p.window,.int .i64 p.n] 69::[])∧Hid (NoB ahead (fun x=>sameS x p.var) j)) (fun i _=>an - (intOf i).toNat)
 case atStart=>exact⟨0,by omega,rfl,M,noB_zero _ _⟩
 case round=>
  clear M
  obtain⟨j,hj,rfl,M,HB⟩:=hrel
  by_cases hlt:j<an
  ·have hkl:j<ahead.length:=by have:=NA.out;omega
   obtain⟨ca,oa,rowa,hixa, -,hrra,hwa⟩:=SlF.rowAt (P:=Tryd.prog) HAA.out wordF_firm Tryd.underlying60 size_str (i:=j) hkl
   have e1:rowa=[.string ahead[j]]:=hrra
   subst e1
   have HA0:Hid (∀ wx,Below w0.heap.size w0 wx→wx.cell? ⟨ca,oa,none⟩=some (.string ahead[j])):=fun wx hb=>(hwa wx hb).1 0 _ rfl
   have HP:Hid (∀ b,sameS ahead[j] p.var=b→(ahead[j].toList==p.var.toList)=b):=fun b h=>h
   have HT:Hid (sameS ahead[j] p.var=false→NoB ahead (fun x=>sameS x p.var) (j+1)):=fun h=>noB_succ HB.out hkl h
   have HN:Hid (sameS ahead[j] p.var=true→inS ahead p.var=true):=fun h=>List.any_eq_true.2 ⟨_,List.getElem_mem hkl,h⟩
   clear hwa hrra HB
   generalize ahead[j]=x at HA0 HP HT HN
   cases hsm:sameS x p.var with
   |true=>
    have hq:=HP.out _ hsm
    clear HP HT HN hsm
    go_wp2_with (with_reducible (first|refine wq M ?_|(refine wS M ?_;clear M;intro w M)|(refine wV M ?_;clear M;intro z w M)|(refine wR M ?_;clear M;intro q w M)))
    ((refine wp_region_still_lit (by kernel_rfl) (by kernel_rfl) ?_);(change wpStill _ _ (World.drew _) _ _ _);replace M:=M.drew;(repeat(first|((with_reducible refine s_list rfl fun K hK=>?_);refine s_load ?_;(first|(refine q_cellat (HA0.out _ M.new) ?_)|refine q_get M (by exact rfl) ?_);refine⟨rfl,hK _ ?_⟩;clear hK K)|((with_reducible refine s_list rfl fun K hK=>?_);refine s_pure ?_;go_simp;refine hK _ ?_;clear hK K)));(refine wpStill_nil ?_))
    go_wp2_with (with_reducible (first|refine wq M ?_|(refine wS M ?_;clear M;intro w M)|(refine wV M ?_;clear M;intro z w M)|(refine wR M ?_;clear M;intro q w M)))
    go_ret
    exact⟨rfl,M.new⟩
   |false=>
    have hq:=HP.out _ hsm
    have HV2:=Lib.hid (HT.out hsm)
    clear HP HT HN hsm
    go_wp2_with (with_reducible (first|refine wq M ?_|(refine wS M ?_;clear M;intro w M)|(refine wV M ?_;clear M;intro z w M)|(refine wR M ?_;clear M;intro q w M)))
    ((refine wp_region_still_lit (by kernel_rfl) (by kernel_rfl) ?_);(change wpStill _ _ (World.drew _) _ _ _);replace M:=M.drew;(repeat(first|((with_reducible refine s_list rfl fun K hK=>?_);refine s_load ?_;(first|(refine q_cellat (HA0.out _ M.new) ?_)|refine q_get M (by exact rfl) ?_);refine⟨rfl,hK _ ?_⟩;clear hK K)|((with_reducible refine s_list rfl fun K hK=>?_);refine s_pure ?_;go_simp;refine hK _ ?_;clear hK K)));(refine wpStill_nil ?_))
    go_wp2_with (with_reducible (first|refine wq M ?_|(refine wS M ?_;clear M;intro w M)|(refine wV M ?_;clear M;intro z w M)|(refine wR M ?_;clear M;intro q w M)))
    go_roundw
    case rel=>exact⟨j+1,by omega,by go_num,M,HV2⟩
    case measure=>simp[intOf];omega
  ·exact absurd HIN.out (by rw[Bool.not_eq_true];exact List.any_eq_false.2 (fun x hx=>by obtain⟨q,hq,rfl⟩:=List.mem_iff_getElem.1 hx;have e:sameS ahead[q] p.var=false:=HB.out q hq (by have:=NA.out;omega);rw[e];simp))
set_option maxRecDepth 8000 in
set_option maxHeartbeats 4000000 in
theorem patFault_none(hg:g<w0.heap.size)(hX:SlF F w0 2 typF ao n cap ts)(hts: ∀ t∈ts,typOk t)(hY:SlF G w0 18 patF bo m bcap known)(hkn: ∀ p∈known,typI ts p.type<ts.length)(hA:SlF H w0 1 wordF lo an acap ahead)(p:Pat)(hS:SlF S w0 14 CondF so sn scap p.wher.subs)(hv:p.var.size≤maxLen)(hok:CondOk p.wher)(part:Nat)(hp:part≤2)(h0:freeE p.var=0)(hin:inS ahead p.var=false)(ht:ts.length≤typI ts p.type):
  Calls Tryd.prog 48 #[.slice ao n cap,.slice bo m bcap,.slice lo an acap,.agg (pat18 p so sn scap).toArray,.int .i64 part] w0 fun e w' =>e= .returned (.int .i64 (patE ts known ahead p part))∧Below w0.heap.size w0 w' :=by
 have M:=Mem.begin hg ⟨0,0⟩
 have hleA:=hA.le
 have NA:=Lib.hid hA.len
 have HAA:=Lib.hid hA
 have HFN:Hid (∀ wx,Below w0.heap.size w0 wx→Calls Tryd.prog 47 #[.string p.var] wx fun e w' =>e= .returned (.int .i64 (freeE p.var))∧Below wx.heap.size wx w'):=fun wx hbx=>freeName_any p.var wx hv
 have HTN:Hid (∀ wx,Below w0.heap.size w0 wx→Calls Tryd.prog 24 #[.slice ao n cap,.string p.type] wx fun e w' =>e= .returned (.int .i64 (placeV (typI ts p.type) ts.length))∧Below wx.heap.size wx w'):=fun wx hbx=>
  typeNamed_any (Nat.lt_of_lt_of_le hg hbx.size) (hX.below typF_firm hbx) p.type
 have HV:Hid (patE ts known ahead p part=6):=by show _=_;unfold patE;rw[if_neg (by omega),hin,if_neg (by simp),if_pos ht]
 rw[HV.out]
 rw[h0]at HFN
 have hpv:placeV (typI ts p.type) ts.length= -1:=by unfold placeV;rw[if_neg (by omega)]
 rw[hpv]at HTN
 unfold pat18
 clear hg hX hts hY hkn hA hS hv hok hp h0 HV ht hpv
 go_enter Tryd.func48,Tryd.ntmps48
 go_wp2_with (first|(with_reducible (first|(refine wB (L:=[]) M ?_;clear M;intro za w1 M)|refine wq M ?_))|(go_at_call 47;with_reducible refine(HFN.out _ M.new).mono ?_;rintro e w5 ⟨rfl,hb5⟩;replace M:=M.below hb5;clear hb5))
 go_loopw [12] (fun i wr=> ∃ j:Nat,j≤an∧i= .int .i64 j∧Mem (StaysB g w0) g w0 wr ⟨0,0⟩ (own za [.string p.var,.string p.type,.int .i64 p.wher.kind,.slice so sn scap,.int .i64 p.wher.left.kind,.int .i64 p.wher.left.vkind,.int .i64 p.wher.left.vint,.string p.wher.left.vtext,.string p.wher.left.var,.string p.wher.left.field,.int .i64 p.wher.right.kind,.int .i64 p.wher.right.vkind,.int .i64 p.wher.right.vint,.string p.wher.right.vtext,.string p.wher.right.var,.string p.wher.right.field,.int .i64 p.window,.int .i64 p.n] 69::[])∧Hid (NoB ahead (fun x=>sameS x p.var) j)) (fun i _=>an - (intOf i).toNat)
 case atStart=>exact⟨0,by omega,rfl,M,noB_zero _ _⟩
 case round=>
  clear M
  obtain⟨j,hj,rfl,M,HB⟩:=hrel
  by_cases hlt:j<an
  ·have hkl:j<ahead.length:=by have:=NA.out;omega
   obtain⟨ca,oa,rowa,hixa, -,hrra,hwa⟩:=SlF.rowAt (P:=Tryd.prog) HAA.out wordF_firm Tryd.underlying60 size_str (i:=j) hkl
   have e1:rowa=[.string ahead[j]]:=hrra
   subst e1
   have HA0:Hid (∀ wx,Below w0.heap.size w0 wx→wx.cell? ⟨ca,oa,none⟩=some (.string ahead[j])):=fun wx hb=>(hwa wx hb).1 0 _ rfl
   have HP:Hid (∀ b,sameS ahead[j] p.var=b→(ahead[j].toList==p.var.toList)=b):=fun b h=>h
   have HT:Hid (sameS ahead[j] p.var=false→NoB ahead (fun x=>sameS x p.var) (j+1)):=fun h=>noB_succ HB.out hkl h
   have HN:Hid (sameS ahead[j] p.var=true→inS ahead p.var=true):=fun h=>List.any_eq_true.2 ⟨_,List.getElem_mem hkl,h⟩
   clear hwa hrra HB
   generalize ahead[j]=x at HA0 HP HT HN
   cases hsm:sameS x p.var with
   |true=>
    rw[HN.out hsm]at hin;cases hin
   |false=>
    have hq:=HP.out _ hsm
    have HV2:=Lib.hid (HT.out hsm)
    clear HP HT HN hsm
    go_wp2_with (with_reducible (first|refine wq M ?_|(refine wS M ?_;clear M;intro w M)|(refine wV M ?_;clear M;intro z w M)|(refine wR M ?_;clear M;intro q w M)))
    ((refine wp_region_still_lit (by kernel_rfl) (by kernel_rfl) ?_);(change wpStill _ _ (World.drew _) _ _ _);replace M:=M.drew;(repeat(first|((with_reducible refine s_list rfl fun K hK=>?_);refine s_load ?_;(first|(refine q_cellat (HA0.out _ M.new) ?_)|refine q_get M (by exact rfl) ?_);refine⟨rfl,hK _ ?_⟩;clear hK K)|((with_reducible refine s_list rfl fun K hK=>?_);refine s_pure ?_;go_simp;refine hK _ ?_;clear hK K)));(refine wpStill_nil ?_))
    go_wp2_with (with_reducible (first|refine wq M ?_|(refine wS M ?_;clear M;intro w M)|(refine wV M ?_;clear M;intro z w M)|(refine wR M ?_;clear M;intro q w M)))
    go_roundw
    case rel=>exact⟨j+1,by omega,by go_num,M,HV2⟩
    case measure=>simp[intOf];omega
  ·go_wp2_with (first|(with_reducible refine wq M ?_)|(go_at_call 24;with_reducible refine(HTN.out _ M.new).mono ?_;rintro e w5 ⟨rfl,hb5⟩;replace M:=M.below hb5;clear hb5))
   go_ret
   exact⟨rfl,M.new⟩
end
end Go.Proofs.YtcebfkdhicbmkaaDoor
