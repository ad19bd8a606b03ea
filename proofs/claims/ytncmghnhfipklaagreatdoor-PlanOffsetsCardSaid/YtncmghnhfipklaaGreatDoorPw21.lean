/-
  The walks of the reference's BookFault, eighth part: patterns that may be but for their conditions. Printed by chkh.py.
-/
import Derived.Test.YtncmghnhfipklaaGreatDoorPw20
namespace Go.Proofs.YtncmghnhfipklaaGreatDoor
open Go.RowKit
set_option linter.unusedVariables false
set_option linter.unusedSimpArgs false
theorem win_good{part:Nat}{p:Pat}(hp:part≤2)(hw:winE part p=0):
  (part=0∧p.window=0∧p.n=0)∨(part=0∧p.window=1∧inB p.n 0 1073741824=true)∨(part=0∧p.window=2∧inB p.n 1 120=true)∨(part=1∧p.window=0∧p.n=0)∨(part=2∧p.window=1∧inB p.n 0 1073741824=true):=by
 simp only[inB_true]
 unfold winE at hw
 split at hw
 ·cases hw
 split at hw
 ·cases hw
 rename_i h1 h2
 rcases(by omega:part=0∨part=1∨part=2)with h|h|h
 ·rcases(by omega:p.window=0∨p.window=1∨p.window=2)with a|a|a
  ·exact .inl ⟨h,a,by omega⟩
  ·exact .inr (.inl ⟨h,a,by omega⟩)
  ·exact .inr (.inr (.inl ⟨h,a,by omega⟩))
 ·exact .inr (.inr (.inr (.inl ⟨h,by omega,by omega⟩)))
 ·exact .inr (.inr (.inr (.inr ⟨h,by omega,by omega⟩)))
section
variable {g:Nat} {F G H S:Nat→Prop} {ao:Option Addr} {n cap:Nat} {bo:Option Addr} {m bcap:Nat} {lo:Option Addr} {an acap:Nat} {so:Option Addr} {sn scap:Nat} {w0:World} {ts:List Typ} {known:List Pat} {ahead:List ByteArray}
set_option maxRecDepth 8000 in
set_option maxHeartbeats 16000000 in
theorem patFault_bare(hg:g<w0.heap.size)(hX:SlF F w0 2 typF ao n cap ts)(hts: ∀ t∈ts,typOk t)(hY:SlF G w0 18 patF bo m bcap known)(hkn: ∀ p∈known,typI ts p.type<ts.length)(hA:SlF H w0 1 wordF lo an acap ahead)(p:Pat)(hS:SlF S w0 14 CondF so sn scap p.wher.subs)(hv:p.var.size≤maxLen)(hok:CondOk p.wher)(part:Nat)(hp:part≤2)(h0:freeE p.var=0)(hin:inS ahead p.var=false)(ht:typI ts p.type<ts.length)(hw:winE part p=0)(hn:noC p.wher=true):
  Calls Tryz.prog 53 #[.slice ao n cap,.slice bo m bcap,.slice lo an acap,.agg (pat18 p so sn scap).toArray,.int .i64 part] w0 fun e w' =>e= .returned (.int .i64 (patE ts known ahead p part))∧Below w0.heap.size w0 w' :=by
 have M:=Mem.begin hg ⟨0,0⟩
 have hleA:=hA.le
 have NA:=Lib.hid hA.len
 have HAA:=Lib.hid hA
 have HFN:Hid (∀ wx,Below w0.heap.size w0 wx→Calls Tryz.prog 52 #[.string p.var] wx fun e w' =>e= .returned (.int .i64 (freeE p.var))∧Below wx.heap.size wx w'):=fun wx hbx=>freeName_any p.var wx hv
 have HTN:Hid (∀ wx,Below w0.heap.size w0 wx→Calls Tryz.prog 29 #[.slice ao n cap,.string p.type] wx fun e w' =>e= .returned (.int .i64 (placeV (typI ts p.type) ts.length))∧Below wx.heap.size wx w'):=fun wx hbx=>
  typeNamed_any (Nat.lt_of_lt_of_le hg hbx.size) (hX.below typF_firm hbx) p.type
 have HV:Hid (patE ts known ahead p part=0):=by show _=_;unfold patE;rw[if_neg (by omega),hin,if_neg (by simp),if_neg (by omega),if_neg (by omega),hn];rfl
 rw[HV.out]
 rw[h0]at HFN
 have hpv:placeV (typI ts p.type) ts.length=(typI ts p.type:Nat):=by unfold placeV;rw[if_pos ht]
 rw[hpv]at HTN
 have hleX:=hX.le
 have NX:=Lib.hid hX.len
 obtain⟨ct,ot,rowt,hixt, -,hrrt,hwt⟩:=SlF.rowAt (P:=Tryz.prog) hX typF_firm Tryz.underlying22 size_typ (i:=typI ts p.type) ht
 obtain⟨t1,t2,t3,et,ut⟩:=hrrt
 subst et
 have HT0:Hid (∀ wx,Below w0.heap.size w0 wx→wx.rangeAt ct ot [.string ts[typI ts p.type].name,.slice t1 t2 t3]):=fun wx hbx=>(hwt wx hbx).1
 have hTT:typAt ts p.type=ts[typI ts p.type]:=by unfold typAt;rw[List.getD_eq_getElem?_getD,List.getElem?_eq_getElem ht];rfl
 have HC:Hid (∀ wx,Below w0.heap.size w0 wx→Calls Tryz.prog 84 #[.slice ao n cap,.slice bo m bcap,.agg #[.string ts[typI ts p.type].name,.slice t1 t2 t3],.agg (cnd14 p.wher.kind so sn scap p.wher.left p.wher.right).toArray,.int .i64 1] wx (CndPostR (condR ts known (typAt ts p.type) 8 p.wher) wx)):=fun wx hbx=>by
  rw[hTT]
  exact condFault_any (Nat.lt_of_lt_of_le hg hbx.size) (hX.below typF_firm hbx) hts (hY.below patF_firm hbx) hkn (ut.below (plainF_firm _) hbx) (hts _ (List.getElem_mem ht)) 8 1 (by decide) (by decide) p.wher so sn scap wx (Below.refl _ _) (hS.below condF_firm hbx) hok
 have HNC:Hid (∀ wx,Below w0.heap.size w0 wx→Calls Tryz.prog 83 #[.agg (cnd14 p.wher.kind so sn scap p.wher.left p.wher.right).toArray] wx fun e w' =>e= .returned (.bool true)∧Below wx.heap.size wx w'):=fun wx hbx=>by
  rw[←hn]
  exact noCondition_any (Nat.lt_of_lt_of_le hg hbx.size) p.wher (hS.below condF_firm hbx)
 have htn:(typI ts p.type:Int)<n:=by have:=NX.out;omega
 have htp:(0:Int)≤(typI ts p.type:Nat):=by omega
 have hc:=win_good hp hw
 generalize ts[typI ts p.type].name=tnm at HT0 HC
 generalize typI ts p.type=ti at HTN htp htn hixt
 generalize condR ts known (typAt ts p.type) 8 p.wher=r at HC ⊢
 unfold cnd14 at HC HNC
 unfold CndPostR at HC
 unfold pat18
 clear hg hX hts hY hkn hA hS hv hok h0 HV ht hpv hw hn hwt ut hTT
 generalize p.window=pw at hc ⊢
 generalize p.n=pn at hc ⊢
 rcases hc with⟨rfl,rfl,rfl⟩|⟨rfl,rfl,hx⟩|⟨rfl,rfl,hx⟩|⟨rfl,rfl,rfl⟩|⟨rfl,rfl,hx⟩
 ·clear hp
  go_enter Tryz.func53,Tryz.ntmps53
  go_wp2_with (first|(with_reducible (first|(refine wB (L:=[]) M ?_;clear M;intro za w1 M)|refine wq M ?_))|(go_at_call 52;with_reducible refine(HFN.out _ M.new).mono ?_;rintro e w5 ⟨rfl,hb5⟩;replace M:=M.below hb5;clear hb5))
  go_loopw [12] (fun i wr=> ∃ j:Nat,j≤an∧i= .int .i64 j∧Mem (StaysB g w0) g w0 wr ⟨0,0⟩ (own za [.string p.var,.string p.type,.int .i64 p.wher.kind,.slice so sn scap,.int .i64 p.wher.left.kind,.int .i64 p.wher.left.vkind,.int .i64 p.wher.left.vint,.string p.wher.left.vtext,.string p.wher.left.var,.string p.wher.left.field,.int .i64 p.wher.right.kind,.int .i64 p.wher.right.vkind,.int .i64 p.wher.right.vint,.string p.wher.right.vtext,.string p.wher.right.var,.string p.wher.right.field,.int .i64 0,.int .i64 0] 61::[])∧Hid (NoB ahead (fun x=>sameS x p.var) j)) (fun i _=>an - (intOf i).toNat)
  case atStart=>exact⟨0,by omega,rfl,M,noB_zero _ _⟩
  case round=>
   clear M
   obtain⟨j,hj,rfl,M,HB⟩:=hrel
   by_cases hlt:j<an
   ·have hkl:j<ahead.length:=by have:=NA.out;omega
    obtain⟨ca,oa,rowa,hixa, -,hrra,hwa⟩:=SlF.rowAt (P:=Tryz.prog) HAA.out wordF_firm Tryz.underlying84 size_str (i:=j) hkl
    have e1:rowa=[.string ahead[j]]:=hrra
    subst e1
    have HA0:Hid (∀ wx,Below w0.heap.size w0 wx→wx.cell? ⟨ca,oa,none⟩=some (.string ahead[j])):=fun wx hb=>(hwa wx hb).1 0 _ rfl
    have HP:Hid (∀ b,sameS ahead[j] p.var=b→(ahead[j].toList==p.var.toList)=b):=fun b h=>h
    have HT:Hid (sameS ahead[j] p.var=false→NoB ahead (fun x=>sameS x p.var) (j+1)):=fun h=>noB_succ HB.out hkl h
    have HN:Hid (sameS ahead[j] p.var=true→inS ahead p.var=true):=fun h=>List.any_eq_true.2 ⟨_,List.getElem_mem hkl,h⟩
    clear hwa hrra HB
    generalize ahead[j]=x at HA0 HP HT HN
    cases hsm:sameS x p.var with
    |true=>
     rw[HN.out hsm]at hin;cases hin
    |false=>
     have hq:=HP.out _ hsm
     have HV2:=Lib.hid (HT.out hsm)
     clear HP HT HN hsm
     go_wp2_with (with_reducible (first|refine wq M ?_|(refine wS M ?_;clear M;intro w M)|(refine wV M ?_;clear M;intro z w M)|(refine wR M ?_;clear M;intro q w M)))
     ((refine wp_region_still_lit (by kernel_rfl) (by kernel_rfl) ?_);(change wpStill _ _ (World.drew _) _ _ _);replace M:=M.drew;(repeat(first|((with_reducible refine s_list rfl fun K hK=>?_);refine s_load ?_;(first|(refine q_cellat (HA0.out _ M.new) ?_)|refine q_get M (by exact rfl) ?_);refine⟨rfl,hK _ ?_⟩;clear hK K)|((with_reducible refine s_list rfl fun K hK=>?_);refine s_pure ?_;go_simp;refine hK _ ?_;clear hK K)));(refine wpStill_nil ?_))
     go_wp2_with (with_reducible (first|refine wq M ?_|(refine wS M ?_;clear M;intro w M)|(refine wV M ?_;clear M;intro z w M)|(refine wR M ?_;clear M;intro q w M)))
     go_roundw
     case rel=>exact⟨j+1,by omega,by go_num,M,HV2⟩
     case measure=>simp[intOf];omega
   ·go_wp2_with (first|(with_reducible refine wq M ?_)|(go_at_call 29;with_reducible refine(HTN.out _ M.new).mono ?_;rintro e w5 ⟨rfl,hb5⟩;replace M:=M.below hb5;clear hb5)|(go_at_call 14;refine(in_any _ _ _ _).mono ?_;rintro e w4 ⟨rfl,rfl⟩;(try rw[in_w0]))|(go_at_call 83;with_reducible refine(HNC.out _ M.new).mono ?_;rintro e w5 ⟨rfl,hb5⟩;replace M:=M.below hb5;clear hb5))
    go_ret
    exact⟨rfl,M.new⟩
 ·clear hp
  go_enter Tryz.func53,Tryz.ntmps53
  go_wp2_with (first|(with_reducible (first|(refine wB (L:=[]) M ?_;clear M;intro za w1 M)|refine wq M ?_))|(go_at_call 52;with_reducible refine(HFN.out _ M.new).mono ?_;rintro e w5 ⟨rfl,hb5⟩;replace M:=M.below hb5;clear hb5))
  go_loopw [12] (fun i wr=> ∃ j:Nat,j≤an∧i= .int .i64 j∧Mem (StaysB g w0) g w0 wr ⟨0,0⟩ (own za [.string p.var,.string p.type,.int .i64 p.wher.kind,.slice so sn scap,.int .i64 p.wher.left.kind,.int .i64 p.wher.left.vkind,.int .i64 p.wher.left.vint,.string p.wher.left.vtext,.string p.wher.left.var,.string p.wher.left.field,.int .i64 p.wher.right.kind,.int .i64 p.wher.right.vkind,.int .i64 p.wher.right.vint,.string p.wher.right.vtext,.string p.wher.right.var,.string p.wher.right.field,.int .i64 1,.int .i64 pn] 61::[])∧Hid (NoB ahead (fun x=>sameS x p.var) j)) (fun i _=>an - (intOf i).toNat)
  case atStart=>exact⟨0,by omega,rfl,M,noB_zero _ _⟩
  case round=>
   clear M
   obtain⟨j,hj,rfl,M,HB⟩:=hrel
   by_cases hlt:j<an
   ·have hkl:j<ahead.length:=by have:=NA.out;omega
    obtain⟨ca,oa,rowa,hixa, -,hrra,hwa⟩:=SlF.rowAt (P:=Tryz.prog) HAA.out wordF_firm Tryz.underlying84 size_str (i:=j) hkl
    have e1:rowa=[.string ahead[j]]:=hrra
    subst e1
    have HA0:Hid (∀ wx,Below w0.heap.size w0 wx→wx.cell? ⟨ca,oa,none⟩=some (.string ahead[j])):=fun wx hb=>(hwa wx hb).1 0 _ rfl
    have HP:Hid (∀ b,sameS ahead[j] p.var=b→(ahead[j].toList==p.var.toList)=b):=fun b h=>h
    have HT:Hid (sameS ahead[j] p.var=false→NoB ahead (fun x=>sameS x p.var) (j+1)):=fun h=>noB_succ HB.out hkl h
    have HN:Hid (sameS ahead[j] p.var=true→inS ahead p.var=true):=fun h=>List.any_eq_true.2 ⟨_,List.getElem_mem hkl,h⟩
    clear hwa hrra HB
    generalize ahead[j]=x at HA0 HP HT HN
    cases hsm:sameS x p.var with
    |true=>
     rw[HN.out hsm]at hin;cases hin
    |false=>
     have hq:=HP.out _ hsm
     have HV2:=Lib.hid (HT.out hsm)
     clear HP HT HN hsm
     go_wp2_with (with_reducible (first|refine wq M ?_|(refine wS M ?_;clear M;intro w M)|(refine wV M ?_;clear M;intro z w M)|(refine wR M ?_;clear M;intro q w M)))
     ((refine wp_region_still_lit (by kernel_rfl) (by kernel_rfl) ?_);(change wpStill _ _ (World.drew _) _ _ _);replace M:=M.drew;(repeat(first|((with_reducible refine s_list rfl fun K hK=>?_);refine s_load ?_;(first|(refine q_cellat (HA0.out _ M.new) ?_)|refine q_get M (by exact rfl) ?_);refine⟨rfl,hK _ ?_⟩;clear hK K)|((with_reducible refine s_list rfl fun K hK=>?_);refine s_pure ?_;go_simp;refine hK _ ?_;clear hK K)));(refine wpStill_nil ?_))
     go_wp2_with (with_reducible (first|refine wq M ?_|(refine wS M ?_;clear M;intro w M)|(refine wV M ?_;clear M;intro z w M)|(refine wR M ?_;clear M;intro q w M)))
     go_roundw
     case rel=>exact⟨j+1,by omega,by go_num,M,HV2⟩
     case measure=>simp[intOf];omega
   ·go_wp2_with (first|(with_reducible refine wq M ?_)|(go_at_call 29;with_reducible refine(HTN.out _ M.new).mono ?_;rintro e w5 ⟨rfl,hb5⟩;replace M:=M.below hb5;clear hb5)|(go_at_call 14;refine(in_any _ _ _ _).mono ?_;rintro e w4 ⟨rfl,rfl⟩;(try rw[hx]);(try rw[in_w1]))|(go_at_call 83;with_reducible refine(HNC.out _ M.new).mono ?_;rintro e w5 ⟨rfl,hb5⟩;replace M:=M.below hb5;clear hb5))
    go_ret
    exact⟨rfl,M.new⟩
 ·clear hp
  go_enter Tryz.func53,Tryz.ntmps53
  go_wp2_with (first|(with_reducible (first|(refine wB (L:=[]) M ?_;clear M;intro za w1 M)|refine wq M ?_))|(go_at_call 52;with_reducible refine(HFN.out _ M.new).mono ?_;rintro e w5 ⟨rfl,hb5⟩;replace M:=M.below hb5;clear hb5))
  go_loopw [12] (fun i wr=> ∃ j:Nat,j≤an∧i= .int .i64 j∧Mem (StaysB g w0) g w0 wr ⟨0,0⟩ (own za [.string p.var,.string p.type,.int .i64 p.wher.kind,.slice so sn scap,.int .i64 p.wher.left.kind,.int .i64 p.wher.left.vkind,.int .i64 p.wher.left.vint,.string p.wher.left.vtext,.string p.wher.left.var,.string p.wher.left.field,.int .i64 p.wher.right.kind,.int .i64 p.wher.right.vkind,.int .i64 p.wher.right.vint,.string p.wher.right.vtext,.string p.wher.right.var,.string p.wher.right.field,.int .i64 2,.int .i64 pn] 61::[])∧Hid (NoB ahead (fun x=>sameS x p.var) j)) (fun i _=>an - (intOf i).toNat)
  case atStart=>exact⟨0,by omega,rfl,M,noB_zero _ _⟩
  case round=>
   clear M
   obtain⟨j,hj,rfl,M,HB⟩:=hrel
   by_cases hlt:j<an
   ·have hkl:j<ahead.length:=by have:=NA.out;omega
    obtain⟨ca,oa,rowa,hixa, -,hrra,hwa⟩:=SlF.rowAt (P:=Tryz.prog) HAA.out wordF_firm Tryz.underlying84 size_str (i:=j) hkl
    have e1:rowa=[.string ahead[j]]:=hrra
    subst e1
    have HA0:Hid (∀ wx,Below w0.heap.size w0 wx→wx.cell? ⟨ca,oa,none⟩=some (.string ahead[j])):=fun wx hb=>(hwa wx hb).1 0 _ rfl
    have HP:Hid (∀ b,sameS ahead[j] p.var=b→(ahead[j].toList==p.var.toList)=b):=fun b h=>h
    have HT:Hid (sameS ahead[j] p.var=false→NoB ahead (fun x=>sameS x p.var) (j+1)):=fun h=>noB_succ HB.out hkl h
    have HN:Hid (sameS ahead[j] p.var=true→inS ahead p.var=true):=fun h=>List.any_eq_true.2 ⟨_,List.getElem_mem hkl,h⟩
    clear hwa hrra HB
    generalize ahead[j]=x at HA0 HP HT HN
    cases hsm:sameS x p.var with
    |true=>
     rw[HN.out hsm]at hin;cases hin
    |false=>
     have hq:=HP.out _ hsm
     have HV2:=Lib.hid (HT.out hsm)
     clear HP HT HN hsm
     go_wp2_with (with_reducible (first|refine wq M ?_|(refine wS M ?_;clear M;intro w M)|(refine wV M ?_;clear M;intro z w M)|(refine wR M ?_;clear M;intro q w M)))
     ((refine wp_region_still_lit (by kernel_rfl) (by kernel_rfl) ?_);(change wpStill _ _ (World.drew _) _ _ _);replace M:=M.drew;(repeat(first|((with_reducible refine s_list rfl fun K hK=>?_);refine s_load ?_;(first|(refine q_cellat (HA0.out _ M.new) ?_)|refine q_get M (by exact rfl) ?_);refine⟨rfl,hK _ ?_⟩;clear hK K)|((with_reducible refine s_list rfl fun K hK=>?_);refine s_pure ?_;go_simp;refine hK _ ?_;clear hK K)));(refine wpStill_nil ?_))
     go_wp2_with (with_reducible (first|refine wq M ?_|(refine wS M ?_;clear M;intro w M)|(refine wV M ?_;clear M;intro z w M)|(refine wR M ?_;clear M;intro q w M)))
     go_roundw
     case rel=>exact⟨j+1,by omega,by go_num,M,HV2⟩
     case measure=>simp[intOf];omega
   ·go_wp2_with (first|(with_reducible refine wq M ?_)|(go_at_call 29;with_reducible refine(HTN.out _ M.new).mono ?_;rintro e w5 ⟨rfl,hb5⟩;replace M:=M.below hb5;clear hb5)|(go_at_call 14;refine(in_any _ _ _ _).mono ?_;rintro e w4 ⟨rfl,rfl⟩;(try rw[hx]);(try rw[in_w2]))|(go_at_call 83;with_reducible refine(HNC.out _ M.new).mono ?_;rintro e w5 ⟨rfl,hb5⟩;replace M:=M.below hb5;clear hb5))
    go_ret
    exact⟨rfl,M.new⟩
 ·clear hp
  go_enter Tryz.func53,Tryz.ntmps53
  go_wp2_with (first|(with_reducible (first|(refine wB (L:=[]) M ?_;clear M;intro za w1 M)|refine wq M ?_))|(go_at_call 52;with_reducible refine(HFN.out _ M.new).mono ?_;rintro e w5 ⟨rfl,hb5⟩;replace M:=M.below hb5;clear hb5))
  go_loopw [12] (fun i wr=> ∃ j:Nat,j≤an∧i= .int .i64 j∧Mem (StaysB g w0) g w0 wr ⟨0,0⟩ (own za [.string p.var,.string p.type,.int .i64 p.wher.kind,.slice so sn scap,.int .i64 p.wher.left.kind,.int .i64 p.wher.left.vkind,.int .i64 p.wher.left.vint,.string p.wher.left.vtext,.string p.wher.left.var,.string p.wher.left.field,.int .i64 p.wher.right.kind,.int .i64 p.wher.right.vkind,.int .i64 p.wher.right.vint,.string p.wher.right.vtext,.string p.wher.right.var,.string p.wher.right.field,.int .i64 0,.int .i64 0] 61::[])∧Hid (NoB ahead (fun x=>sameS x p.var) j)) (fun i _=>an - (intOf i).toNat)
  case atStart=>exact⟨0,by omega,rfl,M,noB_zero _ _⟩
  case round=>
   clear M
   obtain⟨j,hj,rfl,M,HB⟩:=hrel
   by_cases hlt:j<an
   ·have hkl:j<ahead.length:=by have:=NA.out;omega
    obtain⟨ca,oa,rowa,hixa, -,hrra,hwa⟩:=SlF.rowAt (P:=Tryz.prog) HAA.out wordF_firm Tryz.underlying84 size_str (i:=j) hkl
    have e1:rowa=[.string ahead[j]]:=hrra
    subst e1
    have HA0:Hid (∀ wx,Below w0.heap.size w0 wx→wx.cell? ⟨ca,oa,none⟩=some (.string ahead[j])):=fun wx hb=>(hwa wx hb).1 0 _ rfl
    have HP:Hid (∀ b,sameS ahead[j] p.var=b→(ahead[j].toList==p.var.toList)=b):=fun b h=>h
    have HT:Hid (sameS ahead[j] p.var=false→NoB ahead (fun x=>sameS x p.var) (j+1)):=fun h=>noB_succ HB.out hkl h
    have HN:Hid (sameS ahead[j] p.var=true→inS ahead p.var=true):=fun h=>List.any_eq_true.2 ⟨_,List.getElem_mem hkl,h⟩
    clear hwa hrra HB
    generalize ahead[j]=x at HA0 HP HT HN
    cases hsm:sameS x p.var with
    |true=>
     rw[HN.out hsm]at hin;cases hin
    |false=>
     have hq:=HP.out _ hsm
     have HV2:=Lib.hid (HT.out hsm)
     clear HP HT HN hsm
     go_wp2_with (with_reducible (first|refine wq M ?_|(refine wS M ?_;clear M;intro w M)|(refine wV M ?_;clear M;intro z w M)|(refine wR M ?_;clear M;intro q w M)))
     ((refine wp_region_still_lit (by kernel_rfl) (by kernel_rfl) ?_);(change wpStill _ _ (World.drew _) _ _ _);replace M:=M.drew;(repeat(first|((with_reducible refine s_list rfl fun K hK=>?_);refine s_load ?_;(first|(refine q_cellat (HA0.out _ M.new) ?_)|refine q_get M (by exact rfl) ?_);refine⟨rfl,hK _ ?_⟩;clear hK K)|((with_reducible refine s_list rfl fun K hK=>?_);refine s_pure ?_;go_simp;refine hK _ ?_;clear hK K)));(refine wpStill_nil ?_))
     go_wp2_with (with_reducible (first|refine wq M ?_|(refine wS M ?_;clear M;intro w M)|(refine wV M ?_;clear M;intro z w M)|(refine wR M ?_;clear M;intro q w M)))
     go_roundw
     case rel=>exact⟨j+1,by omega,by go_num,M,HV2⟩
     case measure=>simp[intOf];omega
   ·go_wp2_with (first|(with_reducible refine wq M ?_)|(go_at_call 29;with_reducible refine(HTN.out _ M.new).mono ?_;rintro e w5 ⟨rfl,hb5⟩;replace M:=M.below hb5;clear hb5)|(go_at_call 83;with_reducible refine(HNC.out _ M.new).mono ?_;rintro e w5 ⟨rfl,hb5⟩;replace M:=M.below hb5;clear hb5))
    go_ret
    exact⟨rfl,M.new⟩
 ·clear hp
  go_enter Tryz.func53,Tryz.ntmps53
  go_wp2_with (first|(with_reducible (first|(refine wB (L:=[]) M ?_;clear M;intro za w1 M)|refine wq M ?_))|(go_at_call 52;with_reducible refine(HFN.out _ M.new).mono ?_;rintro e w5 ⟨rfl,hb5⟩;replace M:=M.below hb5;clear hb5))
  go_loopw [12] (fun i wr=> ∃ j:Nat,j≤an∧i= .int .i64 j∧Mem (StaysB g w0) g w0 wr ⟨0,0⟩ (own za [.string p.var,.string p.type,.int .i64 p.wher.kind,.slice so sn scap,.int .i64 p.wher.left.kind,.int .i64 p.wher.left.vkind,.int .i64 p.wher.left.vint,.string p.wher.left.vtext,.string p.wher.left.var,.string p.wher.left.field,.int .i64 p.wher.right.kind,.int .i64 p.wher.right.vkind,.int .i64 p.wher.right.vint,.string p.wher.right.vtext,.string p.wher.right.var,.string p.wher.right.field,.int .i64 1,.int .i64 pn] 61::[])∧Hid (NoB ahead (fun x=>sameS x p.var) j)) (fun i _=>an - (intOf i).toNat)
  case atStart=>exact⟨0,by omega,rfl,M,noB_zero _ _⟩
  case round=>
   clear M
   obtain⟨j,hj,rfl,M,HB⟩:=hrel
   by_cases hlt:j<an
   ·have hkl:j<ahead.length:=by have:=NA.out;omega
    obtain⟨ca,oa,rowa,hixa, -,hrra,hwa⟩:=SlF.rowAt (P:=Tryz.prog) HAA.out wordF_firm Tryz.underlying84 size_str (i:=j) hkl
    have e1:rowa=[.string ahead[j]]:=hrra
    subst e1
    have HA0:Hid (∀ wx,Below w0.heap.size w0 wx→wx.cell? ⟨ca,oa,none⟩=some (.string ahead[j])):=fun wx hb=>(hwa wx hb).1 0 _ rfl
    have HP:Hid (∀ b,sameS ahead[j] p.var=b→(ahead[j].toList==p.var.toList)=b):=fun b h=>h
    have HT:Hid (sameS ahead[j] p.var=false→NoB ahead (fun x=>sameS x p.var) (j+1)):=fun h=>noB_succ HB.out hkl h
    have HN:Hid (sameS ahead[j] p.var=true→inS ahead p.var=true):=fun h=>List.any_eq_true.2 ⟨_,List.getElem_mem hkl,h⟩
    clear hwa hrra HB
    generalize ahead[j]=x at HA0 HP HT HN
    cases hsm:sameS x p.var with
    |true=>
     rw[HN.out hsm]at hin;cases hin
    |false=>
     have hq:=HP.out _ hsm
     have HV2:=Lib.hid (HT.out hsm)
     clear HP HT HN hsm
     go_wp2_with (with_reducible (first|refine wq M ?_|(refine wS M ?_;clear M;intro w M)|(refine wV M ?_;clear M;intro z w M)|(refine wR M ?_;clear M;intro q w M)))
     ((refine wp_region_still_lit (by kernel_rfl) (by kernel_rfl) ?_);(change wpStill _ _ (World.drew _) _ _ _);replace M:=M.drew;(repeat(first|((with_reducible refine s_list rfl fun K hK=>?_);refine s_load ?_;(first|(refine q_cellat (HA0.out _ M.new) ?_)|refine q_get M (by exact rfl) ?_);refine⟨rfl,hK _ ?_⟩;clear hK K)|((with_reducible refine s_list rfl fun K hK=>?_);refine s_pure ?_;go_simp;refine hK _ ?_;clear hK K)));(refine wpStill_nil ?_))
     go_wp2_with (with_reducible (first|refine wq M ?_|(refine wS M ?_;clear M;intro w M)|(refine wV M ?_;clear M;intro z w M)|(refine wR M ?_;clear M;intro q w M)))
     go_roundw
     case rel=>exact⟨j+1,by omega,by go_num,M,HV2⟩
     case measure=>simp[intOf];omega
   ·go_wp2_with (first|(with_reducible refine wq M ?_)|(go_at_call 29;with_reducible refine(HTN.out _ M.new).mono ?_;rintro e w5 ⟨rfl,hb5⟩;replace M:=M.below hb5;clear hb5)|(go_at_call 14;refine(in_any _ _ _ _).mono ?_;rintro e w4 ⟨rfl,rfl⟩;(try rw[hx]))|(go_at_call 83;with_reducible refine(HNC.out _ M.new).mono ?_;rintro e w5 ⟨rfl,hb5⟩;replace M:=M.below hb5;clear hb5))
    go_ret
    exact⟨rfl,M.new⟩
set_option maxRecDepth 8000 in
set_option maxHeartbeats 16000000 in
theorem patFault_cond(hg:g<w0.heap.size)(hX:SlF F w0 2 typF ao n cap ts)(hts: ∀ t∈ts,typOk t)(hY:SlF G w0 18 patF bo m bcap known)(hkn: ∀ p∈known,typI ts p.type<ts.length)(hA:SlF H w0 1 wordF lo an acap ahead)(p:Pat)(hS:SlF S w0 14 CondF so sn scap p.wher.subs)(hv:p.var.size≤maxLen)(hok:CondOk p.wher)(part:Nat)(hp:part≤2)(h0:freeE p.var=0)(hin:inS ahead p.var=false)(ht:typI ts p.type<ts.length)(hw:winE part p=0)(hn:noC p.wher=false):
  Calls Tryz.prog 53 #[.slice ao n cap,.slice bo m bcap,.slice lo an acap,.agg (pat18 p so sn scap).toArray,.int .i64 part] w0 fun e w' =>e= .returned (.int .i64 (patE ts known ahead p part))∧Below w0.heap.size w0 w' :=by
 have M:=Mem.begin hg ⟨0,0⟩
 have hleA:=hA.le
 have NA:=Lib.hid hA.len
 have HAA:=Lib.hid hA
 have HFN:Hid (∀ wx,Below w0.heap.size w0 wx→Calls Tryz.prog 52 #[.string p.var] wx fun e w' =>e= .returned (.int .i64 (freeE p.var))∧Below wx.heap.size wx w'):=fun wx hbx=>freeName_any p.var wx hv
 have HTN:Hid (∀ wx,Below w0.heap.size w0 wx→Calls Tryz.prog 29 #[.slice ao n cap,.string p.type] wx fun e w' =>e= .returned (.int .i64 (placeV (typI ts p.type) ts.length))∧Below wx.heap.size wx w'):=fun wx hbx=>
  typeNamed_any (Nat.lt_of_lt_of_le hg hbx.size) (hX.below typF_firm hbx) p.type
 have HV:Hid (patE ts known ahead p part=(condR ts known (typAt ts p.type) 8 p.wher).2):=by show _=_;unfold patE;rw[if_neg (by omega),hin,if_neg (by simp),if_neg (by omega),if_neg (by omega),hn];rfl
 rw[HV.out]
 rw[h0]at HFN
 have hpv:placeV (typI ts p.type) ts.length=(typI ts p.type:Nat):=by unfold placeV;rw[if_pos ht]
 rw[hpv]at HTN
 have hleX:=hX.le
 have NX:=Lib.hid hX.len
 obtain⟨ct,ot,rowt,hixt, -,hrrt,hwt⟩:=SlF.rowAt (P:=Tryz.prog) hX typF_firm Tryz.underlying22 size_typ (i:=typI ts p.type) ht
 obtain⟨t1,t2,t3,et,ut⟩:=hrrt
 subst et
 have HT0:Hid (∀ wx,Below w0.heap.size w0 wx→wx.rangeAt ct ot [.string ts[typI ts p.type].name,.slice t1 t2 t3]):=fun wx hbx=>(hwt wx hbx).1
 have hTT:typAt ts p.type=ts[typI ts p.type]:=by unfold typAt;rw[List.getD_eq_getElem?_getD,List.getElem?_eq_getElem ht];rfl
 have HC:Hid (∀ wx,Below w0.heap.size w0 wx→Calls Tryz.prog 84 #[.slice ao n cap,.slice bo m bcap,.agg #[.string ts[typI ts p.type].name,.slice t1 t2 t3],.agg (cnd14 p.wher.kind so sn scap p.wher.left p.wher.right).toArray,.int .i64 1] wx (CndPostR (condR ts known (typAt ts p.type) 8 p.wher) wx)):=fun wx hbx=>by
  rw[hTT]
  exact condFault_any (Nat.lt_of_lt_of_le hg hbx.size) (hX.below typF_firm hbx) hts (hY.below patF_firm hbx) hkn (ut.below (plainF_firm _) hbx) (hts _ (List.getElem_mem ht)) 8 1 (by decide) (by decide) p.wher so sn scap wx (Below.refl _ _) (hS.below condF_firm hbx) hok
 have HNC:Hid (∀ wx,Below w0.heap.size w0 wx→Calls Tryz.prog 83 #[.agg (cnd14 p.wher.kind so sn scap p.wher.left p.wher.right).toArray] wx fun e w' =>e= .returned (.bool false)∧Below wx.heap.size wx w'):=fun wx hbx=>by
  rw[←hn]
  exact noCondition_any (Nat.lt_of_lt_of_le hg hbx.size) p.wher (hS.below condF_firm hbx)
 have htn:(typI ts p.type:Int)<n:=by have:=NX.out;omega
 have htp:(0:Int)≤(typI ts p.type:Nat):=by omega
 have hc:=win_good hp hw
 generalize ts[typI ts p.type].name=tnm at HT0 HC
 generalize typI ts p.type=ti at HTN htp htn hixt
 generalize condR ts known (typAt ts p.type) 8 p.wher=r at HC ⊢
 unfold cnd14 at HC HNC
 unfold CndPostR at HC
 unfold pat18
 clear hg hX hts hY hkn hA hS hv hok h0 HV ht hpv hw hn hwt ut hTT
 generalize p.window=pw at hc ⊢
 generalize p.n=pn at hc ⊢
 rcases hc with⟨rfl,rfl,rfl⟩|⟨rfl,rfl,hx⟩|⟨rfl,rfl,hx⟩|⟨rfl,rfl,rfl⟩|⟨rfl,rfl,hx⟩
 ·clear hp
  go_enter Tryz.func53,Tryz.ntmps53
  go_wp2_with (first|(with_reducible (first|(refine wB (L:=[]) M ?_;clear M;intro za w1 M)|refine wq M ?_))|(go_at_call 52;with_reducible refine(HFN.out _ M.new).mono ?_;rintro e w5 ⟨rfl,hb5⟩;replace M:=M.below hb5;clear hb5))
  go_loopw [12] (fun i wr=> ∃ j:Nat,j≤an∧i= .int .i64 j∧Mem (StaysB g w0) g w0 wr ⟨0,0⟩ (own za [.string p.var,.string p.type,.int .i64 p.wher.kind,.slice so sn scap,.int .i64 p.wher.left.kind,.int .i64 p.wher.left.vkind,.int .i64 p.wher.left.vint,.string p.wher.left.vtext,.string p.wher.left.var,.string p.wher.left.field,.int .i64 p.wher.right.kind,.int .i64 p.wher.right.vkind,.int .i64 p.wher.right.vint,.string p.wher.right.vtext,.string p.wher.right.var,.string p.wher.right.field,.int .i64 0,.int .i64 0] 61::[])∧Hid (NoB ahead (fun x=>sameS x p.var) j)) (fun i _=>an - (intOf i).toNat)
  case atStart=>exact⟨0,by omega,rfl,M,noB_zero _ _⟩
  case round=>
   clear M
   obtain⟨j,hj,rfl,M,HB⟩:=hrel
   by_cases hlt:j<an
   ·have hkl:j<ahead.length:=by have:=NA.out;omega
    obtain⟨ca,oa,rowa,hixa, -,hrra,hwa⟩:=SlF.rowAt (P:=Tryz.prog) HAA.out wordF_firm Tryz.underlying84 size_str (i:=j) hkl
    have e1:rowa=[.string ahead[j]]:=hrra
    subst e1
    have HA0:Hid (∀ wx,Below w0.heap.size w0 wx→wx.cell? ⟨ca,oa,none⟩=some (.string ahead[j])):=fun wx hb=>(hwa wx hb).1 0 _ rfl
    have HP:Hid (∀ b,sameS ahead[j] p.var=b→(ahead[j].toList==p.var.toList)=b):=fun b h=>h
    have HT:Hid (sameS ahead[j] p.var=false→NoB ahead (fun x=>sameS x p.var) (j+1)):=fun h=>noB_succ HB.out hkl h
    have HN:Hid (sameS ahead[j] p.var=true→inS ahead p.var=true):=fun h=>List.any_eq_true.2 ⟨_,List.getElem_mem hkl,h⟩
    clear hwa hrra HB
    generalize ahead[j]=x at HA0 HP HT HN
    cases hsm:sameS x p.var with
    |true=>
     rw[HN.out hsm]at hin;cases hin
    |false=>
     have hq:=HP.out _ hsm
     have HV2:=Lib.hid (HT.out hsm)
     clear HP HT HN hsm
     go_wp2_with (with_reducible (first|refine wq M ?_|(refine wS M ?_;clear M;intro w M)|(refine wV M ?_;clear M;intro z w M)|(refine wR M ?_;clear M;intro q w M)))
     ((refine wp_region_still_lit (by kernel_rfl) (by kernel_rfl) ?_);(change wpStill _ _ (World.drew _) _ _ _);replace M:=M.drew;(repeat(first|((with_reducible refine s_list rfl fun K hK=>?_);refine s_load ?_;(first|(refine q_cellat (HA0.out _ M.new) ?_)|refine q_get M (by exact rfl) ?_);refine⟨rfl,hK _ ?_⟩;clear hK K)|((with_reducible refine s_list rfl fun K hK=>?_);refine s_pure ?_;go_simp;refine hK _ ?_;clear hK K)));(refine wpStill_nil ?_))
     go_wp2_with (with_reducible (first|refine wq M ?_|(refine wS M ?_;clear M;intro w M)|(refine wV M ?_;clear M;intro z w M)|(refine wR M ?_;clear M;intro q w M)))
     go_roundw
     case rel=>exact⟨j+1,by omega,by go_num,M,HV2⟩
     case measure=>simp[intOf];omega
   ·go_wp2_with (first|(with_reducible refine wq M ?_)|(go_at_call 29;with_reducible refine(HTN.out _ M.new).mono ?_;rintro e w5 ⟨rfl,hb5⟩;replace M:=M.below hb5;clear hb5)|(go_at_call 14;refine(in_any _ _ _ _).mono ?_;rintro e w4 ⟨rfl,rfl⟩;(try rw[in_w0]))|(go_at_call 83;with_reducible refine(HNC.out _ M.new).mono ?_;rintro e w5 ⟨rfl,hb5⟩;replace M:=M.below hb5;clear hb5))
    (refine wp_region_any (by kernel_rfl) ?_;(try(change wpAny _ _ _ _ _ _ _ (World.drew _)));replace M:=M.drew;generalize World.drew _=w at M ⊢;have S:=St.o;((refine tk 0 (v:=?_) rfl (by kernel_rfl) rfl ?_ ?_;rotate_left;focus(intro w;go_simp;try with_reducible rfl));(try go_simp);(refine tk 1 (v:=?_) rfl (by kernel_rfl) rfl ?_ ?_;rotate_left;focus(intro w;go_simp;try with_reducible rfl));(try go_simp);(refine tk 2 (v:=?_) rfl (by kernel_rfl) rfl ?_ ?_;rotate_left;focus(intro w;go_simp;try with_reducible rfl));(try go_simp);(refine tk 3 (v:=?_) rfl (by kernel_rfl) rfl ?_ ?_;rotate_left;focus(intro w;go_simp;try with_reducible rfl));(try go_simp);(refine tk 4 (v:=?_) rfl (by kernel_rfl) rfl ?_ ?_;rotate_left;focus(intro w;go_simp;try with_reducible rfl));(try go_simp);(refine tk 6 (v:=?_) rfl (by kernel_rfl) rfl ?_ ?_;rotate_left;focus(intro w;go_simp;try with_reducible rfl));(try go_simp);replace S:=S.add 95;refine rd2 5 7 (by kernel_rfl) rfl rfl ?_ rfl rfl ?_<;>intro K hK);all_goals(first|(refine o_dst (some 104) ?_;(refine q_at (HT0.out _ M.new) (by rfl) ?_);(all_goals(refine hK _ _ ?_;clear hK K;replace S:=S.add 32)))|(refine o_dst (some 106) ?_;(refine q_prt M (by rfl) ?_);(all_goals(refine hK _ _ ?_;clear hK K;replace S:=S.add 128))));all_goals(first|(replace S:St 127:=S;refine rd1 7 (by kernel_rfl) rfl rfl ?_<;>intro K hK)|(replace S:St 223:=S;refine rd1 5 (by kernel_rfl) rfl rfl ?_<;>intro K hK));all_goals(first|(refine o_dst (some 106) ?_;(refine q_prt M (by rfl) ?_);(all_goals(refine hK _ _ ?_;clear hK K;replace S:=S.add 128)))|(refine o_dst (some 104) ?_;(refine q_at (HT0.out _ M.new) (by rfl) ?_);(all_goals(refine hK _ _ ?_;clear hK K;replace S:=S.add 32))));all_goals(refine rd1 8 (by kernel_rfl) rfl rfl ?_<;>intro K hK);all_goals(refine o_dst (some 107) ?_;(refine owp_of ?_;go_simp;(go_at_call 84;with_reducible refine(HC.out _ M.new).mono ?_;rintro e w5 ⟨kk,rfl,hb5, -⟩;replace M:=M.below hb5;clear hb5);(try go_simp));(all_goals(refine hK _ _ ?_;clear hK K;replace S:=S.add 256)));all_goals(clear S;((refine tk 9 (v:=?_) rfl (by kernel_rfl) rfl ?_ ?_;rotate_left;focus(intro w;go_simp;try with_reducible rfl));(try go_simp);(refine tk 10 (v:=?_) rfl (by kernel_rfl) rfl ?_ ?_;rotate_left;focus(intro w;go_simp;try with_reducible rfl));(try go_simp);(refine tk 11 (v:=?_) rfl (by kernel_rfl) rfl ?_ ?_;rotate_left;focus(intro w;go_simp;try with_reducible rfl));(try go_simp);(refine tk 12 (v:=?_) rfl (by kernel_rfl) rfl ?_ ?_;rotate_left;focus(intro w;go_simp;try with_reducible rfl));(try go_simp);refine wpAny_done (by kernel_rfl) ?_ _)))
    all_goals go_wp2
    all_goals go_ret
    all_goals exact⟨rfl,M.new⟩
 ·clear hp
  go_enter Tryz.func53,Tryz.ntmps53
  go_wp2_with (first|(with_reducible (first|(refine wB (L:=[]) M ?_;clear M;intro za w1 M)|refine wq M ?_))|(go_at_call 52;with_reducible refine(HFN.out _ M.new).mono ?_;rintro e w5 ⟨rfl,hb5⟩;replace M:=M.below hb5;clear hb5))
  go_loopw [12] (fun i wr=> ∃ j:Nat,j≤an∧i= .int .i64 j∧Mem (StaysB g w0) g w0 wr ⟨0,0⟩ (own za [.string p.var,.string p.type,.int .i64 p.wher.kind,.slice so sn scap,.int .i64 p.wher.left.kind,.int .i64 p.wher.left.vkind,.int .i64 p.wher.left.vint,.string p.wher.left.vtext,.string p.wher.left.var,.string p.wher.left.field,.int .i64 p.wher.right.kind,.int .i64 p.wher.right.vkind,.int .i64 p.wher.right.vint,.string p.wher.right.vtext,.string p.wher.right.var,.string p.wher.right.field,.int .i64 1,.int .i64 pn] 61::[])∧Hid (NoB ahead (fun x=>sameS x p.var) j)) (fun i _=>an - (intOf i).toNat)
  case atStart=>exact⟨0,by omega,rfl,M,noB_zero _ _⟩
  case round=>
   clear M
   obtain⟨j,hj,rfl,M,HB⟩:=hrel
   by_cases hlt:j<an
   ·have hkl:j<ahead.length:=by have:=NA.out;omega
    obtain⟨ca,oa,rowa,hixa, -,hrra,hwa⟩:=SlF.rowAt (P:=Tryz.prog) HAA.out wordF_firm Tryz.underlying84 size_str (i:=j) hkl
    have e1:rowa=[.string ahead[j]]:=hrra
    subst e1
    have HA0:Hid (∀ wx,Below w0.heap.size w0 wx→wx.cell? ⟨ca,oa,none⟩=some (.string ahead[j])):=fun wx hb=>(hwa wx hb).1 0 _ rfl
    have HP:Hid (∀ b,sameS ahead[j] p.var=b→(ahead[j].toList==p.var.toList)=b):=fun b h=>h
    have HT:Hid (sameS ahead[j] p.var=false→NoB ahead (fun x=>sameS x p.var) (j+1)):=fun h=>noB_succ HB.out hkl h
    have HN:Hid (sameS ahead[j] p.var=true→inS ahead p.var=true):=fun h=>List.any_eq_true.2 ⟨_,List.getElem_mem hkl,h⟩
    clear hwa hrra HB
    generalize ahead[j]=x at HA0 HP HT HN
    cases hsm:sameS x p.var with
    |true=>
     rw[HN.out hsm]at hin;cases hin
    |false=>
     have hq:=HP.out _ hsm
     have HV2:=Lib.hid (HT.out hsm)
     clear HP HT HN hsm
     go_wp2_with (with_reducible (first|refine wq M ?_|(refine wS M ?_;clear M;intro w M)|(refine wV M ?_;clear M;intro z w M)|(refine wR M ?_;clear M;intro q w M)))
     ((refine wp_region_still_lit (by kernel_rfl) (by kernel_rfl) ?_);(change wpStill _ _ (World.drew _) _ _ _);replace M:=M.drew;(repeat(first|((with_reducible refine s_list rfl fun K hK=>?_);refine s_load ?_;(first|(refine q_cellat (HA0.out _ M.new) ?_)|refine q_get M (by exact rfl) ?_);refine⟨rfl,hK _ ?_⟩;clear hK K)|((with_reducible refine s_list rfl fun K hK=>?_);refine s_pure ?_;go_simp;refine hK _ ?_;clear hK K)));(refine wpStill_nil ?_))
     go_wp2_with (with_reducible (first|refine wq M ?_|(refine wS M ?_;clear M;intro w M)|(refine wV M ?_;clear M;intro z w M)|(refine wR M ?_;clear M;intro q w M)))
     go_roundw
     case rel=>exact⟨j+1,by omega,by go_num,M,HV2⟩
     case measure=>simp[intOf];omega
   ·go_wp2_with (first|(with_reducible refine wq M ?_)|(go_at_call 29;with_reducible refine(HTN.out _ M.new).mono ?_;rintro e w5 ⟨rfl,hb5⟩;replace M:=M.below hb5;clear hb5)|(go_at_call 14;refine(in_any _ _ _ _).mono ?_;rintro e w4 ⟨rfl,rfl⟩;(try rw[hx]);(try rw[in_w1]))|(go_at_call 83;with_reducible refine(HNC.out _ M.new).mono ?_;rintro e w5 ⟨rfl,hb5⟩;replace M:=M.below hb5;clear hb5))
    (refine wp_region_any (by kernel_rfl) ?_;(try(change wpAny _ _ _ _ _ _ _ (World.drew _)));replace M:=M.drew;generalize World.drew _=w at M ⊢;have S:=St.o;((refine tk 0 (v:=?_) rfl (by kernel_rfl) rfl ?_ ?_;rotate_left;focus(intro w;go_simp;try with_reducible rfl));(try go_simp);(refine tk 1 (v:=?_) rfl (by kernel_rfl) rfl ?_ ?_;rotate_left;focus(intro w;go_simp;try with_reducible rfl));(try go_simp);(refine tk 2 (v:=?_) rfl (by kernel_rfl) rfl ?_ ?_;rotate_left;focus(intro w;go_simp;try with_reducible rfl));(try go_simp);(refine tk 3 (v:=?_) rfl (by kernel_rfl) rfl ?_ ?_;rotate_left;focus(intro w;go_simp;try with_reducible rfl));(try go_simp);(refine tk 4 (v:=?_) rfl (by kernel_rfl) rfl ?_ ?_;rotate_left;focus(intro w;go_simp;try with_reducible rfl));(try go_simp);(refine tk 6 (v:=?_) rfl (by kernel_rfl) rfl ?_ ?_;rotate_left;focus(intro w;go_simp;try with_reducible rfl));(try go_simp);replace S:=S.add 95;refine rd2 5 7 (by kernel_rfl) rfl rfl ?_ rfl rfl ?_<;>intro K hK);all_goals(first|(refine o_dst (some 104) ?_;(refine q_at (HT0.out _ M.new) (by rfl) ?_);(all_goals(refine hK _ _ ?_;clear hK K;replace S:=S.add 32)))|(refine o_dst (some 106) ?_;(refine q_prt M (by rfl) ?_);(all_goals(refine hK _ _ ?_;clear hK K;replace S:=S.add 128))));all_goals(first|(replace S:St 127:=S;refine rd1 7 (by kernel_rfl) rfl rfl ?_<;>intro K hK)|(replace S:St 223:=S;refine rd1 5 (by kernel_rfl) rfl rfl ?_<;>intro K hK));all_goals(first|(refine o_dst (some 106) ?_;(refine q_prt M (by rfl) ?_);(all_goals(refine hK _ _ ?_;clear hK K;replace S:=S.add 128)))|(refine o_dst (some 104) ?_;(refine q_at (HT0.out _ M.new) (by rfl) ?_);(all_goals(refine hK _ _ ?_;clear hK K;replace S:=S.add 32))));all_goals(refine rd1 8 (by kernel_rfl) rfl rfl ?_<;>intro K hK);all_goals(refine o_dst (some 107) ?_;(refine owp_of ?_;go_simp;(go_at_call 84;with_reducible refine(HC.out _ M.new).mono ?_;rintro e w5 ⟨kk,rfl,hb5, -⟩;replace M:=M.below hb5;clear hb5);(try go_simp));(all_goals(refine hK _ _ ?_;clear hK K;replace S:=S.add 256)));all_goals(clear S;((refine tk 9 (v:=?_) rfl (by kernel_rfl) rfl ?_ ?_;rotate_left;focus(intro w;go_simp;try with_reducible rfl));(try go_simp);(refine tk 10 (v:=?_) rfl (by kernel_rfl) rfl ?_ ?_;rotate_left;focus(intro w;go_simp;try with_reducible rfl));(try go_simp);(refine tk 11 (v:=?_) rfl (by kernel_rfl) rfl ?_ ?_;rotate_left;focus(intro w;go_simp;try with_reducible rfl));(try go_simp);(refine tk 12 (v:=?_) rfl (by kernel_rfl) rfl ?_ ?_;rotate_left;focus(intro w;go_simp;try with_reducible rfl));(try go_simp);refine wpAny_done (by kernel_rfl) ?_ _)))
    all_goals go_wp2
    all_goals go_ret
    all_goals exact⟨rfl,M.new⟩
 ·clear hp
  go_enter Tryz.func53,Tryz.ntmps53
  go_wp2_with (first|(with_reducible (first|(refine wB (L:=[]) M ?_;clear M;intro za w1 M)|refine wq M ?_))|(go_at_call 52;with_reducible refine(HFN.out _ M.new).mono ?_;rintro e w5 ⟨rfl,hb5⟩;replace M:=M.below hb5;clear hb5))
  go_loopw [12] (fun i wr=> ∃ j:Nat,j≤an∧i= .int .i64 j∧Mem (StaysB g w0) g w0 wr ⟨0,0⟩ (own za [.string p.var,.string p.type,.int .i64 p.wher.kind,.slice so sn scap,.int .i64 p.wher.left.kind,.int .i64 p.wher.left.vkind,.int .i64 p.wher.left.vint,.string p.wher.left.vtext,.string p.wher.left.var,.string p.wher.left.field,.int .i64 p.wher.right.kind,.int .i64 p.wher.right.vkind,.int .i64 p.wher.right.vint,.string p.wher.right.vtext,.string p.wher.right.var,.string p.wher.right.field,.int .i64 2,.int .i64 pn] 61::[])∧Hid (NoB ahead (fun x=>sameS x p.var) j)) (fun i _=>an - (intOf i).toNat)
  case atStart=>exact⟨0,by omega,rfl,M,noB_zero _ _⟩
  case round=>
   clear M
   obtain⟨j,hj,rfl,M,HB⟩:=hrel
   by_cases hlt:j<an
   ·have hkl:j<ahead.length:=by have:=NA.out;omega
    obtain⟨ca,oa,rowa,hixa, -,hrra,hwa⟩:=SlF.rowAt (P:=Tryz.prog) HAA.out wordF_firm Tryz.underlying84 size_str (i:=j) hkl
    have e1:rowa=[.string ahead[j]]:=hrra
    subst e1
    have HA0:Hid (∀ wx,Below w0.heap.size w0 wx→wx.cell? ⟨ca,oa,none⟩=some (.string ahead[j])):=fun wx hb=>(hwa wx hb).1 0 _ rfl
    have HP:Hid (∀ b,sameS ahead[j] p.var=b→(ahead[j].toList==p.var.toList)=b):=fun b h=>h
    have HT:Hid (sameS ahead[j] p.var=false→NoB ahead (fun x=>sameS x p.var) (j+1)):=fun h=>noB_succ HB.out hkl h
    have HN:Hid (sameS ahead[j] p.var=true→inS ahead p.var=true):=fun h=>List.any_eq_true.2 ⟨_,List.getElem_mem hkl,h⟩
    clear hwa hrra HB
    generalize ahead[j]=x at HA0 HP HT HN
    cases hsm:sameS x p.var with
    |true=>
     rw[HN.out hsm]at hin;cases hin
    |false=>
     have hq:=HP.out _ hsm
     have HV2:=Lib.hid (HT.out hsm)
     clear HP HT HN hsm
     go_wp2_with (with_reducible (first|refine wq M ?_|(refine wS M ?_;clear M;intro w M)|(refine wV M ?_;clear M;intro z w M)|(refine wR M ?_;clear M;intro q w M)))
     ((refine wp_region_still_lit (by kernel_rfl) (by kernel_rfl) ?_);(change wpStill _ _ (World.drew _) _ _ _);replace M:=M.drew;(repeat(first|((with_reducible refine s_list rfl fun K hK=>?_);refine s_load ?_;(first|(refine q_cellat (HA0.out _ M.new) ?_)|refine q_get M (by exact rfl) ?_);refine⟨rfl,hK _ ?_⟩;clear hK K)|((with_reducible refine s_list rfl fun K hK=>?_);refine s_pure ?_;go_simp;refine hK _ ?_;clear hK K)));(refine wpStill_nil ?_))
     go_wp2_with (with_reducible (first|refine wq M ?_|(refine wS M ?_;clear M;intro w M)|(refine wV M ?_;clear M;intro z w M)|(refine wR M ?_;clear M;intro q w M)))
     go_roundw
     case rel=>exact⟨j+1,by omega,by go_num,M,HV2⟩
     case measure=>simp[intOf];omega
   ·go_wp2_with (first|(with_reducible refine wq M ?_)|(go_at_call 29;with_reducible refine(HTN.out _ M.new).mono ?_;rintro e w5 ⟨rfl,hb5⟩;replace M:=M.below hb5;clear hb5)|(go_at_call 14;refine(in_any _ _ _ _).mono ?_;rintro e w4 ⟨rfl,rfl⟩;(try rw[hx]);(try rw[in_w2]))|(go_at_call 83;with_reducible refine(HNC.out _ M.new).mono ?_;rintro e w5 ⟨rfl,hb5⟩;replace M:=M.below hb5;clear hb5))
    (refine wp_region_any (by kernel_rfl) ?_;(try(change wpAny _ _ _ _ _ _ _ (World.drew _)));replace M:=M.drew;generalize World.drew _=w at M ⊢;have S:=St.o;((refine tk 0 (v:=?_) rfl (by kernel_rfl) rfl ?_ ?_;rotate_left;focus(intro w;go_simp;try with_reducible rfl));(try go_simp);(refine tk 1 (v:=?_) rfl (by kernel_rfl) rfl ?_ ?_;rotate_left;focus(intro w;go_simp;try with_reducible rfl));(try go_simp);(refine tk 2 (v:=?_) rfl (by kernel_rfl) rfl ?_ ?_;rotate_left;focus(intro w;go_simp;try with_reducible rfl));(try go_simp);(refine tk 3 (v:=?_) rfl (by kernel_rfl) rfl ?_ ?_;rotate_left;focus(intro w;go_simp;try with_reducible rfl));(try go_simp);(refine tk 4 (v:=?_) rfl (by kernel_rfl) rfl ?_ ?_;rotate_left;focus(intro w;go_simp;try with_reducible rfl));(try go_simp);(refine tk 6 (v:=?_) rfl (by kernel_rfl) rfl ?_ ?_;rotate_left;focus(intro w;go_simp;try with_reducible rfl));(try go_simp);replace S:=S.add 95;refine rd2 5 7 (by kernel_rfl) rfl rfl ?_ rfl rfl ?_<;>intro K hK);all_goals(first|(refine o_dst (some 104) ?_;(refine q_at (HT0.out _ M.new) (by rfl) ?_);(all_goals(refine hK _ _ ?_;clear hK K;replace S:=S.add 32)))|(refine o_dst (some 106) ?_;(refine q_prt M (by rfl) ?_);(all_goals(refine hK _ _ ?_;clear hK K;replace S:=S.add 128))));all_goals(first|(replace S:St 127:=S;refine rd1 7 (by kernel_rfl) rfl rfl ?_<;>intro K hK)|(replace S:St 223:=S;refine rd1 5 (by kernel_rfl) rfl rfl ?_<;>intro K hK));all_goals(first|(refine o_dst (some 106) ?_;(refine q_prt M (by rfl) ?_);(all_goals(refine hK _ _ ?_;clear hK K;replace S:=S.add 128)))|(refine o_dst (some 104) ?_;(refine q_at (HT0.out _ M.new) (by rfl) ?_);(all_goals(refine hK _ _ ?_;clear hK K;replace S:=S.add 32))));all_goals(refine rd1 8 (by kernel_rfl) rfl rfl ?_<;>intro K hK);all_goals(refine o_dst (some 107) ?_;(refine owp_of ?_;go_simp;(go_at_call 84;with_reducible refine(HC.out _ M.new).mono ?_;rintro e w5 ⟨kk,rfl,hb5, -⟩;replace M:=M.below hb5;clear hb5);(try go_simp));(all_goals(refine hK _ _ ?_;clear hK K;replace S:=S.add 256)));all_goals(clear S;((refine tk 9 (v:=?_) rfl (by kernel_rfl) rfl ?_ ?_;rotate_left;focus(intro w;go_simp;try with_reducible rfl));(try go_simp);(refine tk 10 (v:=?_) rfl (by kernel_rfl) rfl ?_ ?_;rotate_left;focus(intro w;go_simp;try with_reducible rfl));(try go_simp);(refine tk 11 (v:=?_) rfl (by kernel_rfl) rfl ?_ ?_;rotate_left;focus(intro w;go_simp;try with_reducible rfl));(try go_simp);(refine tk 12 (v:=?_) rfl (by kernel_rfl) rfl ?_ ?_;rotate_left;focus(intro w;go_simp;try with_reducible rfl));(try go_simp);refine wpAny_done (by kernel_rfl) ?_ _)))
    all_goals go_wp2
    all_goals go_ret
    all_goals exact⟨rfl,M.new⟩
 ·clear hp
  go_enter Tryz.func53,Tryz.ntmps53
  go_wp2_with (first|(with_reducible (first|(refine wB (L:=[]) M ?_;clear M;intro za w1 M)|refine wq M ?_))|(go_at_call 52;with_reducible refine(HFN.out _ M.new).mono ?_;rintro e w5 ⟨rfl,hb5⟩;replace M:=M.below hb5;clear hb5))
  go_loopw [12] (fun i wr=> ∃ j:Nat,j≤an∧i= .int .i64 j∧Mem (StaysB g w0) g w0 wr ⟨0,0⟩ (own za [.string p.var,.string p.type,.int .i64 p.wher.kind,.slice so sn scap,.int .i64 p.wher.left.kind,.int .i64 p.wher.left.vkind,.int .i64 p.wher.left.vint,.string p.wher.left.vtext,.string p.wher.left.var,.string p.wher.left.field,.int .i64 p.wher.right.kind,.int .i64 p.wher.right.vkind,.int .i64 p.wher.right.vint,.string p.wher.right.vtext,.string p.wher.right.var,.string p.wher.right.field,.int .i64 0,.int .i64 0] 61::[])∧Hid (NoB ahead (fun x=>sameS x p.var) j)) (fun i _=>an - (intOf i).toNat)
  case atStart=>exact⟨0,by omega,rfl,M,noB_zero _ _⟩
  case round=>
   clear M
   obtain⟨j,hj,rfl,M,HB⟩:=hrel
   by_cases hlt:j<an
   ·have hkl:j<ahead.length:=by have:=NA.out;omega
    obtain⟨ca,oa,rowa,hixa, -,hrra,hwa⟩:=SlF.rowAt (P:=Tryz.prog) HAA.out wordF_firm Tryz.underlying84 size_str (i:=j) hkl
    have e1:rowa=[.string ahead[j]]:=hrra
    subst e1
    have HA0:Hid (∀ wx,Below w0.heap.size w0 wx→wx.cell? ⟨ca,oa,none⟩=some (.string ahead[j])):=fun wx hb=>(hwa wx hb).1 0 _ rfl
    have HP:Hid (∀ b,sameS ahead[j] p.var=b→(ahead[j].toList==p.var.toList)=b):=fun b h=>h
    have HT:Hid (sameS ahead[j] p.var=false→NoB ahead (fun x=>sameS x p.var) (j+1)):=fun h=>noB_succ HB.out hkl h
    have HN:Hid (sameS ahead[j] p.var=true→inS ahead p.var=true):=fun h=>List.any_eq_true.2 ⟨_,List.getElem_mem hkl,h⟩
    clear hwa hrra HB
    generalize ahead[j]=x at HA0 HP HT HN
    cases hsm:sameS x p.var with
    |true=>
     rw[HN.out hsm]at hin;cases hin
    |false=>
     have hq:=HP.out _ hsm
     have HV2:=Lib.hid (HT.out hsm)
     clear HP HT HN hsm
     go_wp2_with (with_reducible (first|refine wq M ?_|(refine wS M ?_;clear M;intro w M)|(refine wV M ?_;clear M;intro z w M)|(refine wR M ?_;clear M;intro q w M)))
     ((refine wp_region_still_lit (by kernel_rfl) (by kernel_rfl) ?_);(change wpStill _ _ (World.drew _) _ _ _);replace M:=M.drew;(repeat(first|((with_reducible refine s_list rfl fun K hK=>?_);refine s_load ?_;(first|(refine q_cellat (HA0.out _ M.new) ?_)|refine q_get M (by exact rfl) ?_);refine⟨rfl,hK _ ?_⟩;clear hK K)|((with_reducible refine s_list rfl fun K hK=>?_);refine s_pure ?_;go_simp;refine hK _ ?_;clear hK K)));(refine wpStill_nil ?_))
     go_wp2_with (with_reducible (first|refine wq M ?_|(refine wS M ?_;clear M;intro w M)|(refine wV M ?_;clear M;intro z w M)|(refine wR M ?_;clear M;intro q w M)))
     go_roundw
     case rel=>exact⟨j+1,by omega,by go_num,M,HV2⟩
     case measure=>simp[intOf];omega
   ·go_wp2_with (first|(with_reducible refine wq M ?_)|(go_at_call 29;with_reducible refine(HTN.out _ M.new).mono ?_;rintro e w5 ⟨rfl,hb5⟩;replace M:=M.below hb5;clear hb5)|(go_at_call 83;with_reducible refine(HNC.out _ M.new).mono ?_;rintro e w5 ⟨rfl,hb5⟩;replace M:=M.below hb5;clear hb5))
    (refine wp_region_any (by kernel_rfl) ?_;(try(change wpAny _ _ _ _ _ _ _ (World.drew _)));replace M:=M.drew;generalize World.drew _=w at M ⊢;have S:=St.o;((refine tk 0 (v:=?_) rfl (by kernel_rfl) rfl ?_ ?_;rotate_left;focus(intro w;go_simp;try with_reducible rfl));(try go_simp);(refine tk 1 (v:=?_) rfl (by kernel_rfl) rfl ?_ ?_;rotate_left;focus(intro w;go_simp;try with_reducible rfl));(try go_simp);(refine tk 2 (v:=?_) rfl (by kernel_rfl) rfl ?_ ?_;rotate_left;focus(intro w;go_simp;try with_reducible rfl));(try go_simp);(refine tk 3 (v:=?_) rfl (by kernel_rfl) rfl ?_ ?_;rotate_left;focus(intro w;go_simp;try with_reducible rfl));(try go_simp);(refine tk 4 (v:=?_) rfl (by kernel_rfl) rfl ?_ ?_;rotate_left;focus(intro w;go_simp;try with_reducible rfl));(try go_simp);(refine tk 6 (v:=?_) rfl (by kernel_rfl) rfl ?_ ?_;rotate_left;focus(intro w;go_simp;try with_reducible rfl));(try go_simp);replace S:=S.add 95;refine rd2 5 7 (by kernel_rfl) rfl rfl ?_ rfl rfl ?_<;>intro K hK);all_goals(first|(refine o_dst (some 104) ?_;(refine q_at (HT0.out _ M.new) (by rfl) ?_);(all_goals(refine hK _ _ ?_;clear hK K;replace S:=S.add 32)))|(refine o_dst (some 106) ?_;(refine q_prt M (by rfl) ?_);(all_goals(refine hK _ _ ?_;clear hK K;replace S:=S.add 128))));all_goals(first|(replace S:St 127:=S;refine rd1 7 (by kernel_rfl) rfl rfl ?_<;>intro K hK)|(replace S:St 223:=S;refine rd1 5 (by kernel_rfl) rfl rfl ?_<;>intro K hK));all_goals(first|(refine o_dst (some 106) ?_;(refine q_prt M (by rfl) ?_);(all_goals(refine hK _ _ ?_;clear hK K;replace S:=S.add 128)))|(refine o_dst (some 104) ?_;(refine q_at (HT0.out _ M.new) (by rfl) ?_);(all_goals(refine hK _ _ ?_;clear hK K;replace S:=S.add 32))));all_goals(refine rd1 8 (by kernel_rfl) rfl rfl ?_<;>intro K hK);all_goals(refine o_dst (some 107) ?_;(refine owp_of ?_;go_simp;(go_at_call 84;with_reducible refine(HC.out _ M.new).mono ?_;rintro e w5 ⟨kk,rfl,hb5, -⟩;replace M:=M.below hb5;clear hb5);(try go_simp));(all_goals(refine hK _ _ ?_;clear hK K;replace S:=S.add 256)));all_goals(clear S;((refine tk 9 (v:=?_) rfl (by kernel_rfl) rfl ?_ ?_;rotate_left;focus(intro w;go_simp;try with_reducible rfl));(try go_simp);(refine tk 10 (v:=?_) rfl (by kernel_rfl) rfl ?_ ?_;rotate_left;focus(intro w;go_simp;try with_reducible rfl));(try go_simp);(refine tk 11 (v:=?_) rfl (by kernel_rfl) rfl ?_ ?_;rotate_left;focus(intro w;go_simp;try with_reducible rfl));(try go_simp);(refine tk 12 (v:=?_) rfl (by kernel_rfl) rfl ?_ ?_;rotate_left;focus(intro w;go_simp;try with_reducible rfl));(try go_simp);refine wpAny_done (by kernel_rfl) ?_ _)))
    all_goals go_wp2
    all_goals go_ret
    all_goals exact⟨rfl,M.new⟩
 ·clear hp
  go_enter Tryz.func53,Tryz.ntmps53
  go_wp2_with (first|(with_reducible (first|(refine wB (L:=[]) M ?_;clear M;intro za w1 M)|refine wq M ?_))|(go_at_call 52;with_reducible refine(HFN.out _ M.new).mono ?_;rintro e w5 ⟨rfl,hb5⟩;replace M:=M.below hb5;clear hb5))
  go_loopw [12] (fun i wr=> ∃ j:Nat,j≤an∧i= .int .i64 j∧Mem (StaysB g w0) g w0 wr ⟨0,0⟩ (own za [.string p.var,.string p.type,.int .i64 p.wher.kind,.slice so sn scap,.int .i64 p.wher.left.kind,.int .i64 p.wher.left.vkind,.int .i64 p.wher.left.vint,.string p.wher.left.vtext,.string p.wher.left.var,.string p.wher.left.field,.int .i64 p.wher.right.kind,.int .i64 p.wher.right.vkind,.int .i64 p.wher.right.vint,.string p.wher.right.vtext,.string p.wher.right.var,.string p.wher.right.field,.int .i64 1,.int .i64 pn] 61::[])∧Hid (NoB ahead (fun x=>sameS x p.var) j)) (fun i _=>an - (intOf i).toNat)
  case atStart=>exact⟨0,by omega,rfl,M,noB_zero _ _⟩
  case round=>
   clear M
   obtain⟨j,hj,rfl,M,HB⟩:=hrel
   by_cases hlt:j<an
   ·have hkl:j<ahead.length:=by have:=NA.out;omega
    obtain⟨ca,oa,rowa,hixa, -,hrra,hwa⟩:=SlF.rowAt (P:=Tryz.prog) HAA.out wordF_firm Tryz.underlying84 size_str (i:=j) hkl
    have e1:rowa=[.string ahead[j]]:=hrra
    subst e1
    have HA0:Hid (∀ wx,Below w0.heap.size w0 wx→wx.cell? ⟨ca,oa,none⟩=some (.string ahead[j])):=fun wx hb=>(hwa wx hb).1 0 _ rfl
    have HP:Hid (∀ b,sameS ahead[j] p.var=b→(ahead[j].toList==p.var.toList)=b):=fun b h=>h
    have HT:Hid (sameS ahead[j] p.var=false→NoB ahead (fun x=>sameS x p.var) (j+1)):=fun h=>noB_succ HB.out hkl h
    have HN:Hid (sameS ahead[j] p.var=true→inS ahead p.var=true):=fun h=>List.any_eq_true.2 ⟨_,List.getElem_mem hkl,h⟩
    clear hwa hrra HB
    generalize ahead[j]=x at HA0 HP HT HN
    cases hsm:sameS x p.var with
    |true=>
     rw[HN.out hsm]at hin;cases hin
    |false=>
     have hq:=HP.out _ hsm
     have HV2:=Lib.hid (HT.out hsm)
     clear HP HT HN hsm
     go_wp2_with (with_reducible (first|refine wq M ?_|(refine wS M ?_;clear M;intro w M)|(refine wV M ?_;clear M;intro z w M)|(refine wR M ?_;clear M;intro q w M)))
     ((refine wp_region_still_lit (by kernel_rfl) (by kernel_rfl) ?_);(change wpStill _ _ (World.drew _) _ _ _);replace M:=M.drew;(repeat(first|((with_reducible refine s_list rfl fun K hK=>?_);refine s_load ?_;(first|(refine q_cellat (HA0.out _ M.new) ?_)|refine q_get M (by exact rfl) ?_);refine⟨rfl,hK _ ?_⟩;clear hK K)|((with_reducible refine s_list rfl fun K hK=>?_);refine s_pure ?_;go_simp;refine hK _ ?_;clear hK K)));(refine wpStill_nil ?_))
     go_wp2_with (with_reducible (first|refine wq M ?_|(refine wS M ?_;clear M;intro w M)|(refine wV M ?_;clear M;intro z w M)|(refine wR M ?_;clear M;intro q w M)))
     go_roundw
     case rel=>exact⟨j+1,by omega,by go_num,M,HV2⟩
     case measure=>simp[intOf];omega
   ·go_wp2_with (first|(with_reducible refine wq M ?_)|(go_at_call 29;with_reducible refine(HTN.out _ M.new).mono ?_;rintro e w5 ⟨rfl,hb5⟩;replace M:=M.below hb5;clear hb5)|(go_at_call 14;refine(in_any _ _ _ _).mono ?_;rintro e w4 ⟨rfl,rfl⟩;(try rw[hx]))|(go_at_call 83;with_reducible refine(HNC.out _ M.new).mono ?_;rintro e w5 ⟨rfl,hb5⟩;replace M:=M.below hb5;clear hb5))
    (refine wp_region_any (by kernel_rfl) ?_;(try(change wpAny _ _ _ _ _ _ _ (World.drew _)));replace M:=M.drew;generalize World.drew _=w at M ⊢;have S:=St.o;((refine tk 0 (v:=?_) rfl (by kernel_rfl) rfl ?_ ?_;rotate_left;focus(intro w;go_simp;try with_reducible rfl));(try go_simp);(refine tk 1 (v:=?_) rfl (by kernel_rfl) rfl ?_ ?_;rotate_left;focus(intro w;go_simp;try with_reducible rfl));(try go_simp);(refine tk 2 (v:=?_) rfl (by kernel_rfl) rfl ?_ ?_;rotate_left;focus(intro w;go_simp;try with_reducible rfl));(try go_simp);(refine tk 3 (v:=?_) rfl (by kernel_rfl) rfl ?_ ?_;rotate_left;focus(intro w;go_simp;try with_reducible rfl));(try go_simp);(refine tk 4 (v:=?_) rfl (by kernel_rfl) rfl ?_ ?_;rotate_left;focus(intro w;go_simp;try with_reducible rfl));(try go_simp);(refine tk 6 (v:=?_) rfl (by kernel_rfl) rfl ?_ ?_;rotate_left;focus(intro w;go_simp;try with_reducible rfl));(try go_simp);replace S:=S.add 95;refine rd2 5 7 (by kernel_rfl) rfl rfl ?_ rfl rfl ?_<;>intro K hK);all_goals(first|(refine o_dst (some 104) ?_;(refine q_at (HT0.out _ M.new) (by rfl) ?_);(all_goals(refine hK _ _ ?_;clear hK K;replace S:=S.add 32)))|(refine o_dst (some 106) ?_;(refine q_prt M (by rfl) ?_);(all_goals(refine hK _ _ ?_;clear hK K;replace S:=S.add 128))));all_goals(first|(replace S:St 127:=S;refine rd1 7 (by kernel_rfl) rfl rfl ?_<;>intro K hK)|(replace S:St 223:=S;refine rd1 5 (by kernel_rfl) rfl rfl ?_<;>intro K hK));all_goals(first|(refine o_dst (some 106) ?_;(refine q_prt M (by rfl) ?_);(all_goals(refine hK _ _ ?_;clear hK K;replace S:=S.add 128)))|(refine o_dst (some 104) ?_;(refine q_at (HT0.out _ M.new) (by rfl) ?_);(all_goals(refine hK _ _ ?_;clear hK K;replace S:=S.add 32))));all_goals(refine rd1 8 (by kernel_rfl) rfl rfl ?_<;>intro K hK);all_goals(refine o_dst (some 107) ?_;(refine owp_of ?_;go_simp;(go_at_call 84;with_reducible refine(HC.out _ M.new).mono ?_;rintro e w5 ⟨kk,rfl,hb5, -⟩;replace M:=M.below hb5;clear hb5);(try go_simp));(all_goals(refine hK _ _ ?_;clear hK K;replace S:=S.add 256)));all_goals(clear S;((refine tk 9 (v:=?_) rfl (by kernel_rfl) rfl ?_ ?_;rotate_left;focus(intro w;go_simp;try with_reducible rfl));(try go_simp);(refine tk 10 (v:=?_) rfl (by kernel_rfl) rfl ?_ ?_;rotate_left;focus(intro w;go_simp;try with_reducible rfl));(try go_simp);(refine tk 11 (v:=?_) rfl (by kernel_rfl) rfl ?_ ?_;rotate_left;focus(intro w;go_simp;try with_reducible rfl));(try go_simp);(refine tk 12 (v:=?_) rfl (by kernel_rfl) rfl ?_ ?_;rotate_left;focus(intro w;go_simp;try with_reducible rfl));(try go_simp);refine wpAny_done (by kernel_rfl) ?_ _)))
    all_goals go_wp2
    all_goals go_ret
    all_goals exact⟨rfl,M.new⟩
theorem patternFault_any(hg:g<w0.heap.size)(hX:SlF F w0 2 typF ao n cap ts)(hts: ∀ t∈ts,typOk t)(hY:SlF G w0 18 patF bo m bcap known)(hkn: ∀ p∈known,typI ts p.type<ts.length)(hA:SlF H w0 1 wordF lo an acap ahead)(p:Pat)(hS:SlF S w0 14 CondF so sn scap p.wher.subs)(hv:p.var.size≤maxLen)(hok:CondOk p.wher)(part:Nat)(hp:part≤2):
  Calls Tryz.prog 53 #[.slice ao n cap,.slice bo m bcap,.slice lo an acap,.agg (pat18 p so sn scap).toArray,.int .i64 part] w0 fun e w' =>e= .returned (.int .i64 (patE ts known ahead p part))∧Below w0.heap.size w0 w' :=by
 by_cases h0:freeE p.var=0
 ·cases hin:inS ahead p.var with
  |true=>exact patFault_twice hg hX hts hY hkn hA p hS hv hok part hp h0 hin
  |false=>
   by_cases ht:typI ts p.type<ts.length
   ·by_cases hw:winE part p=0
    ·cases hn:noC p.wher with
     |true=>exact patFault_bare hg hX hts hY hkn hA p hS hv hok part hp h0 hin ht hw hn
     |false=>exact patFault_cond hg hX hts hY hkn hA p hS hv hok part hp h0 hin ht hw hn
    ·exact patFault_win hg hX hts hY hkn hA p hS hv hok part hp h0 hin ht hw
   ·exact patFault_none hg hX hts hY hkn hA p hS hv hok part hp h0 hin (by omega)
 ·exact patFault_name hg hX hts hY hkn hA p hS hv hok part hp h0
end
end Go.Proofs.YtncmghnhfipklaaGreatDoor
