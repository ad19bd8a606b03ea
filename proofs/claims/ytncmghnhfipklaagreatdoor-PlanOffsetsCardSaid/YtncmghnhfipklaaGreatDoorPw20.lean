/-
  The walks of the reference's BookFault, seventh part: patterns. Printed by chkf.py.
-/
import Derived.Test.YtncmghnhfipklaaGreatDoorPw13
namespace Go.Proofs.YtncmghnhfipklaaGreatDoor
open Go.RowKit
set_option linter.unusedVariables false
set_option linter.unusedSimpArgs false
theorem in_w0:inB 0 0 2=true:=rfl
theorem in_w1:inB 1 0 2=true:=rfl
theorem in_w2:inB 2 0 2=true:=rfl
theorem win_cases{part:Nat}{p:Pat}(hp:part≤2)(hw:winE part p≠0):
  (part=0∧p.window=0∧(p.n !=0)=true∧winE part p=4)∨(part=0∧p.window=1∧inB p.n 0 1073741824=false∧winE part p=2)∨(part=0∧p.window=2∧inB p.n 1 120=false∧winE part p=2)∨(part=0∧inB p.window 0 2=false∧winE part p=4)∨
  (part=1∧(p.window !=0)=true∧winE part p=4)∨(part=1∧p.window=0∧(p.n !=0)=true∧winE part p=4)∨(part=2∧(p.window !=1)=true∧winE part p=4)∨(part=2∧p.window=1∧inB p.n 0 1073741824=false∧winE part p=2):=by
 simp only[inB_false,bne_iff_ne,ne_eq]
 have w4: ∀ h:((part=0∧ ¬ (0≤p.window∧p.window≤2))∨(part=1∧p.window≠0)∨(part=2∧p.window≠1)∨(p.window=0∧p.n≠0)),winE part p=4:=fun h=>by unfold winE;rw[if_pos h]
 have w2: ∀ (h: ¬ ((part=0∧ ¬ (0≤p.window∧p.window≤2))∨(part=1∧p.window≠0)∨(part=2∧p.window≠1)∨(p.window=0∧p.n≠0))) (h2:(p.window=1∧ ¬ (0≤p.n∧p.n≤1073741824))∨(p.window=2∧ ¬ (1≤p.n∧p.n≤120))),winE part p=2:=fun h h2=>by unfold winE;rw[if_neg h,if_pos h2]
 have w0: ∀ (h: ¬ ((part=0∧ ¬ (0≤p.window∧p.window≤2))∨(part=1∧p.window≠0)∨(part=2∧p.window≠1)∨(p.window=0∧p.n≠0))) (h2: ¬ ((p.window=1∧ ¬ (0≤p.n∧p.n≤1073741824))∨(p.window=2∧ ¬ (1≤p.n∧p.n≤120)))),winE part p=0:=fun h h2=>by unfold winE;rw[if_neg h,if_neg h2]
 rcases(by omega:part=0∨part=1∨part=2)with h1|h1|h1
 ·by_cases a:p.window=0
  ·have hn:p.n≠0:=fun h=>hw (w0 (by omega) (by omega))
   exact .inl ⟨h1,a,hn,w4 (by omega)⟩
  ·by_cases a1:p.window=1
   ·have hn: ¬ (0≤p.n∧p.n≤1073741824):=fun h=>hw (w0 (by omega) (by omega))
    exact .inr (.inl ⟨h1,a1,hn,w2 (by omega) (.inl ⟨a1,hn⟩)⟩)
   ·by_cases a2:p.window=2
    ·have hn: ¬ (1≤p.n∧p.n≤120):=fun h=>hw (w0 (by omega) (by omega))
     exact .inr (.inr (.inl ⟨h1,a2,hn,w2 (by omega) (.inr ⟨a2,hn⟩)⟩))
    ·have hn: ¬ (0≤p.window∧p.window≤2):=by omega
     exact .inr (.inr (.inr (.inl ⟨h1,hn,w4 (.inl ⟨h1,hn⟩)⟩)))
 ·by_cases a:p.window=0
  ·have hn:p.n≠0:=fun h=>hw (w0 (by omega) (by omega))
   exact .inr (.inr (.inr (.inr (.inr (.inl ⟨h1,a,hn,w4 (by omega)⟩)))))
  ·exact .inr (.inr (.inr (.inr (.inl ⟨h1,a,w4 (by omega)⟩))))
 ·by_cases a:p.window=1
  ·have hn: ¬ (0≤p.n∧p.n≤1073741824):=fun h=>hw (w0 (by omega) (by omega))
   exact .inr (.inr (.inr (.inr (.inr (.inr (.inr ⟨h1,a,hn,w2 (by omega) (.inl ⟨a,hn⟩)⟩))))))
  ·exact .inr (.inr (.inr (.inr (.inr (.inr (.inl ⟨h1,a,w4 (by omega)⟩))))))
section
variable {g:Nat} {F G H S:Nat→Prop} {ao:Option Addr} {n cap:Nat} {bo:Option Addr} {m bcap:Nat} {lo:Option Addr} {an acap:Nat} {so:Option Addr} {sn scap:Nat} {w0:World} {ts:List Typ} {known:List Pat} {ahead:List ByteArray}
set_option maxRecDepth 8000 in
set_option maxHeartbeats 8000000 in
theorem patFault_win(hg:g<w0.heap.size)(hX:SlF F w0 2 typF ao n cap ts)(hts: ∀ t∈ts,typOk t)(hY:SlF G w0 18 patF bo m bcap known)(hkn: ∀ p∈known,typI ts p.type<ts.length)(hA:SlF H w0 1 wordF lo an acap ahead)(p:Pat)(hS:SlF S w0 14 CondF so sn scap p.wher.subs)(hv:p.var.size≤maxLen)(hok:CondOk p.wher)(part:Nat)(hp:part≤2)(h0:freeE p.var=0)(hin:inS ahead p.var=false)(ht:typI ts p.type<ts.length)(hw:winE part p≠0):
  Calls Tryz.prog 53 #[.slice ao n cap,.slice bo m bcap,.slice lo an acap,.agg (pat18 p so sn scap).toArray,.int .i64 part] w0 fun e w' =>e= .returned (.int .i64 (patE ts known ahead p part))∧Below w0.heap.size w0 w' :=by
 have M:=Mem.begin hg ⟨0,0⟩
 have hleA:=hA.le
 have NA:=Lib.hid hA.len
 have HAA:=Lib.hid hA
 have HFN:Hid (∀ wx,Below w0.heap.size w0 wx→Calls Tryz.prog 52 #[.string p.var] wx fun e w' =>e= .returned (.int .i64 (freeE p.var))∧Below wx.heap.size wx w'):=fun wx hbx=>freeName_any p.var wx hv
 have HTN:Hid (∀ wx,Below w0.heap.size w0 wx→Calls Tryz.prog 29 #[.slice ao n cap,.string p.type] wx fun e w' =>e= .returned (.int .i64 (placeV (typI ts p.type) ts.length))∧Below wx.heap.size wx w'):=fun wx hbx=>
  typeNamed_any (Nat.lt_of_lt_of_le hg hbx.size) (hX.below typF_firm hbx) p.type
 have HV:Hid (patE ts known ahead p part=winE part p):=by show _=_;unfold patE;rw[if_neg (by omega),hin,if_neg (by simp),if_neg (by omega),if_pos hw]
 rw[HV.out]
 rw[h0]at HFN
 have hpv:placeV (typI ts p.type) ts.length=(typI ts p.type:Nat):=by unfold placeV;rw[if_pos ht]
 rw[hpv]at HTN
 have htp:(0:Int)≤(typI ts p.type:Nat):=by omega
 generalize typI ts p.type=ti at HTN htp
 have hc:=win_cases hp hw
 generalize winE part p=v at hc ⊢
 unfold pat18
 clear hg hX hts hY hkn hA hS hv hok h0 HV ht hpv hw
 generalize p.window=pw at hc ⊢
 generalize p.n=pn at hc ⊢
 rcases hc with⟨rfl,rfl,hx,rfl⟩|⟨rfl,rfl,hx,rfl⟩|⟨rfl,rfl,hx,rfl⟩|⟨rfl,hx,rfl⟩|⟨rfl,hx,rfl⟩|⟨rfl,rfl,hx,rfl⟩|⟨rfl,hx,rfl⟩|⟨rfl,rfl,hx,rfl⟩
 ·clear hp
  go_enter Tryz.func53,Tryz.ntmps53
  go_wp2_with (first|(with_reducible (first|(refine wB (L:=[]) M ?_;clear M;intro za w1 M)|refine wq M ?_))|(go_at_call 52;with_reducible refine(HFN.out _ M.new).mono ?_;rintro e w5 ⟨rfl,hb5⟩;replace M:=M.below hb5;clear hb5))
  go_loopw [12] (fun i wr=> ∃ j:Nat,j≤an∧i= .int .i64 j∧Mem (StaysB g w0) g w0 wr ⟨0,0⟩ (own za [.string p.var,.string p.type,.int .i64 p.wher.kind,.slice so sn scap,.int .i64 p.wher.left.kind,.int .i64 p.wher.left.vkind,.int .i64 p.wher.left.vint,.string p.wher.left.vtext,.string p.wher.left.var,.string p.wher.left.field,.int .i64 p.wher.right.kind,.int .i64 p.wher.right.vkind,.int .i64 p.wher.right.vint,.string p.wher.right.vtext,.string p.wher.right.var,.string p.wher.right.field,.int .i64 0,.int .i64 pn] 61::[])∧Hid (NoB ahead (fun x=>sameS x p.var) j)) (fun i _=>an - (intOf i).toNat)
  case atStart=>exact⟨0,by omega,rfl,M,noB_zero _ _⟩
  case round=>
   clear M
   obtain⟨j,hj,rfl,M,HB⟩:=hrel
   by_cases hlt:j<an
   ·have hkl:j<ahead.length:=by have:=NA.out;omega
    obtain⟨ca,oa,rowa,hixa, -,hrra,hwa⟩:=SlF.rowAt (P:=Tryz.prog) HAA.out wordF_firm Tryz.underlying84 size_str (i:=j) hkl
    have e1:rowa=[.string ahead[j]]:=hrra
    subst e1
    have HA0:Hid (∀ wx,Below w0.heap.size w0 wx→wx.cell? ⟨ca,oa,none⟩=some (.string ahead[j])):=fun wx hb=>(hwa wx hb).1 0 _ rfl
    have HP:Hid (∀ b,sameS ahead[j] p.var=b→(ahead[j].toList==p.var.toList)=b):=fun b h=>h
    have HT:Hid (sameS ahead[j] p.var=false→NoB ahead (fun x=>sameS x p.var) (j+1)):=fun h=>noB_succ HB.out hkl h
    have HN:Hid (sameS ahead[j] p.var=true→inS ahead p.var=true):=fun h=>List.any_eq_true.2 ⟨_,List.getElem_mem hkl,h⟩
    clear hwa hrra HB
    generalize ahead[j]=x at HA0 HP HT HN
    cases hsm:sameS x p.var with
    |true=>
     rw[HN.out hsm]at hin;cases hin
    |false=>
     have hq:=HP.out _ hsm
     have HV2:=Lib.hid (HT.out hsm)
     clear HP HT HN hsm
     go_wp2_with (with_reducible (first|refine wq M ?_|(refine wS M ?_;clear M;intro w M)|(refine wV M ?_;clear M;intro z w M)|(refine wR M ?_;clear M;intro q w M)))
     ((refine wp_region_still_lit (by kernel_rfl) (by kernel_rfl) ?_);(change wpStill _ _ (World.drew _) _ _ _);replace M:=M.drew;(repeat(first|((with_reducible refine s_list rfl fun K hK=>?_);refine s_load ?_;(first|(refine q_cellat (HA0.out _ M.new) ?_)|refine q_get M (by exact rfl) ?_);refine⟨rfl,hK _ ?_⟩;clear hK K)|((with_reducible refine s_list rfl fun K hK=>?_);refine s_pure ?_;go_simp;refine hK _ ?_;clear hK K)));(refine wpStill_nil ?_))
     go_wp2_with (with_reducible (first|refine wq M ?_|(refine wS M ?_;clear M;intro w M)|(refine wV M ?_;clear M;intro z w M)|(refine wR M ?_;clear M;intro q w M)))
     go_roundw
     case rel=>exact⟨j+1,by omega,by go_num,M,HV2⟩
     case measure=>simp[intOf];omega
   ·go_wp2_with (first|(with_reducible refine wq M ?_)|(go_at_call 29;with_reducible refine(HTN.out _ M.new).mono ?_;rintro e w5 ⟨rfl,hb5⟩;replace M:=M.below hb5;clear hb5)|(go_at_call 14;refine(in_any _ _ _ _).mono ?_;rintro e w4 ⟨rfl,rfl⟩;(try rw[in_w0])))
    go_ret
    exact⟨rfl,M.new⟩
 ·clear hp
  go_enter Tryz.func53,Tryz.ntmps53
  go_wp2_with (first|(with_reducible (first|(refine wB (L:=[]) M ?_;clear M;intro za w1 M)|refine wq M ?_))|(go_at_call 52;with_reducible refine(HFN.out _ M.new).mono ?_;rintro e w5 ⟨rfl,hb5⟩;replace M:=M.below hb5;clear hb5))
  go_loopw [12] (fun i wr=> ∃ j:Nat,j≤an∧i= .int .i64 j∧Mem (StaysB g w0) g w0 wr ⟨0,0⟩ (own za [.string p.var,.string p.type,.int .i64 p.wher.kind,.slice so sn scap,.int .i64 p.wher.left.kind,.int .i64 p.wher.left.vkind,.int .i64 p.wher.left.vint,.string p.wher.left.vtext,.string p.wher.left.var,.string p.wher.left.field,.int .i64 p.wher.right.kind,.int .i64 p.wher.right.vkind,.int .i64 p.wher.right.vint,.string p.wher.right.vtext,.string p.wher.right.var,.string p.wher.right.field,.int .i64 1,.int .i64 pn] 61::[])∧Hid (NoB ahead (fun x=>sameS x p.var) j)) (fun i _=>an - (intOf i).toNat)
  case atStart=>exact⟨0,by omega,rfl,M,noB_zero _ _⟩
  case round=>
   clear M
   obtain⟨j,hj,rfl,M,HB⟩:=hrel
   by_cases hlt:j<an
   ·have hkl:j<ahead.length:=by have:=NA.out;omega
    obtain⟨ca,oa,rowa,hixa, -,hrra,hwa⟩:=SlF.rowAt (P:=Tryz.prog) HAA.out wordF_firm Tryz.underlying84 size_str (i:=j) hkl
    have e1:rowa=[.string ahead[j]]:=hrra
    subst e1
    have HA0:Hid (∀ wx,Below w0.heap.size w0 wx→wx.cell? ⟨ca,oa,none⟩=some (.string ahead[j])):=fun wx hb=>(hwa wx hb).1 0 _ rfl
    have HP:Hid (∀ b,sameS ahead[j] p.var=b→(ahead[j].toList==p.var.toList)=b):=fun b h=>h
    have HT:Hid (sameS ahead[j] p.var=false→NoB ahead (fun x=>sameS x p.var) (j+1)):=fun h=>noB_succ HB.out hkl h
    have HN:Hid (sameS ahead[j] p.var=true→inS ahead p.var=true):=fun h=>List.any_eq_true.2 ⟨_,List.getElem_mem hkl,h⟩
    clear hwa hrra HB
    generalize ahead[j]=x at HA0 HP HT HN
    cases hsm:sameS x p.var with
    |true=>
     rw[HN.out hsm]at hin;cases hin
    |false=>
     have hq:=HP.out _ hsm
     have HV2:=Lib.hid (HT.out hsm)
     clear HP HT HN hsm
     go_wp2_with (with_reducible (first|refine wq M ?_|(refine wS M ?_;clear M;intro w M)|(refine wV M ?_;clear M;intro z w M)|(refine wR M ?_;clear M;intro q w M)))
     ((refine wp_region_still_lit (by kernel_rfl) (by kernel_rfl) ?_);(change wpStill _ _ (World.drew _) _ _ _);replace M:=M.drew;(repeat(first|((with_reducible refine s_list rfl fun K hK=>?_);refine s_load ?_;(first|(refine q_cellat (HA0.out _ M.new) ?_)|refine q_get M (by exact rfl) ?_);refine⟨rfl,hK _ ?_⟩;clear hK K)|((with_reducible refine s_list rfl fun K hK=>?_);refine s_pure ?_;go_simp;refine hK _ ?_;clear hK K)));(refine wpStill_nil ?_))
     go_wp2_with (with_reducible (first|refine wq M ?_|(refine wS M ?_;clear M;intro w M)|(refine wV M ?_;clear M;intro z w M)|(refine wR M ?_;clear M;intro q w M)))
     go_roundw
     case rel=>exact⟨j+1,by omega,by go_num,M,HV2⟩
     case measure=>simp[intOf];omega
   ·go_wp2_with (first|(with_reducible refine wq M ?_)|(go_at_call 29;with_reducible refine(HTN.out _ M.new).mono ?_;rintro e w5 ⟨rfl,hb5⟩;replace M:=M.below hb5;clear hb5)|(go_at_call 14;refine(in_any _ _ _ _).mono ?_;rintro e w4 ⟨rfl,rfl⟩;(try rw[hx]);(try rw[in_w1])))
    go_ret
    exact⟨rfl,M.new⟩
 ·clear hp
  go_enter Tryz.func53,Tryz.ntmps53
  go_wp2_with (first|(with_reducible (first|(refine wB (L:=[]) M ?_;clear M;intro za w1 M)|refine wq M ?_))|(go_at_call 52;with_reducible refine(HFN.out _ M.new).mono ?_;rintro e w5 ⟨rfl,hb5⟩;replace M:=M.below hb5;clear hb5))
  go_loopw [12] (fun i wr=> ∃ j:Nat,j≤an∧i= .int .i64 j∧Mem (StaysB g w0) g w0 wr ⟨0,0⟩ (own za [.string p.var,.string p.type,.int .i64 p.wher.kind,.slice so sn scap,.int .i64 p.wher.left.kind,.int .i64 p.wher.left.vkind,.int .i64 p.wher.left.vint,.string p.wher.left.vtext,.string p.wher.left.var,.string p.wher.left.field,.int .i64 p.wher.right.kind,.int .i64 p.wher.right.vkind,.int .i64 p.wher.right.vint,.string p.wher.right.vtext,.string p.wher.right.var,.string p.wher.right.field,.int .i64 2,.int .i64 pn] 61::[])∧Hid (NoB ahead (fun x=>sameS x p.var) j)) (fun i _=>an - (intOf i).toNat)
  case atStart=>exact⟨0,by omega,rfl,M,noB_zero _ _⟩
  case round=>
   clear M
   obtain⟨j,hj,rfl,M,HB⟩:=hrel
   by_cases hlt:j<an
   ·have hkl:j<ahead.length:=by have:=NA.out;omega
    obtain⟨ca,oa,rowa,hixa, -,hrra,hwa⟩:=SlF.rowAt (P:=Tryz.prog) HAA.out wordF_firm Tryz.underlying84 size_str (i:=j) hkl
    have e1:rowa=[.string ahead[j]]:=hrra
    subst e1
    have HA0:Hid (∀ wx,Below w0.heap.size w0 wx→wx.cell? ⟨ca,oa,none⟩=some (.string ahead[j])):=fun wx hb=>(hwa wx hb).1 0 _ rfl
    have HP:Hid (∀ b,sameS ahead[j] p.var=b→(ahead[j].toList==p.var.toList)=b):=fun b h=>h
    have HT:Hid (sameS ahead[j] p.var=false→NoB ahead (fun x=>sameS x p.var) (j+1)):=fun h=>noB_succ HB.out hkl h
    have HN:Hid (sameS ahead[j] p.var=true→inS ahead p.var=true):=fun h=>List.any_eq_true.2 ⟨_,List.getElem_mem hkl,h⟩
    clear hwa hrra HB
    generalize ahead[j]=x at HA0 HP HT HN
    cases hsm:sameS x p.var with
    |true=>
     rw[HN.out hsm]at hin;cases hin
    |false=>
     have hq:=HP.out _ hsm
     have HV2:=Lib.hid (HT.out hsm)
     clear HP HT HN hsm
     go_wp2_with (with_reducible (first|refine wq M ?_|(refine wS M ?_;clear M;intro w M)|(refine wV M ?_;clear M;intro z w M)|(refine wR M ?_;clear M;intro q w M)))
     ((refine wp_region_still_lit (by kernel_rfl) (by kernel_rfl) ?_);(change wpStill _ _ (World.drew _) _ _ _);replace M:=M.drew;(repeat(first|((with_reducible refine s_list rfl fun K hK=>?_);refine s_load ?_;(first|(refine q_cellat (HA0.out _ M.new) ?_)|refine q_get M (by exact rfl) ?_);refine⟨rfl,hK _ ?_⟩;clear hK K)|((with_reducible refine s_list rfl fun K hK=>?_);refine s_pure ?_;go_simp;refine hK _ ?_;clear hK K)));(refine wpStill_nil ?_))
     go_wp2_with (with_reducible (first|refine wq M ?_|(refine wS M ?_;clear M;intro w M)|(refine wV M ?_;clear M;intro z w M)|(refine wR M ?_;clear M;intro q w M)))
     go_roundw
     case rel=>exact⟨j+1,by omega,by go_num,M,HV2⟩
     case measure=>simp[intOf];omega
   ·go_wp2_with (first|(with_reducible refine wq M ?_)|(go_at_call 29;with_reducible refine(HTN.out _ M.new).mono ?_;rintro e w5 ⟨rfl,hb5⟩;replace M:=M.below hb5;clear hb5)|(go_at_call 14;refine(in_any _ _ _ _).mono ?_;rintro e w4 ⟨rfl,rfl⟩;(try rw[hx]);(try rw[in_w2])))
    go_ret
    exact⟨rfl,M.new⟩
 ·clear hp
  go_enter Tryz.func53,Tryz.ntmps53
  go_wp2_with (first|(with_reducible (first|(refine wB (L:=[]) M ?_;clear M;intro za w1 M)|refine wq M ?_))|(go_at_call 52;with_reducible refine(HFN.out _ M.new).mono ?_;rintro e w5 ⟨rfl,hb5⟩;replace M:=M.below hb5;clear hb5))
  go_loopw [12] (fun i wr=> ∃ j:Nat,j≤an∧i= .int .i64 j∧Mem (StaysB g w0) g w0 wr ⟨0,0⟩ (own za [.string p.var,.string p.type,.int .i64 p.wher.kind,.slice so sn scap,.int .i64 p.wher.left.kind,.int .i64 p.wher.left.vkind,.int .i64 p.wher.left.vint,.string p.wher.left.vtext,.string p.wher.left.var,.string p.wher.left.field,.int .i64 p.wher.right.kind,.int .i64 p.wher.right.vkind,.int .i64 p.wher.right.vint,.string p.wher.right.vtext,.string p.wher.right.var,.string p.wher.right.field,.int .i64 pw,.int .i64 pn] 61::[])∧Hid (NoB ahead (fun x=>sameS x p.var) j)) (fun i _=>an - (intOf i).toNat)
  case atStart=>exact⟨0,by omega,rfl,M,noB_zero _ _⟩
  case round=>
   clear M
   obtain⟨j,hj,rfl,M,HB⟩:=hrel
   by_cases hlt:j<an
   ·have hkl:j<ahead.length:=by have:=NA.out;omega
    obtain⟨ca,oa,rowa,hixa, -,hrra,hwa⟩:=SlF.rowAt (P:=Tryz.prog) HAA.out wordF_firm Tryz.underlying84 size_str (i:=j) hkl
    have e1:rowa=[.string ahead[j]]:=hrra
    subst e1
    have HA0:Hid (∀ wx,Below w0.heap.size w0 wx→wx.cell? ⟨ca,oa,none⟩=some (.string ahead[j])):=fun wx hb=>(hwa wx hb).1 0 _ rfl
    have HP:Hid (∀ b,sameS ahead[j] p.var=b→(ahead[j].toList==p.var.toList)=b):=fun b h=>h
    have HT:Hid (sameS ahead[j] p.var=false→NoB ahead (fun x=>sameS x p.var) (j+1)):=fun h=>noB_succ HB.out hkl h
    have HN:Hid (sameS ahead[j] p.var=true→inS ahead p.var=true):=fun h=>List.any_eq_true.2 ⟨_,List.getElem_mem hkl,h⟩
    clear hwa hrra HB
    generalize ahead[j]=x at HA0 HP HT HN
    cases hsm:sameS x p.var with
    |true=>
     rw[HN.out hsm]at hin;cases hin
    |false=>
     have hq:=HP.out _ hsm
     have HV2:=Lib.hid (HT.out hsm)
     clear HP HT HN hsm
     go_wp2_with (with_reducible (first|refine wq M ?_|(refine wS M ?_;clear M;intro w M)|(refine wV M ?_;clear M;intro z w M)|(refine wR M ?_;clear M;intro q w M)))
     ((refine wp_region_still_lit (by kernel_rfl) (by kernel_rfl) ?_);(change wpStill _ _ (World.drew _) _ _ _);replace M:=M.drew;(repeat(first|((with_reducible refine s_list rfl fun K hK=>?_);refine s_load ?_;(first|(refine q_cellat (HA0.out _ M.new) ?_)|refine q_get M (by exact rfl) ?_);refine⟨rfl,hK _ ?_⟩;clear hK K)|((with_reducible refine s_list rfl fun K hK=>?_);refine s_pure ?_;go_simp;refine hK _ ?_;clear hK K)));(refine wpStill_nil ?_))
     go_wp2_with (with_reducible (first|refine wq M ?_|(refine wS M ?_;clear M;intro w M)|(refine wV M ?_;clear M;intro z w M)|(refine wR M ?_;clear M;intro q w M)))
     go_roundw
     case rel=>exact⟨j+1,by omega,by go_num,M,HV2⟩
     case measure=>simp[intOf];omega
   ·go_wp2_with (first|(with_reducible refine wq M ?_)|(go_at_call 29;with_reducible refine(HTN.out _ M.new).mono ?_;rintro e w5 ⟨rfl,hb5⟩;replace M:=M.below hb5;clear hb5)|(go_at_call 14;refine(in_any _ _ _ _).mono ?_;rintro e w4 ⟨rfl,rfl⟩;(try rw[hx])))
    go_ret
    exact⟨rfl,M.new⟩
 ·clear hp
  go_enter Tryz.func53,Tryz.ntmps53
  go_wp2_with (first|(with_reducible (first|(refine wB (L:=[]) M ?_;clear M;intro za w1 M)|refine wq M ?_))|(go_at_call 52;with_reducible refine(HFN.out _ M.new).mono ?_;rintro e w5 ⟨rfl,hb5⟩;replace M:=M.below hb5;clear hb5))
  go_loopw [12] (fun i wr=> ∃ j:Nat,j≤an∧i= .int .i64 j∧Mem (StaysB g w0) g w0 wr ⟨0,0⟩ (own za [.string p.var,.string p.type,.int .i64 p.wher.kind,.slice so sn scap,.int .i64 p.wher.left.kind,.int .i64 p.wher.left.vkind,.int .i64 p.wher.left.vint,.string p.wher.left.vtext,.string p.wher.left.var,.string p.wher.left.field,.int .i64 p.wher.right.kind,.int .i64 p.wher.right.vkind,.int .i64 p.wher.right.vint,.string p.wher.right.vtext,.string p.wher.right.var,.string p.wher.right.field,.int .i64 pw,.int .i64 pn] 61::[])∧Hid (NoB ahead (fun x=>sameS x p.var) j)) (fun i _=>an - (intOf i).toNat)
  case atStart=>exact⟨0,by omega,rfl,M,noB_zero _ _⟩
  case round=>
   clear M
   obtain⟨j,hj,rfl,M,HB⟩:=hrel
   by_cases hlt:j<an
   ·have hkl:j<ahead.length:=by have:=NA.out;omega
    obtain⟨ca,oa,rowa,hixa, -,hrra,hwa⟩:=SlF.rowAt (P:=Tryz.prog) HAA.out wordF_firm Tryz.underlying84 size_str (i:=j) hkl
    have e1:rowa=[.string ahead[j]]:=hrra
    subst e1
    have HA0:Hid (∀ wx,Below w0.heap.size w0 wx→wx.cell? ⟨ca,oa,none⟩=some (.string ahead[j])):=fun wx hb=>(hwa wx hb).1 0 _ rfl
    have HP:Hid (∀ b,sameS ahead[j] p.var=b→(ahead[j].toList==p.var.toList)=b):=fun b h=>h
    have HT:Hid (sameS ahead[j] p.var=false→NoB ahead (fun x=>sameS x p.var) (j+1)):=fun h=>noB_succ HB.out hkl h
    have HN:Hid (sameS ahead[j] p.var=true→inS ahead p.var=true):=fun h=>List.any_eq_true.2 ⟨_,List.getElem_mem hkl,h⟩
    clear hwa hrra HB
    generalize ahead[j]=x at HA0 HP HT HN
    cases hsm:sameS x p.var with
    |true=>
     rw[HN.out hsm]at hin;cases hin
    |false=>
     have hq:=HP.out _ hsm
     have HV2:=Lib.hid (HT.out hsm)
     clear HP HT HN hsm
     go_wp2_with (with_reducible (first|refine wq M ?_|(refine wS M ?_;clear M;intro w M)|(refine wV M ?_;clear M;intro z w M)|(refine wR M ?_;clear M;intro q w M)))
     ((refine wp_region_still_lit (by kernel_rfl) (by kernel_rfl) ?_);(change wpStill _ _ (World.drew _) _ _ _);replace M:=M.drew;(repeat(first|((with_reducible refine s_list rfl fun K hK=>?_);refine s_load ?_;(first|(refine q_cellat (HA0.out _ M.new) ?_)|refine q_get M (by exact rfl) ?_);refine⟨rfl,hK _ ?_⟩;clear hK K)|((with_reducible refine s_list rfl fun K hK=>?_);refine s_pure ?_;go_simp;refine hK _ ?_;clear hK K)));(refine wpStill_nil ?_))
     go_wp2_with (with_reducible (first|refine wq M ?_|(refine wS M ?_;clear M;intro w M)|(refine wV M ?_;clear M;intro z w M)|(refine wR M ?_;clear M;intro q w M)))
     go_roundw
     case rel=>exact⟨j+1,by omega,by go_num,M,HV2⟩
     case measure=>simp[intOf];omega
   ·go_wp2_with (first|(with_reducible refine wq M ?_)|(go_at_call 29;with_reducible refine(HTN.out _ M.new).mono ?_;rintro e w5 ⟨rfl,hb5⟩;replace M:=M.below hb5;clear hb5))
    go_ret
    exact⟨rfl,M.new⟩
 ·clear hp
  go_enter Tryz.func53,Tryz.ntmps53
  go_wp2_with (first|(with_reducible (first|(refine wB (L:=[]) M ?_;clear M;intro za w1 M)|refine wq M ?_))|(go_at_call 52;with_reducible refine(HFN.out _ M.new).mono ?_;rintro e w5 ⟨rfl,hb5⟩;replace M:=M.below hb5;clear hb5))
  go_loopw [12] (fun i wr=> ∃ j:Nat,j≤an∧i= .int .i64 j∧Mem (StaysB g w0) g w0 wr ⟨0,0⟩ (own za [.string p.var,.string p.type,.int .i64 p.wher.kind,.slice so sn scap,.int .i64 p.wher.left.kind,.int .i64 p.wher.left.vkind,.int .i64 p.wher.left.vint,.string p.wher.left.vtext,.string p.wher.left.var,.string p.wher.left.field,.int .i64 p.wher.right.kind,.int .i64 p.wher.right.vkind,.int .i64 p.wher.right.vint,.string p.wher.right.vtext,.string p.wher.right.var,.string p.wher.right.field,.int .i64 0,.int .i64 pn] 61::[])∧Hid (NoB ahead (fun x=>sameS x p.var) j)) (fun i _=>an - (intOf i).toNat)
  case atStart=>exact⟨0,by omega,rfl,M,noB_zero _ _⟩
  case round=>
   clear M
   obtain⟨j,hj,rfl,M,HB⟩:=hrel
   by_cases hlt:j<an
   ·have hkl:j<ahead.length:=by have:=NA.out;omega
    obtain⟨ca,oa,rowa,hixa, -,hrra,hwa⟩:=SlF.rowAt (P:=Tryz.prog) HAA.out wordF_firm Tryz.underlying84 size_str (i:=j) hkl
    have e1:rowa=[.string ahead[j]]:=hrra
    subst e1
    have HA0:Hid (∀ wx,Below w0.heap.size w0 wx→wx.cell? ⟨ca,oa,none⟩=some (.string ahead[j])):=fun wx hb=>(hwa wx hb).1 0 _ rfl
    have HP:Hid (∀ b,sameS ahead[j] p.var=b→(ahead[j].toList==p.var.toList)=b):=fun b h=>h
    have HT:Hid (sameS ahead[j] p.var=false→NoB ahead (fun x=>sameS x p.var) (j+1)):=fun h=>noB_succ HB.out hkl h
    have HN:Hid (sameS ahead[j] p.var=true→inS ahead p.var=true):=fun h=>List.any_eq_true.2 ⟨_,List.getElem_mem hkl,h⟩
    clear hwa hrra HB
    generalize ahead[j]=x at HA0 HP HT HN
    cases hsm:sameS x p.var with
    |true=>
     rw[HN.out hsm]at hin;cases hin
    |false=>
     have hq:=HP.out _ hsm
     have HV2:=Lib.hid (HT.out hsm)
     clear HP HT HN hsm
     go_wp2_with (with_reducible (first|refine wq M ?_|(refine wS M ?_;clear M;intro w M)|(refine wV M ?_;clear M;intro z w M)|(refine wR M ?_;clear M;intro q w M)))
     ((refine wp_region_still_lit (by kernel_rfl) (by kernel_rfl) ?_);(change wpStill _ _ (World.drew _) _ _ _);replace M:=M.drew;(repeat(first|((with_reducible refine s_list rfl fun K hK=>?_);refine s_load ?_;(first|(refine q_cellat (HA0.out _ M.new) ?_)|refine q_get M (by exact rfl) ?_);refine⟨rfl,hK _ ?_⟩;clear hK K)|((with_reducible refine s_list rfl fun K hK=>?_);refine s_pure ?_;go_simp;refine hK _ ?_;clear hK K)));(refine wpStill_nil ?_))
     go_wp2_with (with_reducible (first|refine wq M ?_|(refine wS M ?_;clear M;intro w M)|(refine wV M ?_;clear M;intro z w M)|(refine wR M ?_;clear M;intro q w M)))
     go_roundw
     case rel=>exact⟨j+1,by omega,by go_num,M,HV2⟩
     case measure=>simp[intOf];omega
   ·go_wp2_with (first|(with_reducible refine wq M ?_)|(go_at_call 29;with_reducible refine(HTN.out _ M.new).mono ?_;rintro e w5 ⟨rfl,hb5⟩;replace M:=M.below hb5;clear hb5))
    go_ret
    exact⟨rfl,M.new⟩
 ·clear hp
  go_enter Tryz.func53,Tryz.ntmps53
  go_wp2_with (first|(with_reducible (first|(refine wB (L:=[]) M ?_;clear M;intro za w1 M)|refine wq M ?_))|(go_at_call 52;with_reducible refine(HFN.out _ M.new).mono ?_;rintro e w5 ⟨rfl,hb5⟩;replace M:=M.below hb5;clear hb5))
  go_loopw [12] (fun i wr=> ∃ j:Nat,j≤an∧i= .int .i64 j∧Mem (StaysB g w0) g w0 wr ⟨0,0⟩ (own za [.string p.var,.string p.type,.int .i64 p.wher.kind,.slice so sn scap,.int .i64 p.wher.left.kind,.int .i64 p.wher.left.vkind,.int .i64 p.wher.left.vint,.string p.wher.left.vtext,.string p.wher.left.var,.string p.wher.left.field,.int .i64 p.wher.right.kind,.int .i64 p.wher.right.vkind,.int .i64 p.wher.right.vint,.string p.wher.right.vtext,.string p.wher.right.var,.string p.wher.right.field,.int .i64 pw,.int .i64 pn] 61::[])∧Hid (NoB ahead (fun x=>sameS x p.var) j)) (fun i _=>an - (intOf i).toNat)
  case atStart=>exact⟨0,by omega,rfl,M,noB_zero _ _⟩
  case round=>
   clear M
   obtain⟨j,hj,rfl,M,HB⟩:=hrel
   by_cases hlt:j<an
   ·have hkl:j<ahead.length:=by have:=NA.out;omega
    obtain⟨ca,oa,rowa,hixa, -,hrra,hwa⟩:=SlF.rowAt (P:=Tryz.prog) HAA.out wordF_firm Tryz.underlying84 size_str (i:=j) hkl
    have e1:rowa=[.string ahead[j]]:=hrra
    subst e1
    have HA0:Hid (∀ wx,Below w0.heap.size w0 wx→wx.cell? ⟨ca,oa,none⟩=some (.string ahead[j])):=fun wx hb=>(hwa wx hb).1 0 _ rfl
    have HP:Hid (∀ b,sameS ahead[j] p.var=b→(ahead[j].toList==p.var.toList)=b):=fun b h=>h
    have HT:Hid (sameS ahead[j] p.var=false→NoB ahead (fun x=>sameS x p.var) (j+1)):=fun h=>noB_succ HB.out hkl h
    have HN:Hid (sameS ahead[j] p.var=true→inS ahead p.var=true):=fun h=>List.any_eq_true.2 ⟨_,List.getElem_mem hkl,h⟩
    clear hwa hrra HB
    generalize ahead[j]=x at HA0 HP HT HN
    cases hsm:sameS x p.var with
    |true=>
     rw[HN.out hsm]at hin;cases hin
    |false=>
     have hq:=HP.out _ hsm
     have HV2:=Lib.hid (HT.out hsm)
     clear HP HT HN hsm
     go_wp2_with (with_reducible (first|refine wq M ?_|(refine wS M ?_;clear M;intro w M)|(refine wV M ?_;clear M;intro z w M)|(refine wR M ?_;clear M;intro q w M)))
     ((refine wp_region_still_lit (by kernel_rfl) (by kernel_rfl) ?_);(change wpStill _ _ (World.drew _) _ _ _);replace M:=M.drew;(repeat(first|((with_reducible refine s_list rfl fun K hK=>?_);refine s_load ?_;(first|(refine q_cellat (HA0.out _ M.new) ?_)|refine q_get M (by exact rfl) ?_);refine⟨rfl,hK _ ?_⟩;clear hK K)|((with_reducible refine s_list rfl fun K hK=>?_);refine s_pure ?_;go_simp;refine hK _ ?_;clear hK K)));(refine wpStill_nil ?_))
     go_wp2_with (with_reducible (first|refine wq M ?_|(refine wS M ?_;clear M;intro w M)|(refine wV M ?_;clear M;intro z w M)|(refine wR M ?_;clear M;intro q w M)))
     go_roundw
     case rel=>exact⟨j+1,by omega,by go_num,M,HV2⟩
     case measure=>simp[intOf];omega
   ·go_wp2_with (first|(with_reducible refine wq M ?_)|(go_at_call 29;with_reducible refine(HTN.out _ M.new).mono ?_;rintro e w5 ⟨rfl,hb5⟩;replace M:=M.below hb5;clear hb5))
    go_ret
    exact⟨rfl,M.new⟩
 ·clear hp
  go_enter Tryz.func53,Tryz.ntmps53
  go_wp2_with (first|(with_reducible (first|(refine wB (L:=[]) M ?_;clear M;intro za w1 M)|refine wq M ?_))|(go_at_call 52;with_reducible refine(HFN.out _ M.new).mono ?_;rintro e w5 ⟨rfl,hb5⟩;replace M:=M.below hb5;clear hb5))
  go_loopw [12] (fun i wr=> ∃ j:Nat,j≤an∧i= .int .i64 j∧Mem (StaysB g w0) g w0 wr ⟨0,0⟩ (own za [.string p.var,.string p.type,.int .i64 p.wher.kind,.slice so sn scap,.int .i64 p.wher.left.kind,.int .i64 p.wher.left.vkind,.int .i64 p.wher.left.vint,.string p.wher.left.vtext,.string p.wher.left.var,.string p.wher.left.field,.int .i64 p.wher.right.kind,.int .i64 p.wher.right.vkind,.int .i64 p.wher.right.vint,.string p.wher.right.vtext,.string p.wher.right.var,.string p.wher.right.field,.int .i64 1,.int .i64 pn] 61::[])∧Hid (NoB ahead (fun x=>sameS x p.var) j)) (fun i _=>an - (intOf i).toNat)
  case atStart=>exact⟨0,by omega,rfl,M,noB_zero _ _⟩
  case round=>
   clear M
   obtain⟨j,hj,rfl,M,HB⟩:=hrel
   by_cases hlt:j<an
   ·have hkl:j<ahead.length:=by have:=NA.out;omega
    obtain⟨ca,oa,rowa,hixa, -,hrra,hwa⟩:=SlF.rowAt (P:=Tryz.prog) HAA.out wordF_firm Tryz.underlying84 size_str (i:=j) hkl
    have e1:rowa=[.string ahead[j]]:=hrra
    subst e1
    have HA0:Hid (∀ wx,Below w0.heap.size w0 wx→wx.cell? ⟨ca,oa,none⟩=some (.string ahead[j])):=fun wx hb=>(hwa wx hb).1 0 _ rfl
    have HP:Hid (∀ b,sameS ahead[j] p.var=b→(ahead[j].toList==p.var.toList)=b):=fun b h=>h
    have HT:Hid (sameS ahead[j] p.var=false→NoB ahead (fun x=>sameS x p.var) (j+1)):=fun h=>noB_succ HB.out hkl h
    have HN:Hid (sameS ahead[j] p.var=true→inS ahead p.var=true):=fun h=>List.any_eq_true.2 ⟨_,List.getElem_mem hkl,h⟩
    clear hwa hrra HB
    generalize ahead[j]=x at HA0 HP HT HN
    cases hsm:sameS x p.var with
    |true=>
     rw[HN.out hsm]at hin;cases hin
    |false=>
     have hq:=HP.out _ hsm
     have HV2:=Lib.hid (HT.out hsm)
     clear HP HT HN hsm
     go_wp2_with (with_reducible (first|refine wq M ?_|(refine wS M ?_;clear M;intro w M)|(refine wV M ?_;clear M;intro z w M)|(refine wR M ?_;clear M;intro q w M)))
     ((refine wp_region_still_lit (by kernel_rfl) (by kernel_rfl) ?_);(change wpStill _ _ (World.drew _) _ _ _);replace M:=M.drew;(repeat(first|((with_reducible refine s_list rfl fun K hK=>?_);refine s_load ?_;(first|(refine q_cellat (HA0.out _ M.new) ?_)|refine q_get M (by exact rfl) ?_);refine⟨rfl,hK _ ?_⟩;clear hK K)|((with_reducible refine s_list rfl fun K hK=>?_);refine s_pure ?_;go_simp;refine hK _ ?_;clear hK K)));(refine wpStill_nil ?_))
     go_wp2_with (with_reducible (first|refine wq M ?_|(refine wS M ?_;clear M;intro w M)|(refine wV M ?_;clear M;intro z w M)|(refine wR M ?_;clear M;intro q w M)))
     go_roundw
     case rel=>exact⟨j+1,by omega,by go_num,M,HV2⟩
     case measure=>simp[intOf];omega
   ·go_wp2_with (first|(with_reducible refine wq M ?_)|(go_at_call 29;with_reducible refine(HTN.out _ M.new).mono ?_;rintro e w5 ⟨rfl,hb5⟩;replace M:=M.below hb5;clear hb5)|(go_at_call 14;refine(in_any _ _ _ _).mono ?_;rintro e w4 ⟨rfl,rfl⟩;(try rw[hx])))
    go_ret
    exact⟨rfl,M.new⟩
end
end Go.Proofs.YtncmghnhfipklaaGreatDoor
