/-
  The walks of the program's Check, third part: conditions. Printed by pgc.py.
-/
import Derived.Test.YtncmghnhfipklaaGreatDoorPw17
import Derived.Test.YtncmghnhfipklaaGreatDoorPu01
namespace Go.Proofs.YtncmghnhfipklaaGreatDoor
open Go.RowKit
set_option linter.unusedVariables false
set_option linter.unusedSimpArgs false
def OpdFit(o:Opd):Prop:=o.vtext.size≤maxLen∧o.var.size≤maxLen
inductive CondFit:Cond→Prop where
 |mk {k:Int} {subs:List Cond} {l r:Opd} (hl:OpdFit l) (hr:OpdFit r) (hs: ∀ s∈subs,CondFit s):CondFit (.mk k subs l r)
theorem CondFit.left{c:Cond}(h:CondFit c):OpdFit c.left:=by cases h;assumption
theorem CondFit.right{c:Cond}(h:CondFit c):OpdFit c.right:=by cases h;assumption
theorem CondFit.subs{c:Cond}(h:CondFit c): ∀ s∈c.subs,CondFit s:=by cases h;assumption
theorem CondFit.ok{c:Cond}(h:CondFit c):CondOk c:=by
 induction h with
 |mk hl hr hs ih=>exact .mk hl.1 hr.1 ih
section
variable {g:Nat} {F H S:Nat→Prop} {ao:Option Addr} {n cap:Nat} {oo:Option Addr} {k ocap:Nat} {so:Option Addr} {sn scap:Nat} {w0:World} {ts:List Typ} {known:List Pat} {own:Typ} {zs zk nk:Nat} {f:MapF}
set_option maxRecDepth 8000 in
set_option maxHeartbeats 4000000 in
theorem test_any(hg:g<w0.heap.size)(hS:Scope F w0 zs zk nk f ts known ao n cap)(hts: ∀ t∈ts,TypGood t)(hO:SlF H w0 2 (plainF fldC) oo k ocap own.fields)(hown:TypGood own)(c:Cond)(hS2:SlF S w0 14 CondF so sn scap c.subs)(hok:CondFit c):
  Calls Tryz.prog 91 #[.pointer (some ⟨zs,0,none⟩),.agg (cnd14 c.kind so sn scap c.left c.right).toArray,.agg #[.string own.name,.slice oo k ocap]] w0 fun e w' =>e= .returned (.int .i64 (testE ts known own c))∧Below w0.heap.size w0 w' :=by
 have M:=Mem.begin hg ⟨0,0⟩
 have hle:=hS2.le
 have NL:=Lib.hid hS2.len
 have HSL:Hid (∀ wx,Below w0.heap.size w0 wx→Calls Tryz.prog 70 #[.pointer (some ⟨zs,0,none⟩),.agg (opdC c.left).toArray,.agg #[.string own.name,.slice oo k ocap]] wx (SidePost ts known own c.left wx)):=fun wx hbx=>
  side_any (Nat.lt_of_lt_of_le hg hbx.size) c.left hok.left.1 hok.left.2 (hS.below hbx) hts (hO.below (plainF_firm _) hbx) hown
 have HSR:Hid (∀ wx,Below w0.heap.size w0 wx→Calls Tryz.prog 70 #[.pointer (some ⟨zs,0,none⟩),.agg (opdC c.right).toArray,.agg #[.string own.name,.slice oo k ocap]] wx (SidePost ts known own c.right wx)):=fun wx hbx=>
  side_any (Nat.lt_of_lt_of_le hg hbx.size) c.right hok.right.1 hok.right.2 (hS.below hbx) hts (hO.below (plainF_firm _) hbx) hown
 unfold cnd14
 unfold opdC SidePost at HSL HSR
 clear hg hS hts hO hown hS2 hok
 by_cases hs:c.subs.length=0
 ·have hsn:sn=0:=by have:=NL.out;omega
  subst hsn
  by_cases h1:sideE ts known own c.left=0
  ·by_cases h2:sideE ts known own c.right=0
   ·have HV:=Lib.hid (testE_both hs h1 h2)
    simp only[h1,true_implies]at HSL
    simp only[h2,true_implies]at HSR
    generalize sideK ts known own c.left=kl at HV HSL
    generalize sideK ts known own c.right=kr at HV HSR
    clear hs h1 h2
    by_cases hkk:kl=kr
    ·subst hkk
     rw[if_pos rfl]at HV
     go_enter Tryz.func91,Tryz.ntmps91
     go_wp2_with (first|(with_reducible (first|(refine wB (L:=[]) M ?_;clear M;intro za w1 M)|(refine wB M ?_;clear M;intro zb w2 M)|refine wq M ?_))|(go_at_call 70;with_reducible refine(HSL.out _ M.new).mono ?_;rintro e w5 ⟨kk,rfl,hb5,hkk⟩;(replace hkk:=hkk.symm;subst hkk);replace M:=M.below hb5;clear hb5)|(go_at_call 70;with_reducible refine(HSR.out _ M.new).mono ?_;rintro e w5 ⟨kk,rfl,hb5,hkk⟩;(replace hkk:=hkk.symm;subst hkk);replace M:=M.below hb5;clear hb5))
     go_ret
     rw[HV.out]
     exact⟨rfl,M.new⟩
    ·have hkb:(kl !=kr)=true:=by simpa using hkk
     rw[if_neg hkk]at HV
     clear hkk
     go_enter Tryz.func91,Tryz.ntmps91
     go_wp2_with (first|(with_reducible (first|(refine wB (L:=[]) M ?_;clear M;intro za w1 M)|(refine wB M ?_;clear M;intro zb w2 M)|refine wq M ?_))|(go_at_call 70;with_reducible refine(HSL.out _ M.new).mono ?_;rintro e w5 ⟨kk,rfl,hb5,hkk⟩;(replace hkk:=hkk.symm;subst hkk);replace M:=M.below hb5;clear hb5)|(go_at_call 70;with_reducible refine(HSR.out _ M.new).mono ?_;rintro e w5 ⟨kk,rfl,hb5,hkk⟩;(replace hkk:=hkk.symm;subst hkk);replace M:=M.below hb5;clear hb5))
     go_ret
     rw[HV.out]
     exact⟨rfl,M.new⟩
   ·have HV:=Lib.hid (testE_right hs h1 h2)
    simp only[h1,true_implies]at HSL
    have hb:(sideE ts known own c.right !=0)=true:=by simpa using h2
    generalize sideE ts known own c.right=er at HV HSR hb
    clear hs h1 h2
    go_enter Tryz.func91,Tryz.ntmps91
    go_wp2_with (first|(with_reducible (first|(refine wB (L:=[]) M ?_;clear M;intro za w1 M)|(refine wB M ?_;clear M;intro zb w2 M)|refine wq M ?_))|(go_at_call 70;with_reducible refine(HSL.out _ M.new).mono ?_;rintro e w5 ⟨kk,rfl,hb5,hkk⟩;(replace hkk:=hkk.symm;subst hkk);replace M:=M.below hb5;clear hb5)|(go_at_call 70;with_reducible refine(HSR.out _ M.new).mono ?_;rintro e w5 ⟨kk,rfl,hb5,hkk⟩;(clear hkk);replace M:=M.below hb5;clear hb5))
    go_ret
    rw[HV.out]
    exact⟨rfl,M.new⟩
  ·have HV:=Lib.hid (testE_left hs h1)
   have hb:(sideE ts known own c.left !=0)=true:=by simpa using h1
   generalize sideE ts known own c.left=el at HV HSL hb
   clear hs h1
   go_enter Tryz.func91,Tryz.ntmps91
   go_wp2_with (first|(with_reducible (first|(refine wB (L:=[]) M ?_;clear M;intro za w1 M)|(refine wB M ?_;clear M;intro zb w2 M)|refine wq M ?_))|(go_at_call 70;with_reducible refine(HSL.out _ M.new).mono ?_;rintro e w5 ⟨kk,rfl,hb5,hkk⟩;(clear hkk);replace M:=M.below hb5;clear hb5))
   go_ret
   rw[HV.out]
   exact⟨rfl,M.new⟩
 ·have HV:=Lib.hid (testE_subs (ts:=ts) (known:=known) (own:=own) hs)
  have hsn:(0:Int)<sn:=by have:=NL.out;omega
  clear hs HSL HSR
  go_enter Tryz.func91,Tryz.ntmps91
  go_wp2_with (with_reducible (first|(refine wB (L:=[]) M ?_;clear M;intro za w1 M)|(refine wB M ?_;clear M;intro zb w2 M)|refine wq M ?_))
  go_ret
  rw[HV.out]
  exact⟨rfl,M.new⟩
set_option maxRecDepth 8000 in
set_option maxHeartbeats 4000000 in
theorem cond_deep(hg:g<w0.heap.size)(c:Cond)(d:Int)(hd:8<d)(hk:1≤c.kind∧c.kind≤7):
  Calls Tryz.prog 66 #[.pointer (some ⟨zs,0,none⟩),.agg (cnd14 c.kind so sn scap c.left c.right).toArray,.agg #[.string own.name,.slice oo k ocap],.int .i64 d] w0 (CndPostR (condR ts known own 0 c) w0):=by
 have M:=Mem.begin hg ⟨0,0⟩
 have HV:Hid (condR ts known own 0 c=(0,14)):=by show _=_;unfold condR;rw[if_pos hk]
 rw[HV.out]
 have k1:decide (c.kind<1)=false:=by simp;omega
 have k2:decide (7<c.kind)=false:=by simp;omega
 unfold cnd14
 clear hg hk
 go_enter Tryz.func66,Tryz.ntmps66
 go_wp2_with (with_reducible (first|(refine wB (L:=[]) M ?_;clear M;intro za w1 M)|(refine wB M ?_;clear M;intro zb w2 M)|refine wq M ?_))
 go_ret2
 exact cnd_out M.new rfl (fun h=>absurd h (by decide))
set_option maxRecDepth 8000 in
set_option maxHeartbeats 4000000 in
theorem cond_kind(hg:g<w0.heap.size)(c:Cond)(d:Int)(q:Nat)(hk: ¬ (1≤c.kind∧c.kind≤7)):
  Calls Tryz.prog 66 #[.pointer (some ⟨zs,0,none⟩),.agg (cnd14 c.kind so sn scap c.left c.right).toArray,.agg #[.string own.name,.slice oo k ocap],.int .i64 d] w0 (CndPostR (condR ts known own q c) w0):=by
 have M:=Mem.begin hg ⟨0,0⟩
 have HV:Hid (condR ts known own q c=(0,3)):=by show _=_;cases q<;>(unfold condR;rw[if_neg hk])
 rw[HV.out]
 unfold cnd14
 by_cases h1:c.kind<1
 ·have k1:decide (c.kind<1)=true:=by simpa using h1
  clear hg hk h1
  go_enter Tryz.func66,Tryz.ntmps66
  go_wp2_with (with_reducible (first|(refine wB (L:=[]) M ?_;clear M;intro za w1 M)|(refine wB M ?_;clear M;intro zb w2 M)|refine wq M ?_))
  go_ret2
  exact cnd_out M.new rfl (fun h=>absurd h (by decide))
 ·have k1:decide (c.kind<1)=false:=by simpa using h1
  have k2:decide (7<c.kind)=true:=by simp;omega
  clear hg hk h1
  go_enter Tryz.func66,Tryz.ntmps66
  go_wp2_with (with_reducible (first|(refine wB (L:=[]) M ?_;clear M;intro za w1 M)|(refine wB M ?_;clear M;intro zb w2 M)|refine wq M ?_))
  go_ret2
  exact cnd_out M.new rfl (fun h=>absurd h (by decide))
set_option maxRecDepth 8000 in
set_option maxHeartbeats 4000000 in
theorem cond_test(hg:g<w0.heap.size)(hS:Scope F w0 zs zk nk f ts known ao n cap)(hts: ∀ t∈ts,TypGood t)(hO:SlF H w0 2 (plainF fldC) oo k ocap own.fields)(hown:TypGood own)(c:Cond)(hS2:SlF S w0 14 CondF so sn scap c.subs)(hok:CondFit c)(d:Int)(q:Nat)(hd:1≤d∧d≤8)(hk:4≤c.kind∧c.kind≤7):
  Calls Tryz.prog 66 #[.pointer (some ⟨zs,0,none⟩),.agg (cnd14 c.kind so sn scap c.left c.right).toArray,.agg #[.string own.name,.slice oo k ocap],.int .i64 d] w0 (CndPostR (condR ts known own (q+1) c) w0):=by
 have M:=Mem.begin hg ⟨0,0⟩
 rw[condR_test hk]
 have hle:=hS2.le
 have HTS:Hid (∀ wx,Below w0.heap.size w0 wx→Calls Tryz.prog 91 #[.pointer (some ⟨zs,0,none⟩),.agg (cnd14 c.kind so sn scap c.left c.right).toArray,.agg #[.string own.name,.slice oo k ocap]] wx fun e w' =>e= .returned (.int .i64 (testE ts known own c))∧Below wx.heap.size wx w'):=fun wx hbx=>
  test_any (Nat.lt_of_lt_of_le hg hbx.size) (hS.below hbx) hts (hO.below (plainF_firm _) hbx) hown c (hS2.below condF_firm hbx) hok
 have k1:decide (c.kind<1)=false:=by simp;omega
 have k2:decide (7<c.kind)=false:=by simp;omega
 have k3:decide (4≤c.kind)=true:=by simp;omega
 have k4:decide (8<d)=false:=by simp;omega
 unfold cnd14 at HTS ⊢
 generalize testE ts known own c=te at HTS ⊢
 clear hg hS hts hO hown hS2 hok hk hd
 go_enter Tryz.func66,Tryz.ntmps66
 go_wp2_with (first|(with_reducible (first|(refine wB (L:=[]) M ?_;clear M;intro za w1 M)|(refine wB M ?_;clear M;intro zb w2 M)|refine wq M ?_))|(go_at_call 91;with_reducible refine(HTS.out _ M.new).mono ?_;rintro e w5 ⟨rfl,hb5⟩;replace M:=M.below hb5;clear hb5))
 go_ret2
 exact cnd_out M.new rfl (fun _=>rfl)
set_option maxRecDepth 8000 in
set_option maxHeartbeats 8000000 in
theorem cond_tree(hg:g<w0.heap.size)(c:Cond)(hS2:SlF S w0 14 CondF so sn scap c.subs)(d:Int)(q0:Nat)(hd:1≤d∧d≤8)(hk:1≤c.kind∧c.kind≤3)
  (hI: ∀ (j:Nat) (h:j<c.subs.length) (so:Option Addr) (sn scap:Nat) (wx:World),Below w0.heap.size w0 wx→SlF S wx 14 CondF so sn scap c.subs[j].subs→Calls Tryz.prog 66 #[.pointer (some ⟨zs,0,none⟩),.agg (cnd14 c.subs[j].kind so sn scap c.subs[j].left c.subs[j].right).toArray,.agg #[.string own.name,.slice oo k ocap],.int .i64 (d+1)] wx (CndPostR (condR ts known own q0 c.subs[j]) wx)):
  Calls Tryz.prog 66 #[.pointer (some ⟨zs,0,none⟩),.agg (cnd14 c.kind so sn scap c.left c.right).toArray,.agg #[.string own.name,.slice oo k ocap],.int .i64 d] w0 (CndPostR (condR ts known own (q0+1) c) w0):=by
 have M:=Mem.begin hg ⟨0,0⟩
 rw[condR_tree hk]
 have hle:=hS2.le
 have NL:=Lib.hid hS2.len
 have hw:IntKind.i64.wrap (d+1)=d+1:=IntWalk.i64_in _ (by omega)
 have k1:decide (c.kind<1)=false:=by simp;omega
 have k2:decide (7<c.kind)=false:=by simp;omega
 have k3:decide (4≤c.kind)=false:=by simp;omega
 have k4:decide (8<d)=false:=by simp;omega
 have HF:Hid (condForm c=(!opdZ c.left||!opdZ c.right||(c.kind==3&&decide ((sn:Int)≠1))||(c.kind !=3&&decide ((sn:Int)<2)))):=by
  show _=_
  unfold condForm
  rw[←NL.out]
  have e1:decide (sn≠1)=decide ((sn:Int)≠1):=by rw[decide_eq_decide];omega
  have e2:decide (sn<2)=decide ((sn:Int)<2):=by rw[decide_eq_decide];omega
  rw[e1,e2]
 have HS:=Lib.hid hS2
 have HI:=Lib.hid hI
 have HB:=Lib.hid (condR_bound (ts:=ts) (known:=known) (own:=own) q0)
 generalize condR ts known own q0=q at HI HB ⊢
 clear hg hS2 hI hd
 by_cases hf:condForm c=true
 ·rw[if_pos hf]
  rw[HF.out]at hf
  have HFT:=Lib.hid hf
  unfold cnd14
  clear hf HF HI HB hk
  generalize c.kind=ck at k1 k2 k3 HFT
  by_cases h3:ck=3
  ·subst h3
   go_enter Tryz.func66,Tryz.ntmps66
   go_wp2_with (with_reducible (first|(refine wB (L:=[]) M ?_;clear M;intro za w1 M)|(refine wB M ?_;clear M;intro zb w2 M)|refine wq M ?_))
   all_goals first
    |(go_ret2;exact cnd_out M.new rfl (fun h=>absurd h (by decide)))
    |(exfalso;have:=HFT.out;simp[opdZ,valZ,emS, *]at this;done)
    |(exfalso;have:=HFT.out;simp[opdZ,valZ,emS, *]at this;omega)
  ·have h3a:(ck==3)=false:=by simpa using h3
   have h3b:(ck !=3)=true:=by simpa using h3
   clear h3
   go_enter Tryz.func66,Tryz.ntmps66
   go_wp2_with (with_reducible (first|(refine wB (L:=[]) M ?_;clear M;intro za w1 M)|(refine wB M ?_;clear M;intro zb w2 M)|refine wq M ?_))
   all_goals first
    |(go_ret2;exact cnd_out M.new rfl (fun h=>absurd h (by decide)))
    |(exfalso;have:=HFT.out;simp[opdZ,valZ,emS, *]at this;done)
    |(exfalso;have:=HFT.out;simp[opdZ,valZ,emS, *]at this;omega)
 ·rw[if_neg hf]
  rw[HF.out]at hf
  have hz:opdZ c.left=true∧opdZ c.right=true:=by
   constructor
   ·cases hq:opdZ c.left with
    |true=>rfl
    |false=>exact absurd (by simp[hq]) hf
   ·cases hq:opdZ c.right with
    |true=>rfl
    |false=>exact absurd (by simp[hq]) hf
  obtain⟨hl,hr⟩:=hz
  simp only[opdZ,valZ,emS,Bool.and_eq_true,beq_iff_eq,List.isEmpty_iff]at hl hr
  obtain⟨⟨⟨l1,⟨l2,l3⟩,l4⟩,l5⟩,l6⟩:=hl
  obtain⟨⟨⟨r1,⟨r2,r3⟩,r4⟩,r5⟩,r6⟩:=hr
  have hn:(c.kind=3→(sn:Int)=1)∧(c.kind≠3→ ¬ (sn:Int)<2):=by
   refine⟨fun h=>Classical.byContradiction fun h2=>hf ?_,fun h h2=>hf ?_⟩
   ·simp[h];omega
   ·simp[h,h2]
  obtain⟨hn1,hn2⟩:=hn
  have HN:Hid ((c.kind=3→sn=1)∧(c.kind≠3→2≤sn)):=⟨fun h=>by have:=hn1 h;omega,fun h=>by have:=hn2 h;omega⟩
  unfold cnd14
  rw[l1,l2,l3,r1,r2,r3]
  clear hf HF hn1 hn2 hk
  generalize c.kind=ck at k1 k2 k3 HN
  by_cases h3:ck=3
  ·subst h3
   have hsn:(sn:Int)=1:=by have:=HN.out.1 rfl;omega
   clear HN
   go_enter Tryz.func66,Tryz.ntmps66
   go_wp2_with (with_reducible (first|(refine wB (L:=[]) M ?_;clear M;intro za w1 M)|(refine wB M ?_;clear M;intro zb w2 M)|refine wq M ?_))
   go_loopg [10,67] sn (fun fu s i wr=> ∃ (j:Nat) (t:Int),j+fu=sn∧s= .int .i64 t∧i= .int .i64 j∧(0≤t∧t≤12)∧Mem (StaysB g w0) g w0 wr ⟨0,0⟩ (Go.Proofs.YtncmghnhfipklaaGreatDoor.own zb [.string own.name,.slice oo k ocap] 51::Go.Proofs.YtncmghnhfipklaaGreatDoor.own za [.int .i64 3,.slice so sn scap,.int .i64 0,.int .i64 0,.int .i64 0,.string c.left.vtext,.string c.left.var,.string c.left.field,.int .i64 0,.int .i64 0,.int .i64 0,.string c.right.vtext,.string c.right.var,.string c.right.field] 59::[])∧Hid (condL q (c.subs.drop j) t=condL q c.subs 0))
   case atStart=>exact⟨0,0,by omega,rfl,rfl,by decide,M,rfl⟩
   case round=>
    clear M
    obtain⟨j,t,hj,rfl,rfl,⟨ht0,ht12⟩,M,HE⟩:=hrel
    by_cases hlt:j<sn
    ·have hkl:j<c.subs.length:=by have:=NL.out;omega
     obtain⟨ca,oa,rowa,hixa, -,hrra,hwa⟩:=SlF.rowAt (P:=Tryz.prog) HS.out condF_firm Tryz.underlying53 size_cnd (i:=j) hkl
     obtain⟨so2,sn2,sc2,e1,hS2⟩:=hrra.open14
     subst e1
     have HR:Hid (∀ wx,Below w0.heap.size w0 wx→wx.rangeAt ca oa (cnd14 c.subs[j].kind so2 sn2 sc2 c.subs[j].left c.subs[j].right)):=fun wx hb=>(hwa wx hb).1
     have HC:Hid (∀ wx,Below w0.heap.size w0 wx→Calls Tryz.prog 66 #[.pointer (some ⟨zs,0,none⟩),.agg (cnd14 c.subs[j].kind so2 sn2 sc2 c.subs[j].left c.subs[j].right).toArray,.agg #[.string own.name,.slice oo k ocap],.int .i64 (d+1)] wx (CndPostR (q c.subs[j]) wx)):=fun wx hb=>HI.out j hkl _ _ _ wx hb (hS2.below condF_firm hb)
     have HM:=Lib.hid (HE.out.symm.trans (condL_more (q:=q) (s:=t) hkl))
     have HBB:=Lib.hid (HB.out c.subs[j])
     clear hwa hrra hS2 HE
     generalize q c.subs[j]=r at HC HM HBB
     generalize c.subs[j]=cs at HR HC
     obtain⟨rk,re⟩:=r
     unfold cnd14 at HR HC
     unfold CndPostR at HC
     by_cases hre:re=0
     ·subst hre
      have hrk:0≤rk∧rk≤12:=HBB.out rfl
      simp only[true_implies]at HC
      have hw2:IntKind.i64.wrap (t+rk)=t+rk:=IntWalk.i64_in _ (by omega)
      obtain⟨hrk0,hrk12⟩:=hrk
      by_cases h12:12<t+rk
      ·have HM2:Hid (condL q c.subs 0=(0,1)):=by show _=_;rw[HM.out,if_neg (by simp),if_pos h12]
       have hd12:decide (12<t+rk)=true:=by simpa using h12
       clear HM HBB
       go_wp2_with (first|(with_reducible (first|(refine wV M ?_;clear M;intro zx w M)|refine wq M ?_|(refine wS M ?_;clear M;intro w M)|refine wA (HR.out _ M.new) ?_))|(go_at_call 66;with_reducible refine(HC.out _ M.new).mono ?_;rintro e w5 ⟨kk,rfl,hb5,hkk⟩;replace hkk:=hkk.symm;subst hkk;replace M:=M.below hb5;clear hb5))
       go_ret2
       exact cnd_out M.new (by rw[HM2.out]) (fun h=>absurd h (by decide))
      ·have HM2:Hid (condL q (c.subs.drop (j+1)) (t+rk)=condL q c.subs 0):=by show _=_;rw[HM.out,if_neg (by simp),if_neg h12]
       have hd12:decide (12<t+rk)=false:=by simpa using h12
       clear HM HBB
       go_wp2_with (first|(with_reducible (first|(refine wV M ?_;clear M;intro zx w M)|refine wq M ?_|(refine wS M ?_;clear M;intro w M)|refine wA (HR.out _ M.new) ?_))|(go_at_call 66;with_reducible refine(HC.out _ M.new).mono ?_;rintro e w5 ⟨kk,rfl,hb5,hkk⟩;replace hkk:=hkk.symm;subst hkk;replace M:=M.below hb5;clear hb5))
       go_roundg (sn - (j+1))
       case measure=>omega
       case rel=>exact⟨j+1,t+rk,by omega,by go_num,by go_num,⟨by omega,by omega⟩,M.drop,HM2⟩
     ·have hrb:(re !=0)=true:=by simpa using hre
      have HM2:Hid (condL q c.subs 0=(0,re)):=by show _=_;rw[HM.out,if_pos hre]
      have HRE:=Lib.hid hre
      clear HM HBB hre
      go_wp2_with (first|(with_reducible (first|(refine wV M ?_;clear M;intro zx w M)|refine wq M ?_|(refine wS M ?_;clear M;intro w M)|refine wA (HR.out _ M.new) ?_))|(go_at_call 66;with_reducible refine(HC.out _ M.new).mono ?_;rintro e w5 ⟨kk,rfl,hb5, -⟩;replace M:=M.below hb5;clear hb5))
      go_ret2
      exact cnd_out M.new (by rw[HM2.out]) (fun h=>absurd h HRE.out)
    ·have HM2:Hid (condL q c.subs 0=(t,0)):=by
      show _=_
      rw[←HE.out]
      exact condL_end (by have:=NL.out;omega)
     clear HE
     go_wp2_with (with_reducible (first|refine wq M ?_|(refine wS M ?_;clear M;intro w M)|(refine wV M ?_;clear M;intro z w M)|(refine wR M ?_;clear M;intro q w M)))
     go_ret2
     exact cnd_out M.new (by rw[HM2.out]) (fun _=>by rw[HM2.out])
  ·have h3a:(ck==3)=false:=by simpa using h3
   have h3b:(ck !=3)=true:=by simpa using h3
   have hsn:decide ((sn:Int)<2)=false:=by have:=HN.out.2 h3;simp;omega
   clear HN h3
   go_enter Tryz.func66,Tryz.ntmps66
   go_wp2_with (with_reducible (first|(refine wB (L:=[]) M ?_;clear M;intro za w1 M)|(refine wB M ?_;clear M;intro zb w2 M)|refine wq M ?_))
   go_loopg [10,67] sn (fun fu s i wr=> ∃ (j:Nat) (t:Int),j+fu=sn∧s= .int .i64 t∧i= .int .i64 j∧(0≤t∧t≤12)∧Mem (StaysB g w0) g w0 wr ⟨0,0⟩ (Go.Proofs.YtncmghnhfipklaaGreatDoor.own zb [.string own.name,.slice oo k ocap] 51::Go.Proofs.YtncmghnhfipklaaGreatDoor.own za [.int .i64 ck,.slice so sn scap,.int .i64 0,.int .i64 0,.int .i64 0,.string c.left.vtext,.string c.left.var,.string c.left.field,.int .i64 0,.int .i64 0,.int .i64 0,.string c.right.vtext,.string c.right.var,.string c.right.field] 59::[])∧Hid (condL q (c.subs.drop j) t=condL q c.subs 0))
   case atStart=>exact⟨0,0,by omega,rfl,rfl,by decide,M,rfl⟩
   case round=>
    clear M
    obtain⟨j,t,hj,rfl,rfl,⟨ht0,ht12⟩,M,HE⟩:=hrel
    by_cases hlt:j<sn
    ·have hkl:j<c.subs.length:=by have:=NL.out;omega
     obtain⟨ca,oa,rowa,hixa, -,hrra,hwa⟩:=SlF.rowAt (P:=Tryz.prog) HS.out condF_firm Tryz.underlying53 size_cnd (i:=j) hkl
     obtain⟨so2,sn2,sc2,e1,hS2⟩:=hrra.open14
     subst e1
     have HR:Hid (∀ wx,Below w0.heap.size w0 wx→wx.rangeAt ca oa (cnd14 c.subs[j].kind so2 sn2 sc2 c.subs[j].left c.subs[j].right)):=fun wx hb=>(hwa wx hb).1
     have HC:Hid (∀ wx,Below w0.heap.size w0 wx→Calls Tryz.prog 66 #[.pointer (some ⟨zs,0,none⟩),.agg (cnd14 c.subs[j].kind so2 sn2 sc2 c.subs[j].left c.subs[j].right).toArray,.agg #[.string own.name,.slice oo k ocap],.int .i64 (d+1)] wx (CndPostR (q c.subs[j]) wx)):=fun wx hb=>HI.out j hkl _ _ _ wx hb (hS2.below condF_firm hb)
     have HM:=Lib.hid (HE.out.symm.trans (condL_more (q:=q) (s:=t) hkl))
     have HBB:=Lib.hid (HB.out c.subs[j])
     clear hwa hrra hS2 HE
     generalize q c.subs[j]=r at HC HM HBB
     generalize c.subs[j]=cs at HR HC
     obtain⟨rk,re⟩:=r
     unfold cnd14 at HR HC
     unfold CndPostR at HC
     by_cases hre:re=0
     ·subst hre
      have hrk:0≤rk∧rk≤12:=HBB.out rfl
      simp only[true_implies]at HC
      have hw2:IntKind.i64.wrap (t+rk)=t+rk:=IntWalk.i64_in _ (by omega)
      obtain⟨hrk0,hrk12⟩:=hrk
      by_cases h12:12<t+rk
      ·have HM2:Hid (condL q c.subs 0=(0,1)):=by show _=_;rw[HM.out,if_neg (by simp),if_pos h12]
       have hd12:decide (12<t+rk)=true:=by simpa using h12
       clear HM HBB
       go_wp2_with (first|(with_reducible (first|(refine wV M ?_;clear M;intro zx w M)|refine wq M ?_|(refine wS M ?_;clear M;intro w M)|refine wA (HR.out _ M.new) ?_))|(go_at_call 66;with_reducible refine(HC.out _ M.new).mono ?_;rintro e w5 ⟨kk,rfl,hb5,hkk⟩;replace hkk:=hkk.symm;subst hkk;replace M:=M.below hb5;clear hb5))
       go_ret2
       exact cnd_out M.new (by rw[HM2.out]) (fun h=>absurd h (by decide))
      ·have HM2:Hid (condL q (c.subs.drop (j+1)) (t+rk)=condL q c.subs 0):=by show _=_;rw[HM.out,if_neg (by simp),if_neg h12]
       have hd12:decide (12<t+rk)=false:=by simpa using h12
       clear HM HBB
       go_wp2_with (first|(with_reducible (first|(refine wV M ?_;clear M;intro zx w M)|refine wq M ?_|(refine wS M ?_;clear M;intro w M)|refine wA (HR.out _ M.new) ?_))|(go_at_call 66;with_reducible refine(HC.out _ M.new).mono ?_;rintro e w5 ⟨kk,rfl,hb5,hkk⟩;replace hkk:=hkk.symm;subst hkk;replace M:=M.below hb5;clear hb5))
       go_roundg (sn - (j+1))
       case measure=>omega
       case rel=>exact⟨j+1,t+rk,by omega,by go_num,by go_num,⟨by omega,by omega⟩,M.drop,HM2⟩
     ·have hrb:(re !=0)=true:=by simpa using hre
      have HM2:Hid (condL q c.subs 0=(0,re)):=by show _=_;rw[HM.out,if_pos hre]
      have HRE:=Lib.hid hre
      clear HM HBB hre
      go_wp2_with (first|(with_reducible (first|(refine wV M ?_;clear M;intro zx w M)|refine wq M ?_|(refine wS M ?_;clear M;intro w M)|refine wA (HR.out _ M.new) ?_))|(go_at_call 66;with_reducible refine(HC.out _ M.new).mono ?_;rintro e w5 ⟨kk,rfl,hb5, -⟩;replace M:=M.below hb5;clear hb5))
      go_ret2
      exact cnd_out M.new (by rw[HM2.out]) (fun h=>absurd h HRE.out)
    ·have HM2:Hid (condL q c.subs 0=(t,0)):=by
      show _=_
      rw[←HE.out]
      exact condL_end (by have:=NL.out;omega)
     clear HE
     go_wp2_with (with_reducible (first|refine wq M ?_|(refine wS M ?_;clear M;intro w M)|(refine wV M ?_;clear M;intro z w M)|(refine wR M ?_;clear M;intro q w M)))
     go_ret2
     exact cnd_out M.new (by rw[HM2.out]) (fun _=>by rw[HM2.out])
theorem cond_any(hg:g<w0.heap.size)(hS:Scope F w0 zs zk nk f ts known ao n cap)(hts: ∀ t∈ts,TypGood t)(hO:SlF H w0 2 (plainF fldC) oo k ocap own.fields)(hown:TypGood own):
  ∀ (q:Nat) (d:Int),d+q=9→1≤d→ ∀ (c:Cond) (so:Option Addr) (sn scap:Nat) (wx:World),Below w0.heap.size w0 wx→SlF S wx 14 CondF so sn scap c.subs→CondFit c→
   Calls Tryz.prog 66 #[.pointer (some ⟨zs,0,none⟩),.agg (cnd14 c.kind so sn scap c.left c.right).toArray,.agg #[.string own.name,.slice oo k ocap],.int .i64 d] wx (CndPostR (condR ts known own q c) wx):=by
 intro q
 induction q with
 |zero=>
  intro d hd h1 c so sn scap wx hb hS2 hok
  have hg' :=Nat.lt_of_lt_of_le hg hb.size
  by_cases hk:1≤c.kind∧c.kind≤7
  ·exact cond_deep hg' c d (by omega) hk
  ·exact cond_kind hg' c d 0 hk
 |succ q ih=>
  intro d hd h1 c so sn scap wx hb hS2 hok
  have hg' :=Nat.lt_of_lt_of_le hg hb.size
  by_cases hk:1≤c.kind∧c.kind≤7
  ·by_cases h4:4≤c.kind
   ·exact cond_test hg' (hS.below hb) hts (hO.below (plainF_firm _) hb) hown c hS2 hok d q (by omega) ⟨h4,hk.2⟩
   ·exact cond_tree hg' c hS2 d q (by omega) (by omega)
     (fun j hj so2 sn2 sc2 wy hby hS3=>ih (d+1) (by omega) (by omega) c.subs[j] so2 sn2 sc2 wy (hb.trans (hby.mono hb.size)) hS3 (hok.subs _ (List.getElem_mem hj)))
  ·exact cond_kind hg' c d (q+1) hk
end
def winK(l:List Int)(p:Pat):Int:=
 if l.any (fun k=>p.window==k)=false∨(p.window=0∧p.n≠0)then 4
 else if(p.window=1∧ ¬ (0≤p.n∧p.n≤1073741824))∨(p.window=2∧ ¬ (1≤p.n∧p.n≤120))then 2 else 0
def winL:Nat→List Int
 |0=>[0,1,2]
 |1=>[0]
 |_=>[1]
theorem winK_eq(part:Nat)(hp:part≤2)(p:Pat):winK (winL part) p=winE part p:=by
 have h1:((winL part).any (fun k=>p.window==k)=false∨(p.window=0∧p.n≠0))↔((part=0∧ ¬ (0≤p.window∧p.window≤2))∨(part=1∧p.window≠0)∨(part=2∧p.window≠1)∨(p.window=0∧p.n≠0)):=by
  rcases(by omega:part=0∨part=1∨part=2)with rfl|rfl|rfl<;>simp[winL]<;>omega
 unfold winK winE
 by_cases h:(winL part).any (fun k=>p.window==k)=false∨(p.window=0∧p.n≠0)
 ·rw[if_pos h,if_pos (h1.1 h)]
 ·rw[if_neg h,if_neg (fun h2=>h (h1.2 h2))]
def intC(k:Int):List Value:=[.int .i64 k]
section
variable {g:Nat} {F H S:Nat→Prop} {ao:Option Addr} {n cap:Nat} {ko:Option Addr} {kn kcap:Nat} {so:Option Addr} {sn scap:Nat} {w0:World} {ts:List Typ} {known:List Pat} {zs zk nk:Nat} {f:MapF}
set_option maxRecDepth 8000 in
set_option maxHeartbeats 8000000 in
theorem window_any(hg:g<w0.heap.size)(p:Pat)(l:List Int)(hK:SlF H w0 1 (plainF intC) ko kn kcap l):
  Calls Tryz.prog 64 #[.agg (pat18 p so sn scap).toArray,.slice ko kn kcap] w0 fun e w' =>e= .returned (.int .i64 (winK l p))∧Below w0.heap.size w0 w' :=by
 have M:=Mem.begin hg ⟨0,0⟩
 have hle:=hK.le
 have NL:=Lib.hid hK.len
 have HK:=Lib.hid hK
 have HD:Hid (winK l p=winK l p):=rfl
 unfold pat18
 clear hg hK
 go_enter Tryz.func64,Tryz.ntmps64
 go_wp2_with (with_reducible (refine wB (L:=[]) M ?_;clear M;intro za w1 M))
 go_loopg [5,10] kn (fun fu b i wr=> ∃ (j:Nat),j+fu=kn∧b= .bool ((l.take j).any (fun k=>p.window==k))∧i= .int .i64 j∧Mem (StaysB g w0) g w0 wr ⟨0,0⟩ (own za [.string p.var,.string p.type,.int .i64 p.wher.kind,.slice so sn scap,.int .i64 p.wher.left.kind,.int .i64 p.wher.left.vkind,.int .i64 p.wher.left.vint,.string p.wher.left.vtext,.string p.wher.left.var,.string p.wher.left.field,.int .i64 p.wher.right.kind,.int .i64 p.wher.right.vkind,.int .i64 p.wher.right.vint,.string p.wher.right.vtext,.string p.wher.right.var,.string p.wher.right.field,.int .i64 p.window,.int .i64 p.n] 61::[]))
 case atStart=>exact⟨0,by omega,rfl,rfl,M⟩
 case round=>
  clear M
  obtain⟨j,hj,rfl,rfl,M⟩:=hrel
  by_cases hlt:j<kn
  ·have hkl:j<l.length:=by have:=NL.out;omega
   obtain⟨ca,oa,rowa,hixa, -,hrra,hwa⟩:=SlF.rowAt (P:=Tryz.prog) HK.out (plainF_firm _) Tryz.underlying26 size_int (i:=j) hkl
   have e1:rowa=intC l[j]:=hrra
   subst e1
   have HI0:Hid (∀ wx,Below w0.heap.size w0 wx→wx.cell? ⟨ca,oa,none⟩=some (.int .i64 l[j])):=fun wx hb=>(hwa wx hb).1 0 _ rfl
   have HS:Hid ((l.take (j+1)).any (fun k=>p.window==k)=((l.take j).any (fun k=>p.window==k)||(p.window==l[j]))):=by
    show _=_
    rw[List.take_add_one,List.getElem?_eq_getElem hkl,List.any_append]
    simp
   clear hwa hrra
   generalize l[j]=kj at HI0 HS
   generalize (l.take j).any (fun k=>p.window==k)=b0 at HS ⊢
   cases b0 with
   |true=>
    go_wp2_with (with_reducible (first|refine wq M ?_|refine wC (HI0.out _ M.new) ?_))
    go_roundg (kn - (j+1))
    case measure=>omega
    case rel=>exact⟨j+1,by omega,by rw[HS.out];rfl,by go_num,M⟩
   |false=>
    go_wp2_with (with_reducible (first|refine wq M ?_|refine wC (HI0.out _ M.new) ?_))
    all_goals
     go_roundg (kn - (j+1))
     case measure=>omega
     case rel=>exact⟨j+1,by omega,by rw[HS.out];simp[*],by go_num,M⟩
  ·have hal:(l.take j).any (fun k=>p.window==k)=l.any (fun k=>p.window==k):=by rw[List.take_of_length_le (by have:=NL.out;omega)]
   have HV:Hid (winK l p=(if l.any (fun k=>p.window==k)=false∨(p.window=0∧p.n≠0)then 4 else if(p.window=1∧ ¬ (0≤p.n∧p.n≤1073741824))∨(p.window=2∧ ¬ (1≤p.n∧p.n≤120))then(2:Int)else 0)):=rfl
   rw[hal]
   generalize l.any (fun k=>p.window==k)=b0 at HV ⊢
   generalize p.window=pw at M HV ⊢
   generalize p.n=pn at M HV ⊢
   clear HD hal
   cases b0 with
   |false=>
    replace HV:=Lib.hid (HV.out.trans (if_pos (Or.inl rfl)))
    go_wp2_with (with_reducible refine wq M ?_)
    go_ret
    rw[HV.out]
    exact⟨rfl,M.new⟩
   |true=>
    by_cases h0:pw=0
    ·subst h0
     by_cases hn:pn=0
     ·have hnb:(pn !=0)=false:=by simpa using hn
      replace HV:=Lib.hid (HV.out.trans ((if_neg (by simp[hn])).trans (if_neg (by simp))))
      clear hn
      go_wp2_with (with_reducible refine wq M ?_)
      go_ret
      rw[HV.out]
      exact⟨rfl,M.new⟩
     ·have hnb:(pn !=0)=true:=by simpa using hn
      replace HV:=Lib.hid (HV.out.trans (if_pos (Or.inr ⟨rfl,hn⟩)))
      clear hn
      go_wp2_with (with_reducible refine wq M ?_)
      go_ret
      rw[HV.out]
      exact⟨rfl,M.new⟩
    ·have h0b:(pw==0)=false:=by simpa using h0
     replace HV:=Lib.hid (HV.out.trans (if_neg (by simp[h0])))
     by_cases h1:pw=1
     ·subst h1
      clear h0
      by_cases hr:0≤pn∧pn≤1073741824
      ·have d1:decide (pn<0)=false:=by simp;omega
       have d2:decide (1073741824<pn)=false:=by simp;omega
       replace HV:=Lib.hid (HV.out.trans (if_neg (by simp[hr])))
       clear hr
       go_wp2_with (with_reducible refine wq M ?_)
       go_ret
       rw[HV.out]
       exact⟨rfl,M.new⟩
      ·replace HV:=Lib.hid (HV.out.trans (if_pos (Or.inl ⟨rfl,hr⟩)))
       by_cases h2:pn<0
       ·have d1:decide (pn<0)=true:=by simpa using h2
        clear hr h2
        go_wp2_with (with_reducible refine wq M ?_)
        go_ret
        rw[HV.out]
        exact⟨rfl,M.new⟩
       ·have d1:decide (pn<0)=false:=by simpa using h2
        have d2:decide (1073741824<pn)=true:=by simp;omega
        clear hr h2
        go_wp2_with (with_reducible refine wq M ?_)
        go_ret
        rw[HV.out]
        exact⟨rfl,M.new⟩
     ·have h1b:(pw==1)=false:=by simpa using h1
      by_cases h2:pw=2
      ·subst h2
       clear h0 h1
       by_cases hr:1≤pn∧pn≤120
       ·have d1:decide (pn<1)=false:=by simp;omega
        have d2:decide (120<pn)=false:=by simp;omega
        replace HV:=Lib.hid (HV.out.trans (if_neg (by simp[hr])))
        clear hr
        go_wp2_with (with_reducible refine wq M ?_)
        go_ret
        rw[HV.out]
        exact⟨rfl,M.new⟩
       ·replace HV:=Lib.hid (HV.out.trans (if_pos (Or.inr ⟨rfl,hr⟩)))
        by_cases h2:pn<1
        ·have d1:decide (pn<1)=true:=by simpa using h2
         clear hr h2
         go_wp2_with (with_reducible refine wq M ?_)
         go_ret
         rw[HV.out]
         exact⟨rfl,M.new⟩
        ·have d1:decide (pn<1)=false:=by simpa using h2
         have d2:decide (120<pn)=true:=by simp;omega
         clear hr h2
         go_wp2_with (with_reducible refine wq M ?_)
         go_ret
         rw[HV.out]
         exact⟨rfl,M.new⟩
      ·have h2b:(pw==2)=false:=by simpa using h2
       replace HV:=Lib.hid (HV.out.trans (if_neg (by simp[h1,h2])))
       clear h0 h1 h2
       go_wp2_with (with_reducible refine wq M ?_)
       go_ret
       rw[HV.out]
       exact⟨rfl,M.new⟩
set_option maxRecDepth 8000 in
set_option maxHeartbeats 4000000 in
theorem empty_any(hg:g<w0.heap.size)(c:Cond)(hS:SlF S w0 14 CondF so sn scap c.subs):
  Calls Tryz.prog 65 #[.agg (cnd14 c.kind so sn scap c.left c.right).toArray] w0 fun e w' =>e= .returned (.bool (noC c))∧Below w0.heap.size w0 w' :=by
 have M:=Mem.begin hg ⟨0,0⟩
 have hle:=hS.le
 have NL:=Lib.hid hS.len
 have HV:Hid (noC c=(c.kind==0&&decide ((sn:Int)=0)&&opdZ c.left&&opdZ c.right)):=by show _=_;unfold noC;rw[NL.out];simp
 unfold cnd14
 clear hg hS
 go_enter Tryz.func65,Tryz.ntmps65
 go_wp2_with (with_reducible (first|(refine wB (L:=[]) M ?_;clear M;intro za w1 M)|refine wq M ?_))
 all_goals
  go_ret
  exact⟨ret_bool' (by rw[HV.out];simp[opdZ,valZ,emS, *]),M.new⟩
end
end Go.Proofs.YtncmghnhfipklaaGreatDoor
