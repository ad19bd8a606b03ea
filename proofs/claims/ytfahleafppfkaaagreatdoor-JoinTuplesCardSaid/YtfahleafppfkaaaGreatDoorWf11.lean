/-
  The walks of the program's Check, third part: conditions. Printed by pgc.py.
-/
import Derived.Test.YtfahleafppfkaaaGreatDoorWf10
import Derived.Test.YtfahleafppfkaaaGreatDoorWf08
import Derived.Test.YtfahleafppfkaaaGreatDoorWf01
import Derived.Test.YtfahleafppfkaaaGreatDoorWf02
namespace Go.Proofs.YtfahleafppfkaaaGreatDoor
open Go.RowKit
set_option linter.unusedVariables false
set_option linter.unusedSimpArgs false
def OpdFit(o:Opd):Prop:=o.vtext.size≤maxLen∧o.var.size≤maxLen
inductive CondFit:Cond→Prop where
 |mk {k:Int} {subs:List Cond} {l r:Opd} (hl:OpdFit l) (hr:OpdFit r) (hs: ∀ s∈subs,CondFit s):CondFit (.mk k subs l r)
theorem CondFit.left{c:Cond}(h:CondFit c):OpdFit c.left:=by cases h;assumption
theorem CondFit.right{c:Cond}(h:CondFit c):OpdFit c.right:=by cases h;assumption
theorem CondFit.subs{c:Cond}(h:CondFit c): ∀ s∈c.subs,CondFit s:=by cases h;assumption
theorem CondFit.ok{c:Cond}(h:CondFit c):CondOk c:=by
 induction h with
 |mk hl hr hs ih=>exact .mk hl.1 hr.1 ih
section
variable {g:Nat} {F H S:Nat→Prop} {ao:Option Addr} {n cap:Nat} {oo:Option Addr} {k ocap:Nat} {so:Option Addr} {sn scap:Nat} {w0:World} {ts:List Typ} {known:List Pat} {own:Typ} {zs zk nk:Nat} {f:MapF}
set_option maxRecDepth 8000 in
set_option maxHeartbeats 4000000 in
theorem test_any(hg:g<w0.heap.size)(hS:Scope F w0 zs zk nk f ts known ao n cap)(hts: ∀ t∈ts,TypGood t)(hO:SlF H w0 2 (plainF fldC) oo k ocap own.fields)(hown:TypGood own)(c:Cond)(hS2:SlF S w0 14 CondF so sn scap c.subs)(hok:CondFit c):
  Calls Tryz.prog 161 #[.pointer (some ⟨zs,0,none⟩),.agg (cnd14 c.kind so sn scap c.left c.right).toArray,.agg #[.string own.name,.slice oo k ocap]] w0 fun e w' =>e= .returned (.int .i64 (testE ts known own c))∧Below w0.heap.size w0 w' :=by
 have M:=Mem.begin hg ⟨0,0⟩
 have hle:=hS2.le
 have NL:=Lib.hid hS2.len
 have HSL:Hid (∀ wx,Below w0.heap.size w0 wx→Calls Tryz.prog 134 #[.pointer (some ⟨zs,0,none⟩),.agg (opdC c.left).toArray,.agg #[.string own.name,.slice oo k ocap]] wx (SidePost ts known own c.left wx)):=fun wx hbx=>
  side_any (Nat.lt_of_lt_of_le hg hbx.size) c.left hok.left.1 hok.left.2 (hS.below hbx) hts (hO.below (plainF_firm _) hbx) hown
 have HSR:Hid (∀ wx,Below w0.heap.size w0 wx→Calls Tryz.prog 134 #[.pointer (some ⟨zs,0,none⟩),.agg (opdC c.right).toArray,.agg #[.string own.name,.slice oo k ocap]] wx (SidePost ts known own c.right wx)):=fun wx hbx=>
  side_any (Nat.lt_of_lt_of_le hg hbx.size) c.right hok.right.1 hok.right.2 (hS.below hbx) hts (hO.below (plainF_firm _) hbx) hown
 unfold cnd14
 unfold opdC SidePost at HSL HSR
 clear hg hS hts hO hown hS2 hok
 by_cases hs:c.subs.length=0
 ·have hsn:sn=0:=by have:=NL.out;omega
  subst hsn
  by_cases h1:sideE ts known own c.left=0
  ·by_cases h2:sideE ts known own c.right=0
   ·have HV:=Lib.hid (testE_both hs h1 h2)
    simp only[h1,true_implies]at HSL
    simp only[h2,true_implies]at HSR
    generalize sideK ts known own c.left=kl at HV HSL
    generalize sideK ts known own c.right=kr at HV HSR
    clear hs h1 h2
    by_cases hkk:kl=kr
    ·subst hkk
     rw[if_pos rfl]at HV
     go_enter Tryz.func161,Tryz.ntmps161
     go_wp2_with (first|(with_reducible (first|(refine wB (L:=[]) M ?_;clear M;intro za w1 M)|(refine wB M ?_;clear M;intro zb w2 M)|refine wq M ?_))|(go_at_call 134;with_reducible refine(HSL.out _ M.new).mono ?_;rintro e w5 ⟨kk,rfl,hb5,hkk⟩;(replace hkk:=hkk.symm;subst hkk);replace M:=M.below hb5;clear hb5)|(go_at_call 134;with_reducible refine(HSR.out _ M.new).mono ?_;rintro e w5 ⟨kk,rfl,hb5,hkk⟩;(replace hkk:=hkk.symm;subst hkk);replace M:=M.below hb5;clear hb5))
     go_ret
     rw[HV.out]
     exact⟨rfl,M.new⟩
    ·have hkb:(kl !=kr)=true:=by simpa using hkk
     rw[if_neg hkk]at HV
     clear hkk
     go_enter Tryz.func161,Tryz.ntmps161
     go_wp2_with (first|(with_reducible (first|(refine wB (L:=[]) M ?_;clear M;intro za w1 M)|(refine wB M ?_;clear M;intro zb w2 M)|refine wq M ?_))|(go_at_call 134;with_reducible refine(HSL.out _ M.new).mono ?_;rintro e w5 ⟨kk,rfl,hb5,hkk⟩;(replace hkk:=hkk.symm;subst hkk);replace M:=M.below hb5;clear hb5)|(go_at_call 134;with_reducible refine(HSR.out _ M.new).mono ?_;rintro e w5 ⟨kk,rfl,hb5,hkk⟩;(replace hkk:=hkk.symm;subst hkk);replace M:=M.below hb5;clear hb5))
     go_ret
     rw[HV.out]
     exact⟨rfl,M.new⟩
   ·have HV:=Lib.hid (testE_right hs h1 h2)
    simp only[h1,true_implies]at HSL
    have hb:(sideE ts known own c.right !=0)=true:=by simpa using h2
    generalize sideE ts known own c.right=er at HV HSR hb
    clear hs h1 h2
    go_enter Tryz.func161,Tryz.ntmps161
    go_wp2_with (first|(with_reducible (first|(refine wB (L:=[]) M ?_;clear M;intro za w1 M)|(refine wB M ?_;clear M;intro zb w2 M)|refine wq M ?_))|(go_at_call 134;with_reducible refine(HSL.out _ M.new).mono ?_;rintro e w5 ⟨kk,rfl,hb5,hkk⟩;(replace hkk:=hkk.symm;subst hkk);replace M:=M.below hb5;clear hb5)|(go_at_call 134;with_reducible refine(HSR.out _ M.new).mono ?_;rintro e w5 ⟨kk,rfl,hb5,hkk⟩;(clear hkk);replace M:=M.below hb5;clear hb5))
    go_ret
    rw[HV.out]
    exact⟨rfl,M.new⟩
  ·have HV:=Lib.hid (testE_left hs h1)
   have hb:(sideE ts known own c.left !=0)=true:=by simpa using h1
   generalize sideE ts known own c.left=el at HV HSL hb
   clear hs h1
   go_enter Tryz.func161,Tryz.ntmps161
   go_wp2_with (first|(with_reducible (first|(refine wB (L:=[]) M ?_;clear M;intro za w1 M)|(refine wB M ?_;clear M;intro zb w2 M)|refine wq M ?_))|(go_at_call 134;with_reducible refine(HSL.out _ M.new).mono ?_;rintro e w5 ⟨kk,rfl,hb5,hkk⟩;(clear hkk);replace M:=M.below hb5;clear hb5))
   go_ret
   rw[HV.out]
   exact⟨rfl,M.new⟩
 ·have HV:=Lib.hid (testE_subs (ts:=ts) (known:=known) (own:=own) hs)
  have hsn:(0:Int)<sn:=by have:=NL.out;omega
  clear hs HSL HSR
  go_enter Tryz.func161,Tryz.ntmps161
  go_wp2_with (with_reducible (first|(refine wB (L:=[]) M ?_;clear M;intro za w1 M)|(refine wB M ?_;clear M;intro zb w2 M)|refine wq M ?_))
  go_ret
  rw[HV.out]
  exact⟨rfl,M.new⟩
set_option maxRecDepth 8000 in
set_option maxHeartbeats 4000000 in
theorem cond_deep(hg:g<w0.heap.size)(c:Cond)(d:Int)(hd:8<d)(hk:1≤c.kind∧c.kind≤7):
  Calls Tryz.prog 131 #[.pointer (some ⟨zs,0,none⟩),.agg (cnd14 c.kind so sn scap c.left c.right).toArray,.agg #[.string own.name,.slice oo k ocap],.int .i64 d] w0 (CndPostR (condR ts known own 0 c) w0):=by
 have M:=Mem.begin hg ⟨0,0⟩
 have HV:Hid (condR ts known own 0 c=(0,14)):=by show _=_;unfold condR;rw[if_pos hk]
 rw[HV.out]
 have k1:decide (c.kind<1)=false:=by simp;omega
 have k2:decide (7<c.kind)=false:=by simp;omega
 unfold cnd14
 clear hg hk
 go_enter Tryz.func131,Tryz.ntmps131
 go_wp2_with (with_reducible (first|(refine wB (L:=[]) M ?_;clear M;intro za w1 M)|(refine wB M ?_;clear M;intro zb w2 M)|refine wq M ?_))
 go_ret2
 exact cnd_out M.new rfl (fun h=>absurd h (by decide))
set_option maxRecDepth 8000 in
set_option maxHeartbeats 4000000 in
theorem cond_kind(hg:g<w0.heap.size)(c:Cond)(d:Int)(q:Nat)(hk: ¬ (1≤c.kind∧c.kind≤7)):
  Calls Tryz.prog 131 #[.pointer (some ⟨zs,0,none⟩),.agg (cnd14 c.kind so sn scap c.left c.right).toArray,.agg #[.string own.name,.slice oo k ocap],.int .i64 d] w0 (CndPostR (condR ts known own q c) w0):=by
 have M:=Mem.begin hg ⟨0,0⟩
 have HV:Hid (condR ts known own q c=(0,3)):=by show _=_;cases q<;>(unfold condR;rw[if_neg hk])
 rw[HV.out]
 unfold cnd14
 by_cases h1:c.kind<1
 ·have k1:decide (c.kind<1)=true:=by simpa using h1
  clear hg hk h1
  go_enter Tryz.func131,Tryz.ntmps131
  go_wp2_with (with_reducible (first|(refine wB (L:=[]) M ?_;clear M;intro za w1 M)|(refine wB M ?_;clear M;intro zb w2 M)|refine wq M ?_))
  go_ret2
  exact cnd_out M.new rfl (fun h=>absurd h (by decide))
 ·have k1:decide (c.kind<1)=false:=by simpa using h1
  have k2:decide (7<c.kind)=true:=by simp;omega
  clear hg hk h1
  go_enter Tryz.func131,Tryz.ntmps131
  go_wp2_with (with_reducible (first|(refine wB (L:=[]) M ?_;clear M;intro za w1 M)|(refine wB M ?_;clear M;intro zb w2 M)|refine wq M ?_))
  go_ret2
  exact cnd_out M.new rfl (fun h=>absurd h (by decide))
set_option maxRecDepth 8000 in
set_option maxHeartbeats 4000000 in
theorem cond_test(hg:g<w0.heap.size)(hS:Scope F w0 zs zk nk f ts known ao n cap)(hts: ∀ t∈ts,TypGood t)(hO:SlF H w0 2 (plainF fldC) oo k ocap own.fields)(hown:TypGood own)(c:Cond)(hS2:SlF S w0 14 CondF so sn scap c.subs)(hok:CondFit c)(d:Int)(q:Nat)(hd:1≤d∧d≤8)(hk:4≤c.kind∧c.kind≤7):
  Calls Tryz.prog 131 #[.pointer (some ⟨zs,0,none⟩),.agg (cnd14 c.kind so sn scap c.left c.right).toArray,.agg #[.string own.name,.slice oo k ocap],.int .i64 d] w0 (CndPostR (condR ts known own (q+1) c) w0):=by
 have M:=Mem.begin hg ⟨0,0⟩
 rw[condR_test hk]
 have hle:=hS2.le
 have HTS:Hid (∀ wx,Below w0.heap.size w0 wx→Calls Tryz.prog 161 #[.pointer (some ⟨zs,0,none⟩),.agg (cnd14 c.kind so sn scap c.left c.right).toArray,.agg #[.string own.name,.slice oo k ocap]] wx fun e w' =>e= .returned (.int .i64 (testE ts known own c))∧Below wx.heap.size wx w'):=fun wx hbx=>
  test_any (Nat.lt_of_lt_of_le hg hbx.size) (hS.below hbx) hts (hO.below (plainF_firm _) hbx) hown c (hS2.below condF_firm hbx) hok
 have k1:decide (c.kind<1)=false:=by simp;omega
 have k2:decide (7<c.kind)=false:=by simp;omega
 have k3:decide (4≤c.kind)=true:=by simp;omega
 have k4:decide (8<d)=false:=by simp;omega
 unfold cnd14 at HTS ⊢
 generalize testE ts known own c=te at HTS ⊢
 clear hg hS hts hO hown hS2 hok hk hd
 go_enter Tryz.func131,Tryz.ntmps131
 go_wp2_with (first|(with_reducible (first|(refine wB (L:=[]) M ?_;clear M;intro za w1 M)|(refine wB M ?_;clear M;intro zb w2 M)|refine wq M ?_))|(go_at_call 161;with_reducible refine(HTS.out _ M.new).mono ?_;rintro e w5 ⟨rfl,hb5⟩;replace M:=M.below hb5;clear hb5))
 go_ret2
 exact cnd_out M.new rfl (fun _=>rfl)
set_option maxRecDepth 8000 in
set_option maxHeartbeats 8000000 in
theorem cond_tree(hg:g<w0.heap.size)(c:Cond)(hS2:SlF S w0 14 CondF so sn scap c.subs)(d:Int)(q0:Nat)(hd:1≤d∧d≤8)(hk:1≤c.kind∧c.kind≤3)
  (hI: ∀ (j:Nat) (h:j<c.subs.length) (so:Option Addr) (sn scap:Nat) (wx:World),Below w0.heap.size w0 wx→SlF S wx 14 CondF so sn scap c.subs[j].subs→Calls Tryz.prog 131 #[.pointer (some ⟨zs,0,none⟩),.agg (cnd14 c.subs[j].kind so sn scap c.subs[j].left c.subs[j].right).toArray,.agg #[.string own.name,.slice oo k ocap],.int .i64 (d+1)] wx (CndPostR (condR ts known own q0 c.subs[j]) wx)):
  Calls Tryz.prog 131 #[.pointer (some ⟨zs,0,none⟩),.agg (cnd14 c.kind so sn scap c.left c.right).toArray,.agg #[.string own.name,.slice oo k ocap],.int .i64 d] w0 (CndPostR (condR ts known own (q0+1) c) w0):=by
 have M:=Mem.begin hg ⟨0,0⟩
 rw[condR_tree hk]
 have hle:=hS2.le
 have NL:=Lib.hid hS2.len
 have hw:IntKind.i64.wrap (d+1)=d+1:=IntWalk.i64_in _ (by omega)
 have k1:decide (c.kind<1)=false:=by simp;omega
 have k2:decide (7<c.kind)=false:=by simp;omega
 have k3:decide (4≤c.kind)=false:=by simp;omega
 have k4:decide (8<d)=false:=by simp;omega
 have HF:Hid (condForm c=(!opdZ c.left||!opdZ c.right||(c.kind==3&&decide ((sn:Int)≠1))||(c.kind !=3&&decide ((sn:Int)<2)))):=by
  show _=_
  unfold condForm
  rw[←NL.out]
  have e1:decide (sn≠1)=decide ((sn:Int)≠1):=by rw[decide_eq_decide];omega
  have e2:decide (sn<2)=decide ((sn:Int)<2):=by rw[decide_eq_decide];omega
  rw[e1,e2]
 have HS:=Lib.hid hS2
 have HI:=Lib.hid hI
 have HB:=Lib.hid (condR_bound (ts:=ts) (known:=known) (own:=own) q0)
 generalize condR ts known own q0=q at HI HB ⊢
 clear hg hS2 hI hd
 by_cases hf:condForm c=true
 ·rw[if_pos hf]
  rw[HF.out]at hf
  have HFT:=Lib.hid hf
  unfold cnd14
  clear hf HF HI HB hk
  generalize c.kind=ck at k1 k2 k3 HFT
  by_cases h3:ck=3
  ·subst h3
   go_enter Tryz.func131,Tryz.ntmps131
   go_wp2_with (with_reducible (first|(refine wB (L:=[]) M ?_;clear M;intro za w1 M)|(refine wB M ?_;clear M;intro zb w2 M)|refine wq M ?_))
   all_goals first
    |(go_ret2;exact cnd_out M.new rfl (fun h=>absurd h (by decide)))
    |(exfalso;have:=HFT.out;simp[opdZ,valZ,emS, *]at this;done)
    |(exfalso;have:=HFT.out;simp[opdZ,valZ,emS, *]at this;omega)
  ·have h3a:(ck==3)=false:=by simpa using h3
   have h3b:(ck !=3)=true:=by simpa using h3
   clear h3
   go_enter Tryz.func131,Tryz.ntmps131
   go_wp2_with (with_reducible (first|(refine wB (L:=[]) M ?_;clear M;intro za w1 M)|(refine wB M ?_;clear M;intro zb w2 M)|refine wq M ?_))
   all_goals first
    |(go_ret2;exact cnd_out M.new rfl (fun h=>absurd h (by decide)))
    |(exfalso;have:=HFT.out;simp[opdZ,valZ,emS, *]at this;done)
    |(exfalso;have:=HFT.out;simp[opdZ,valZ,emS, *]at this;omega)
 ·rw[if_neg hf]
  rw[HF.out]at hf
  have hz:opdZ c.left=true∧opdZ c.right=true:=by
   constructor
   ·cases hq:opdZ c.left with
    |true=>rfl
    |false=>exact absurd (by simp[hq]) hf
   ·cases hq:opdZ c.right with
    |true=>rfl
    |false=>exact absurd (by simp[hq]) hf
  obtain⟨hl,hr⟩:=hz
  simp only[opdZ,valZ,emS,Bool.and_eq_true,beq_iff_eq,List.isEmpty_iff]at hl hr
  obtain⟨⟨⟨l1,⟨l2,l3⟩,l4⟩,l5⟩,l6⟩:=hl
  obtain⟨⟨⟨r1,⟨r2,r3⟩,r4⟩,r5⟩,r6⟩:=hr
  have hn:(c.kind=3→(sn:Int)=1)∧(c.kind≠3→ ¬ (sn:Int)<2):=by
   refine⟨fun h=>Classical.byContradiction fun h2=>hf ?_,fun h h2=>hf ?_⟩
   ·simp[h];omega
   ·simp[h,h2]
  obtain⟨hn1,hn2⟩:=hn
  have HN:Hid ((c.kind=3→sn=1)∧(c.kind≠3→2≤sn)):=⟨fun h=>by have:=hn1 h;omega,fun h=>by have:=hn2 h;omega⟩
  unfold cnd14
  rw[l1,l2,l3,r1,r2,r3]
  clear hf HF hn1 hn2 hk
  generalize c.kind=ck at k1 k2 k3 HN
  by_cases h3:ck=3
  ·subst h3
   have hsn:(sn:Int)=1:=by have:=HN.out.1 rfl;omega
   clear HN
   go_enter Tryz.func131,Tryz.ntmps131
   go_wp2_with (with_reducible (first|(refine wB (L:=[]) M ?_;clear M;intro za w1 M)|(refine wB M ?_;clear M;intro zb w2 M)|refine wq M ?_))
   go_loopg [10,67] sn (fun fu s i wr=> ∃ (j:Nat) (t:Int),j+fu=sn∧s= .int .i64 t∧i= .int .i64 j∧(0≤t∧t≤12)∧Mem (StaysB g w0) g w0 wr ⟨0,0⟩ (Go.Proofs.YtfahleafppfkaaaGreatDoor.own zb [.string own.name,.slice oo k ocap] 69::Go.Proofs.YtfahleafppfkaaaGreatDoor.own za [.int .i64 3,.slice so sn scap,.int .i64 0,.int .i64 0,.int .i64 0,.string c.left.vtext,.string c.left.var,.string c.left.field,.int .i64 0,.int .i64 0,.int .i64 0,.string c.right.vtext,.string c.right.var,.string c.right.field] 76::[])∧Hid (condL q (c.subs.drop j) t=condL q c.subs 0))
   case atStart=>exact⟨0,0,by omega,rfl,rfl,by decide,M,rfl⟩
   case round=>
    clear M
    obtain⟨j,t,hj,rfl,rfl,⟨ht0,ht12⟩,M,HE⟩:=hrel
    by_cases hlt:j<sn
    ·have hkl:j<c.subs.length:=by have:=NL.out;omega
     obtain⟨ca,oa,rowa,hixa, -,hrra,hwa⟩:=SlF.rowAt (P:=Tryz.prog) HS.out condF_firm Tryz.underlying70 size_cnd (i:=j) hkl
     obtain⟨so2,sn2,sc2,e1,hS2⟩:=hrra.open14
     subst e1
     have HR:Hid (∀ wx,Below w0.heap.size w0 wx→wx.rangeAt ca oa (cnd14 c.subs[j].kind so2 sn2 sc2 c.subs[j].left c.subs[j].right)):=fun wx hb=>(hwa wx hb).1
     have HC:Hid (∀ wx,Below w0.heap.size w0 wx→Calls Tryz.prog 131 #[.pointer (some ⟨zs,0,none⟩),.agg (cnd14 c.subs[j].kind so2 sn2 sc2 c.subs[j].left c.subs[j].right).toArray,.agg #[.string own.name,.slice oo k ocap],.int .i64 (d+1)] wx (CndPostR (q c.subs[j]) wx)):=fun wx hb=>HI.out j hkl _ _ _ wx hb (hS2.below condF_firm hb)
     have HM:=Lib.hid (HE.out.symm.trans (condL_more (q:=q) (s:=t) hkl))
     have HBB:=Lib.hid (HB.out c.subs[j])
     clear hwa hrra hS2 HE
     generalize q c.subs[j]=r at HC HM HBB
     generalize c.subs[j]=cs at HR HC
     obtain⟨rk,re⟩:=r
     unfold cnd14 at HR HC
     unfold CndPostR at HC
     by_cases hre:re=0
     ·subst hre
      have hrk:0≤rk∧rk≤12:=HBB.out rfl
      simp only[true_implies]at HC
      have hw2:IntKind.i64.wrap (t+rk)=t+rk:=IntWalk.i64_in _ (by omega)
      obtain⟨hrk0,hrk12⟩:=hrk
      by_cases h12:12<t+rk
      ·have HM2:Hid (condL q c.subs 0=(0,1)):=by show _=_;rw[HM.out,if_neg (by simp),if_pos h12]
       have hd12:decide (12<t+rk)=true:=by simpa using h12
       clear HM HBB
       go_wp2_with (first|(with_reducible (first|(refine wV M ?_;clear M;intro zx w M)|refine wq M ?_|(refine wS M ?_;clear M;intro w M)|refine wA (HR.out _ M.new) ?_))|(go_at_call 131;with_reducible refine(HC.out _ M.new).mono ?_;rintro e w5 ⟨kk,rfl,hb5,hkk⟩;replace hkk:=hkk.symm;subst hkk;replace M:=M.below hb5;clear hb5))
       go_ret2
       exact cnd_out M.new (by rw[HM2.out]) (fun h=>absurd h (by decide))
      ·have HM2:Hid (condL q (c.subs.drop (j+1)) (t+rk)=condL q c.subs 0):=by show _=_;rw[HM.out,if_neg (by simp),if_neg h12]
       have hd12:decide (12<t+rk)=false:=by simpa using h12
       clear HM HBB
       go_wp2_with (first|(with_reducible (first|(refine wV M ?_;clear M;intro zx w M)|refine wq M ?_|(refine wS M ?_;clear M;intro w M)|refine wA (HR.out _ M.new) ?_))|(go_at_call 131;with_reducible refine(HC.out _ M.new).mono ?_;rintro e w5 ⟨kk,rfl,hb5,hkk⟩;replace hkk:=hkk.symm;subst hkk;replace M:=M.below hb5;clear hb5))
       go_roundg (sn - (j+1))
       case measure=>omega
       case rel=>exact⟨j+1,t+rk,by omega,by go_num,by go_num,⟨by omega,by omega⟩,M.drop,HM2⟩
     ·have hrb:(re !=0)=true:=by simpa using hre
      have HM2:Hid (condL q c.subs 0=(0,re)):=by show _=_;rw[HM.out,if_pos hre]
      have HRE:=Lib.hid hre
      clear HM HBB hre
      go_wp2_with (first|(with_reducible (first|(refine wV M ?_;clear M;intro zx w M)|refine wq M ?_|(refine wS M ?_;clear M;intro w M)|refine wA (HR.out _ M.new) ?_))|(go_at_call 131;with_reducible refine(HC.out _ M.new).mono ?_;rintro e w5 ⟨kk,rfl,hb5, -⟩;replace M:=M.below hb5;clear hb5))
      go_ret2
      exact cnd_out M.new (by rw[HM2.out]) (fun h=>absurd h HRE.out)
    ·have HM2:Hid (condL q c.subs 0=(t,0)):=by
      show _=_
      rw[←HE.out]
      exact condL_end (by have:=NL.out;omega)
     clear HE
     go_wp2_with (with_reducible (first|refine wq M ?_|(refine wS M ?_;clear M;intro w M)|(refine wV M ?_;clear M;intro z w M)|(refine wR M ?_;clear M;intro q w M)))
     go_ret2
     exact cnd_out M.new (by rw[HM2.out]) (fun _=>by rw[HM2.out])
  ·have h3a:(ck==3)=false:=by simpa using h3
   have h3b:(ck !=3)=true:=by simpa using h3
   have hsn:decide ((sn:Int)<2)=false:=by have:=HN.out.2 h3;simp;omega
   clear HN h3
   go_enter Tryz.func131,Tryz.ntmps131
   go_wp2_with (with_reducible (first|(refine wB (L:=[]) M ?_;clear M;intro za w1 M)|(refine wB M ?_;clear M;intro zb w2 M)|refine wq M ?_))
   go_loopg [10,67] sn (fun fu s i wr=> ∃ (j:Nat) (t:Int),j+fu=sn∧s= .int .i64 t∧i= .int .i64 j∧(0≤t∧t≤12)∧Mem (StaysB g w0) g w0 wr ⟨0,0⟩ (Go.Proofs.YtfahleafppfkaaaGreatDoor.own zb [.string own.name,.slice oo k ocap] 69::Go.Proofs.YtfahleafppfkaaaGreatDoor.own za [.int .i64 ck,.slice so sn scap,.int .i64 0,.int .i64 0,.int .i64 0,.string c.left.vtext,.string c.left.var,.string c.left.field,.int .i64 0,.int .i64 0,.int .i64 0,.string c.right.vtext,.string c.right.var,.string c.right.field] 76::[])∧Hid (condL q (c.subs.drop j) t=condL q c.subs 0))
   case atStart=>exact⟨0,0,by omega,rfl,rfl,by decide,M,rfl⟩
   case round=>
    clear M
    obtain⟨j,t,hj,rfl,rfl,⟨ht0,ht12⟩,M,HE⟩:=hrel
    by_cases hlt:j<sn
    ·have hkl:j<c.subs.length:=by have:=NL.out;omega
     obtain⟨ca,oa,rowa,hixa, -,hrra,hwa⟩:=SlF.rowAt (P:=Tryz.prog) HS.out condF_firm Tryz.underlying70 size_cnd (i:=j) hkl
     obtain⟨so2,sn2,sc2,e1,hS2⟩:=hrra.open14
     subst e1
     have HR:Hid (∀ wx,Below w0.heap.size w0 wx→wx.rangeAt ca oa (cnd14 c.subs[j].kind so2 sn2 sc2 c.subs[j].left c.subs[j].right)):=fun wx hb=>(hwa wx hb).1
     have HC:Hid (∀ wx,Below w0.heap.size w0 wx→Calls Tryz.prog 131 #[.pointer (some ⟨zs,0,none⟩),.agg (cnd14 c.subs[j].kind so2 sn2 sc2 c.subs[j].left c.subs[j].right).toArray,.agg #[.string own.name,.slice oo k ocap],.int .i64 (d+1)] wx (CndPostR (q c.subs[j]) wx)):=fun wx hb=>HI.out j hkl _ _ _ wx hb (hS2.below condF_firm hb)
     have HM:=Lib.hid (HE.out.symm.trans (condL_more (q:=q) (s:=t) hkl))
     have HBB:=Lib.hid (HB.out c.subs[j])
     clear hwa hrra hS2 HE
     generalize q c.subs[j]=r at HC HM HBB
     generalize c.subs[j]=cs at HR HC
     obtain⟨rk,re⟩:=r
     unfold cnd14 at HR HC
     unfold CndPostR at HC
     by_cases hre:re=0
     ·subst hre
      have hrk:0≤rk∧rk≤12:=HBB.out rfl
      simp only[true_implies]at HC
      have hw2:IntKind.i64.wrap (t+rk)=t+rk:=IntWalk.i64_in _ (by omega)
      obtain⟨hrk0,hrk12⟩:=hrk
      by_cases h12:12<t+rk
      ·have HM2:Hid (condL q c.subs 0=(0,1)):=by show _=_;rw[HM.out,if_neg (by simp),if_pos h12]
       have hd12:decide (12<t+rk)=true:=by simpa using h12
       clear HM HBB
       go_wp2_with (first|(with_reducible (first|(refine wV M ?_;clear M;intro zx w M)|refine wq M ?_|(refine wS M ?_;clear M;intro w M)|refine wA (HR.out _ M.new) ?_))|(go_at_call 131;with_reducible refine(HC.out _ M.new).mono ?_;rintro e w5 ⟨kk,rfl,hb5,hkk⟩;replace hkk:=hkk.symm;subst hkk;replace M:=M.below hb5;clear hb5))
       go_ret2
       exact cnd_out M.new (by rw[HM2.out]) (fun h=>absurd h (by decide))
      ·have HM2:Hid (condL q (c.subs.drop (j+1)) (t+rk)=condL q c.subs 0):=by show _=_;rw[HM.out,if_neg (by simp),if_neg h12]
       have hd12:decide (12<t+rk)=false:=by simpa using h12
       clear HM HBB
       go_wp2_with (first|(with_reducible (first|(refine wV M ?_;clear M;intro zx w M)|refine wq M ?_|(refine wS M ?_;clear M;intro w M)|refine wA (HR.out _ M.new) ?_))|(go_at_call 131;with_reducible refine(HC.out _ M.new).mono ?_;rintro e w5 ⟨kk,rfl,hb5,hkk⟩;replace hkk:=hkk.symm;subst hkk;replace M:=M.below hb5;clear hb5))
       go_roundg (sn - (j+1))
       case measure=>omega
       case rel=>exact⟨j+1,t+rk,by omega,by go_num,by go_num,⟨by omega,by omega⟩,M.drop,HM2⟩
     ·have hrb:(re !=0)=true:=by simpa using hre
      have HM2:Hid (condL q c.subs 0=(0,re)):=by show _=_;rw[HM.out,if_pos hre]
      have HRE:=Lib.hid hre
      clear HM HBB hre
      go_wp2_with (first|(with_reducible (first|(refine wV M ?_;clear M;intro zx w M)|refine wq M ?_|(refine wS M ?_;clear M;intro w M)|refine wA (HR.out _ M.new) ?_))|(go_at_call 131;with_reducible refine(HC.out _ M.new).mono ?_;rintro e w5 ⟨kk,rfl,hb5, -⟩;replace M:=M.below hb5;clear hb5))
      go_ret2
      exact cnd_out M.new (by rw[HM2.out]) (fun h=>absurd h HRE.out)
    ·have HM2:Hid (condL q c.subs 0=(t,0)):=by
      show _=_
      rw[←HE.out]
      exact condL_end (by have:=NL.out;omega)
     clear HE
     go_wp2_with (with_reducible (first|refine wq M ?_|(refine wS M ?_;clear M;intro w M)|(refine wV M ?_;clear M;intro z w M)|(refine wR M ?_;clear M;intro q w M)))
     go_ret2
     exact cnd_out M.new (by rw[HM2.out]) (fun _=>by rw[HM2.out])
theorem cond_any(hg:g<w0.heap.size)(hS:Scope F w0 zs zk nk f ts known ao n cap)(hts: ∀ t∈ts,TypGood t)(hO:SlF H w0 2 (plainF fldC) oo k ocap own.fields)(hown:TypGood own):
  ∀ (q:Nat) (d:Int),d+q=9→1≤d→ ∀ (c:Cond) (so:Option Addr) (sn scap:Nat) (wx:World),Below w0.heap.size w0 wx→SlF S wx 14 CondF so sn scap c.subs→CondFit c→
   Calls Tryz.prog 131 #[.pointer (some ⟨zs,0,none⟩),.agg (cnd14 c.kind so sn scap c.left c.right).toArray,.agg #[.string own.name,.slice oo k ocap],.int .i64 d] wx (CndPostR (condR ts known own q c) wx):=by
 intro q
 induction q with
 |zero=>
  intro d hd h1 c so sn scap wx hb hS2 hok
  have hg' :=Nat.lt_of_lt_of_le hg hb.size
  by_cases hk:1≤c.kind∧c.kind≤7
  ·exact cond_deep hg' c d (by omega) hk
  ·exact cond_kind hg' c d 0 hk
 |succ q ih=>
  intro d hd h1 c so sn scap wx hb hS2 hok
  have hg' :=Nat.lt_of_lt_of_le hg hb.size
  by_cases hk:1≤c.kind∧c.kind≤7
  ·by_cases h4:4≤c.kind
   ·exact cond_test hg' (hS.below hb) hts (hO.below (plainF_firm _) hb) hown c hS2 hok d q (by omega) ⟨h4,hk.2⟩
   ·exact cond_tree hg' c hS2 d q (by omega) (by omega)
     (fun j hj so2 sn2 sc2 wy hby hS3=>ih (d+1) (by omega) (by omega) c.subs[j] so2 sn2 sc2 wy (hb.trans (hby.mono hb.size)) hS3 (hok.subs _ (List.getElem_mem hj)))
  ·exact cond_kind hg' c d (q+1) hk
end
end Go.Proofs.YtfahleafppfkaaaGreatDoor
/-
  The walks of sift: a view of events; a field; a side of a comparison.
-/
namespace Go.Proofs.YtfahleafppfkaaaGreatDoor
open Go.RowKit
set_option linter.unusedVariables false
set_option linter.unusedSimpArgs false
theorem stVal:StT Tryz.prog 72 3:=⟨by kernel_rfl,_,Tryz.underlying72,rfl⟩
theorem zeVal:ZeroT Tryz.prog 72 [.int .i64 0,.int .i64 0,.string ByteArray.empty]:=⟨by kernel_rfl⟩
theorem oneStrs:OneT Tryz.prog 125:=⟨by kernel_rfl,_,Tryz.underlying125,rfl⟩
theorem oneEves:OneT Tryz.prog 26:=⟨by kernel_rfl,_,Tryz.underlying26,rfl⟩
instance iStVal:StI Tryz.prog 72 3:=⟨stVal⟩
instance iZeVal:ZeI Tryz.prog 72 [.int .i64 0,.int .i64 0,.string ByteArray.empty]:=⟨zeVal⟩
instance iOneStrs:OneI Tryz.prog 125:=⟨oneStrs⟩
instance iOneEves:OneI Tryz.prog 26:=⟨oneEves⟩
structure VA where
 a1:Option Addr
 n1:Nat
 c1:Nat
 p:Option Addr
 q:Nat
 r:Nat
 an:Option Addr
 nn:Nat
 cn:Nat
 a3:Option Addr
 n3:Nat
 c3:Nat
def VA.cells(v:VA)(x:Evt):List Value:=[.slice v.a1 v.n1 v.c1,.int .i64 x.number,.int .i64 x.type,.int .i64 x.start,.int .i64 x.stop,.slice v.p v.q v.r,.slice v.an v.nn v.cn,.slice v.a3 v.n3 v.c3]
structure View (F:Nat→Prop) (w:World) (zv:Nat) (v:VA) (ts:List Typ) (names:List ByteArray) (known:List Eve) (own:Eve):Prop where
 lt:zv<w.heap.size
 cells:w.rangeAt zv 0 (v.cells own.e)
 types:SlF F w 2 typF v.a1 v.n1 v.c1 ts
 vals:SlF F w 3 (plainF valC) v.p v.q v.r own.vals
 named:SlF F w 1 wordF v.an v.nn v.cn names
 knows:SlF F w 5 eveF v.a3 v.n3 v.c3 known
 okT: ∀ t∈ts,typOk t
 okO:eveOk own
 okK: ∀ x∈known,eveOk x
variable {F G:Nat→Prop} {w0:World} {zv:Nat} {v:VA} {ts:List Typ} {wh:List Pat} {names:List ByteArray} {known:List Eve} {own:Eve}
theorem View.below{w' :World}(h:View F w0 zv v ts names known own)(hb:Below w0.heap.size w0 w'):View F w' zv v ts names known own:=
 ⟨Nat.lt_of_lt_of_le h.lt hb.size,fun j x hj=>by rw[(bcell hb).1 _ _ h.lt];exact h.cells j x hj,h.types.below typF_firm hb,h.vals.below (plainF_firm _) hb,h.named.below wordF_firm hb,h.knows.below eveF_firm hb,h.okT,h.okO,h.okK⟩
def valR3(x:Val):Value:= .agg #[.int .i64 x.kind,.int .i64 x.int,.string x.text]
set_option maxRecDepth 8000 in
set_option maxHeartbeats 4000000 in
theorem look_any(V:View F w0 zv v ts names known own)(x:Eve)(p:Option Addr)(q r:Nat)(hv:SlF G w0 3 (plainF valC) p q r x.vals)(hok:eveOk x)(hx:EvGood ts x)(name:ByteArray)(hf:fldAt (evT ts x).fields name<(evT ts x).fields.length):
  Calls Tryz.prog 156 #[.pointer (some ⟨zv,0,none⟩),.agg #[.int .i64 x.e.number,.int .i64 x.e.type,.int .i64 x.e.start,.int .i64 x.e.stop,.slice p q r],.string name] w0 fun e w' =>e= .returned (valR3 (fldV ts x name))∧Below w0.heap.size w0 w' :=by
 have M:=Mem.begin V.lt ⟨0,0⟩
 have HV0:Hid (∀ wx,Below w0.heap.size w0 wx→wx.cell? ⟨zv,0,none⟩=some (.slice v.a1 v.n1 v.c1)):=fun wx hb=>(V.below hb).cells 0 _ rfl
 have htl:x.e.type.toNat<ts.length:=by have:=hx.lo;have:=hx.hi;omega
 have hte:evT ts x=ts[x.e.type.toNat]:=by unfold evT;simp[List.getD,List.getElem?_eq_getElem htl]
 obtain⟨ct,ot,rowt,hixt, -,hrrt,hwt⟩:=SlF.rowAt (P:=Tryz.prog) V.types typF_firm Tryz.underlying22 size_typ (i:=x.e.type.toNat) htl
 rw[show((x.e.type.toNat:Nat):Int)=x.e.type from Int.toNat_of_nonneg hx.lo]at hixt
 obtain⟨p1,q1,s1,et,ut⟩:=hrrt
 subst et
 have hto:=V.okT _ (List.getElem_mem htl)
 have hfl:fldAt (evT ts x).fields name<x.vals.length:=by rw[hx.len];exact hf
 obtain⟨cv,ov,rowv,hixv, -,hrrv,hwv⟩:=SlF.rowAt (P:=Tryz.prog) hv (plainF_firm _) Tryz.underlying63 size_value (i:=fldAt (evT ts x).fields name) hfl
 have ev:rowv=valC x.vals[fldAt (evT ts x).fields name]:=hrrv
 have hfv:fldV ts x name=x.vals[fldAt (evT ts x).fields name]:=by unfold fldV;simp[List.getD,List.getElem?_eq_getElem hfl]
 rw[←hfv]at ev
 subst ev
 have HFD:Hid (∀ wx,Below w0.heap.size w0 wx→Calls Tryz.prog 132 #[.agg #[.string ts[x.e.type.toNat].name,.slice p1 q1 s1],.string name] wx fun e w' =>e= .returned (.tuple #[.int .i64 (fldAt (evT ts x).fields name:Nat),.int .i64 (fieldK (evT ts x).name (evT ts x).fields name),.int .i64 0])∧Below wx.heap.size wx w'):=fun wx hb=>by
  have h0:fieldE (evT ts x).name (evT ts x).fields name=0:=by unfold fieldE;rw[if_pos hx.ty,if_pos hf]
  have h1:=field_any ts[x.e.type.toNat].name p1 q1 s1 ts[x.e.type.toNat].fields name wx hto.1 (fld_R (ut.below (plainF_firm _) hb) hto.2)
  rw[←hte,h0,show fieldX (evT ts x).name (evT ts x).fields name=(fldAt (evT ts x).fields name:Nat)by unfold fieldX;rw[if_pos h0]]at h1
  rw[←hte]
  exact h1
 have HR:=Lib.hid (fun wx hb=>(hwt wx hb).1)
 have HRV:=Lib.hid (fun wx hb=>(hwv wx hb).1)
 generalize fldV ts x name=y at HRV ⊢
 generalize fieldK (evT ts x).name (evT ts x).fields name=fk at HFD
 generalize fldAt (evT ts x).fields name=fa at HFD hixv
 generalize ts[x.e.type.toNat]=t at HFD HR
 unfold typC at HR
 unfold valC at HRV
 unfold valR3
 clear V hv hok hx hf htl hte hwt ut hto hfl hwv hrrv hfv
 go_enter Tryz.func156,Tryz.ntmps156
 go_wp2_with (with_reducible (first|(refine wB (L:=[]) M ?_;clear M;intro za w1 M)|(refine wV M ?_;clear M;intro zr w M)))
 (refine wp_region_any (by kernel_rfl) ?_;(try(change wpAny _ _ _ _ _ _ _ (World.drew _)));replace M:=M.drew;generalize World.drew _=w at M ⊢;have S:=St.o;((refine tk 0 (v:=?_) rfl (by kernel_rfl) rfl ?_ ?_;rotate_left;focus(intro w;go_simp;try with_reducible rfl));(try go_simp);(refine tk 1 (v:=?_) rfl (by kernel_rfl) rfl ?_ ?_;rotate_left;focus(intro w;go_simp;try with_reducible rfl));(try go_simp);(refine tk 2 (v:=?_) rfl (by kernel_rfl) rfl ?_ ?_;rotate_left;focus(intro w;go_simp;try with_reducible rfl));(try go_simp);(refine tk 4 (v:=?_) rfl (by kernel_rfl) rfl ?_ ?_;rotate_left;focus(intro w;go_simp;try with_reducible rfl));(try go_simp);(refine tk 8 (v:=?_) rfl (by kernel_rfl) rfl ?_ ?_;rotate_left;focus(intro w;go_simp;try with_reducible rfl));(try go_simp);replace S:=S.add 279;refine rd2 3 5 (by kernel_rfl) rfl rfl ?_ rfl rfl ?_<;>intro K hK);all_goals(first|(refine o_dst (some 14) ?_;(refine q_cellat (HV0.out _ M.new) ?_);(all_goals(refine hK _ _ ?_;clear hK K;replace S:=S.add 8)))|(refine o_dst (some 16) ?_;(refine q_get M (by exact rfl) ?_);(all_goals(refine hK _ _ ?_;clear hK K;replace S:=S.add 32))));all_goals(first|(replace S:St 287:=S;refine rd1 5 (by kernel_rfl) rfl rfl ?_<;>intro K hK)|(replace S:St 311:=S;refine rd1 3 (by kernel_rfl) rfl rfl ?_<;>intro K hK));all_goals(first|(refine o_dst (some 16) ?_;(refine q_get M (by exact rfl) ?_);(all_goals(refine hK _ _ ?_;clear hK K;replace S:=S.add 32)))|(refine o_dst (some 14) ?_;(refine q_cellat (HV0.out _ M.new) ?_);(all_goals(refine hK _ _ ?_;clear hK K;replace S:=S.add 8))));all_goals((refine tk 6 (v:=?_) rfl (by kernel_rfl) rfl ?_ ?_;rotate_left;focus(intro w;go_simp;try with_reducible rfl));(try go_simp);replace S:=S.add 64;refine rd1 7 (by kernel_rfl) rfl rfl ?_<;>intro K hK);all_goals(refine o_dst (some 18) ?_;(refine q_at (HR.out _ M.new) (by rfl) ?_);(all_goals(refine hK _ _ ?_;clear hK K;replace S:=S.add 128)));all_goals(refine rd1 9 (by kernel_rfl) rfl rfl ?_<;>intro K hK);all_goals(refine o_dst (some 20) ?_;(refine owp_of ?_;go_simp;(go_at_call 132;with_reducible refine(HFD.out _ M.new).mono ?_;rintro e w5 ⟨rfl,hb5⟩;replace M:=M.below hb5;clear hb5);(try go_simp));(all_goals(refine hK _ _ ?_;clear hK K;replace S:=S.add 512)));all_goals(clear S;((refine tk 10 (v:=?_) rfl (by kernel_rfl) rfl ?_ ?_;rotate_left;focus(intro w;go_simp;try with_reducible rfl));(try go_simp);(refine tk 11 (v:=?_) rfl (by kernel_rfl) rfl ?_ ?_;rotate_left;focus(intro w;go_simp;try with_reducible rfl));(try go_simp);(refine tk 12 (v:=?_) rfl (by kernel_rfl) rfl ?_ ?_;rotate_left;focus(intro w;go_simp;try with_reducible rfl));(try go_simp);(refine tk 13 (v:=?_) rfl (by kernel_rfl) rfl ?_ ?_;rotate_left;focus(intro w;go_simp;try with_reducible rfl));(try go_simp);(refine tk 14 (v:=?_) rfl (by kernel_rfl) rfl ?_ ?_;rotate_left;focus(intro w;go_simp;try with_reducible rfl));(try go_simp);(refine tk 15 (v:=?_) rfl (by kernel_rfl) rfl ?_ ?_;rotate_left;focus(intro w;go_simp;try with_reducible rfl));(try go_simp);(refine tk 16 (v:=?_) rfl (by kernel_rfl) rfl ?_ ?_;rotate_left;focus(intro w;go_simp;try with_reducible rfl));(try go_simp);refine wpAny_done (by kernel_rfl) ?_ _)))
 all_goals
 go_wp2_with (with_reducible (first|refine wA (HRV.out _ M.new) ?_|refine wq M ?_|(refine wS M ?_;clear M;intro w M)))
 ((with_reducible refine body_id ?_);(refine q_ret M Tryz.results156 (by rfl) ?_))
 exact⟨rfl,M.new⟩
end Go.Proofs.YtfahleafppfkaaaGreatDoor
