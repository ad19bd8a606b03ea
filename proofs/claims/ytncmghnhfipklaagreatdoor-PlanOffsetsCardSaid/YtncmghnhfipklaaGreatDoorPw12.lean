/-
  The walks of the reference's BookFault, fourth part: conditions of conditions. Printed by chkc.py.
-/
import Derived.Test.YtncmghnhfipklaaGreatDoorPw11
namespace Go.Proofs.YtncmghnhfipklaaGreatDoor
open Go.RowKit
set_option linter.unusedVariables false
set_option linter.unusedSimpArgs false
section
variable {g:Nat} {F G H S:Nat→Prop} {ao:Option Addr} {n cap:Nat} {bo:Option Addr} {m bcap:Nat} {oo:Option Addr} {k ocap:Nat} {so:Option Addr} {sn scap:Nat} {w0:World} {ts:List Typ} {known:List Pat} {own:Typ}
theorem condL_end{q:Cond→Int×Int}{l:List Cond}{i:Nat}{s:Int}(h:l.length≤i):condL q (l.drop i) s=(s,0):=by rw[List.drop_eq_nil_of_le h];rfl
theorem condL_more{q:Cond→Int×Int}{l:List Cond}{i:Nat}{s:Int}(h:i<l.length):condL q (l.drop i) s=if(q l[i]).2≠0 then(0,(q l[i]).2)else if 12<s+(q l[i]).1 then(0,1)else condL q (l.drop (i+1)) (s+(q l[i]).1):=by
 rw[List.drop_eq_getElem_cons h];rfl
set_option maxRecDepth 8000 in
set_option maxHeartbeats 8000000 in
theorem condFault_tree(hg:g<w0.heap.size)(hX:SlF F w0 2 typF ao n cap ts)(hts: ∀ t∈ts,typOk t)(hY:SlF G w0 18 patF bo m bcap known)(hkn: ∀ p∈known,typI ts p.type<ts.length)(hO:SlF H w0 2 (plainF fldC) oo k ocap own.fields)(hown:typOk own)(c:Cond)(hS:SlF S w0 14 CondF so sn scap c.subs)(hok:CondOk c)(d:Int)(f:Nat)(hd:1≤d∧d≤8)(hk:1≤c.kind∧c.kind≤3)
  (hI: ∀ (j:Nat) (h:j<c.subs.length) (so:Option Addr) (sn scap:Nat) (wx:World),Below w0.heap.size w0 wx→SlF S wx 14 CondF so sn scap c.subs[j].subs→Calls Tryz.prog 84 #[.slice ao n cap,.slice bo m bcap,.agg #[.string own.name,.slice oo k ocap],.agg (cnd14 c.subs[j].kind so sn scap c.subs[j].left c.subs[j].right).toArray,.int .i64 (d+1)] wx (CndPostR (condR ts known own f c.subs[j]) wx)):
  Calls Tryz.prog 84 #[.slice ao n cap,.slice bo m bcap,.agg #[.string own.name,.slice oo k ocap],.agg (cnd14 c.kind so sn scap c.left c.right).toArray,.int .i64 d] w0 (CndPostR (condR ts known own (f+1) c) w0):=by
 have hin:inB c.kind 1 7=true:=by rw[inB_true];omega
 have M:=Mem.begin hg ⟨0,0⟩
 rw[condR_tree hk]
 have hle:=hS.le
 have NL:=Lib.hid hS.len
 obtain⟨hd1,hd8⟩:=hd
 obtain⟨hk1,hk3⟩:=hk
 have hw:IntKind.i64.wrap (d+1)=d+1:=IntWalk.i64_in _ (by omega)
 have HF:Hid (condForm c=(!opdZ c.left||!opdZ c.right||(c.kind==3&&decide ((sn:Int)≠1))||(c.kind !=3&&decide ((sn:Int)<2)))):=by
  show _=_
  unfold condForm
  rw[←NL.out]
  have e1:decide (sn≠1)=decide ((sn:Int)≠1):=by rw[decide_eq_decide];omega
  have e2:decide (sn<2)=decide ((sn:Int)<2):=by rw[decide_eq_decide];omega
  rw[e1,e2]
 have HS:=Lib.hid hS
 have HI:=Lib.hid hI
 have HB:=Lib.hid (condR_bound (ts:=ts) (known:=known) (own:=own) f)
 generalize condR ts known own f=q at HI HB ⊢
 clear hg hX hY hts hkn hO hown hS hok hI
 by_cases hf:condForm c=true
 ·rw[if_pos hf]
  rw[HF.out]at hf
  have HFT:=Lib.hid hf
  unfold cnd14
  clear hf HF HI HB
  generalize c.kind=ck at hin hk1 hk3 HFT
  by_cases h3:ck=3
  ·subst h3
   go_enter Tryz.func84,Tryz.ntmps84
   go_wp2_with (first|(with_reducible (first|(refine wB (L:=[]) M ?_;clear M;intro za w1 M)|(refine wB M ?_;clear M;intro zb w2 M)|refine wq M ?_|(refine wS M ?_;clear M;intro w M)|(refine wV M ?_;clear M;intro z w M)))|(go_at_call 14;refine(in_any _ _ _ _).mono ?_;rintro e w4 ⟨rfl,rfl⟩;(try rw[hin])))
   all_goals first
    |(go_ret2;exact cnd_out M.new rfl (fun h=>absurd h (by decide)))
    |(exfalso;have:=HFT.out;simp[opdZ,valZ,emS, *]at this;done)
    |(exfalso;have:=HFT.out;simp[opdZ,valZ,emS, *]at this;omega)
  ·have h3a:(ck==3)=false:=by simpa using h3
   have h3b:(ck !=3)=true:=by simpa using h3
   clear h3
   go_enter Tryz.func84,Tryz.ntmps84
   go_wp2_with (first|(with_reducible (first|(refine wB (L:=[]) M ?_;clear M;intro za w1 M)|(refine wB M ?_;clear M;intro zb w2 M)|refine wq M ?_|(refine wS M ?_;clear M;intro w M)|(refine wV M ?_;clear M;intro z w M)))|(go_at_call 14;refine(in_any _ _ _ _).mono ?_;rintro e w4 ⟨rfl,rfl⟩;(try rw[hin])))
   all_goals first
    |(go_ret2;exact cnd_out M.new rfl (fun h=>absurd h (by decide)))
    |(exfalso;have:=HFT.out;simp[opdZ,valZ,emS, *]at this;done)
    |(exfalso;have:=HFT.out;simp[opdZ,valZ,emS, *]at this;omega)
 ·rw[if_neg hf]
  rw[HF.out]at hf
  have hz:opdZ c.left=true∧opdZ c.right=true:=by
   constructor
   ·cases hq:opdZ c.left with
    |true=>rfl
    |false=>exact absurd (by simp[hq]) hf
   ·cases hq:opdZ c.right with
    |true=>rfl
    |false=>exact absurd (by simp[hq]) hf
  obtain⟨hl,hr⟩:=hz
  simp only[opdZ,valZ,emS,Bool.and_eq_true,beq_iff_eq,List.isEmpty_iff]at hl hr
  obtain⟨⟨⟨l1,⟨l2,l3⟩,l4⟩,l5⟩,l6⟩:=hl
  obtain⟨⟨⟨r1,⟨r2,r3⟩,r4⟩,r5⟩,r6⟩:=hr
  have hn:(c.kind=3→(sn:Int)=1)∧(c.kind≠3→ ¬ (sn:Int)<2):=by
   refine⟨fun h=>Classical.byContradiction fun h2=>hf ?_,fun h h2=>hf ?_⟩
   ·simp[h];omega
   ·simp[h,h2]
  obtain⟨hn1,hn2⟩:=hn
  have HN:Hid ((c.kind=3→sn=1)∧(c.kind≠3→2≤sn)):=⟨fun h=>by have:=hn1 h;omega,fun h=>by have:=hn2 h;omega⟩
  unfold cnd14
  rw[l1,l2,l3,r1,r2,r3]
  clear hf HF hn1 hn2
  generalize c.kind=ck at hin hk1 hk3 HN
  by_cases h3:ck=3
  ·subst h3
   have hsn:(sn:Int)=1:=by have:=HN.out.1 rfl;omega
   clear HN
   go_enter Tryz.func84,Tryz.ntmps84
   go_wp2_with (first|(with_reducible (first|(refine wB (L:=[]) M ?_;clear M;intro za w1 M)|(refine wB M ?_;clear M;intro zb w2 M)|refine wq M ?_|(refine wS M ?_;clear M;intro w M)|(refine wV M ?_;clear M;intro z w M)))|(go_at_call 14;refine(in_any _ _ _ _).mono ?_;rintro e w4 ⟨rfl,rfl⟩;(try rw[hin])))
   go_loopw [17,18] (fun s i wr=> ∃ (j:Nat) (t:Int),j≤sn∧s= .int .i64 t∧i= .int .i64 j∧(0≤t∧t≤12)∧Mem (StaysB g w0) g w0 wr ⟨0,0⟩ (Go.Proofs.YtncmghnhfipklaaGreatDoor.own z [.int .i64 0,.int .i64 0,.int .i64 0,.string ByteArray.empty,.string ByteArray.empty,.string ByteArray.empty] 57::Go.Proofs.YtncmghnhfipklaaGreatDoor.own zb [.int .i64 3,.slice so sn scap,.int .i64 0,.int .i64 0,.int .i64 0,.string c.left.vtext,.string c.left.var,.string c.left.field,.int .i64 0,.int .i64 0,.int .i64 0,.string c.right.vtext,.string c.right.var,.string c.right.field] 59::Go.Proofs.YtncmghnhfipklaaGreatDoor.own za [.string own.name,.slice oo k ocap] 51::[])∧Hid (condL q (c.subs.drop j) t=condL q c.subs 0)) (fun _ i _=>sn - (intOf i).toNat)
   case atStart=>exact⟨0,0,by omega,rfl,rfl,by decide,M,rfl⟩
   case round=>
    clear M
    obtain⟨j,t,hj,rfl,rfl,⟨ht0,ht12⟩,M,HE⟩:=hrel
    by_cases hlt:j<sn
    ·have hkl:j<c.subs.length:=by have:=NL.out;omega
     obtain⟨ca,oa,rowa,hixa, -,hrra,hwa⟩:=SlF.rowAt (P:=Tryz.prog) HS.out condF_firm Tryz.underlying53 size_cnd (i:=j) hkl
     obtain⟨so2,sn2,sc2,e1,hS2⟩:=hrra.open14
     subst e1
     have HR:Hid (∀ wx,Below w0.heap.size w0 wx→wx.rangeAt ca oa (cnd14 c.subs[j].kind so2 sn2 sc2 c.subs[j].left c.subs[j].right)):=fun wx hb=>(hwa wx hb).1
     have HC:Hid (∀ wx,Below w0.heap.size w0 wx→Calls Tryz.prog 84 #[.slice ao n cap,.slice bo m bcap,.agg #[.string own.name,.slice oo k ocap],.agg (cnd14 c.subs[j].kind so2 sn2 sc2 c.subs[j].left c.subs[j].right).toArray,.int .i64 (d+1)] wx (CndPostR (q c.subs[j]) wx)):=fun wx hb=>HI.out j hkl _ _ _ wx hb (hS2.below condF_firm hb)
     have HM:=Lib.hid (HE.out.symm.trans (condL_more (q:=q) (s:=t) hkl))
     have HBB:=Lib.hid (HB.out c.subs[j])
     clear hwa hrra hS2 HE
     generalize q c.subs[j]=r at HC HM HBB
     generalize c.subs[j]=cs at HR HC
     obtain⟨rk,re⟩:=r
     unfold cnd14 at HR HC
     unfold CndPostR at HC
     by_cases hre:re=0
     ·subst hre
      have hrk:0≤rk∧rk≤12:=HBB.out rfl
      simp only[true_implies]at HC
      have hw2:IntKind.i64.wrap (t+rk)=t+rk:=IntWalk.i64_in _ (by omega)
      obtain⟨hrk0,hrk12⟩:=hrk
      by_cases h12:12<t+rk
      ·have HM2:Hid (condL q c.subs 0=(0,1)):=by show _=_;rw[HM.out,if_neg (by simp),if_pos h12]
       clear HM HBB
       go_wp2_with (with_reducible refine wq M ?_)
       (refine wp_region_any (by kernel_rfl) ?_;(try(change wpAny _ _ _ _ _ _ _ (World.drew _)));replace M:=M.drew;generalize World.drew _=w at M ⊢;have S:=St.o;((refine tk 0 (v:=?_) rfl (by kernel_rfl) rfl ?_ ?_;rotate_left;focus(intro w;go_simp;try with_reducible rfl));(try go_simp);(refine tk 1 (v:=?_) rfl (by kernel_rfl) rfl ?_ ?_;rotate_left;focus(intro w;go_simp;try with_reducible rfl));(try go_simp);(refine tk 3 (v:=?_) rfl (by kernel_rfl) rfl ?_ ?_;rotate_left;focus(intro w;go_simp;try with_reducible rfl));(try go_simp);(refine tk 5 (v:=?_) rfl (by kernel_rfl) rfl ?_ ?_;rotate_left;focus(intro w;go_simp;try with_reducible rfl));(try go_simp);(refine tk 8 (v:=?_) rfl (by kernel_rfl) rfl ?_ ?_;rotate_left;focus(intro w;go_simp;try with_reducible rfl));(try go_simp);(refine tk 9 (v:=?_) rfl (by kernel_rfl) rfl ?_ ?_;rotate_left;focus(intro w;go_simp;try with_reducible rfl));(try go_simp);replace S:=S.add 811;refine rd2 2 4 (by kernel_rfl) rfl rfl ?_ rfl rfl ?_<;>intro K hK);all_goals(first|(refine o_dst (some 104) ?_;(refine q_all M (by rfl) ?_);(all_goals(refine hK _ _ ?_;clear hK K;replace S:=S.add 4)))|(refine o_dst (some 106) ?_;(refine q_get M (by exact rfl) ?_);(all_goals(refine hK _ _ ?_;clear hK K;replace S:=S.add 16))));all_goals(first|(replace S:St 815:=S;refine rd1 4 (by kernel_rfl) rfl rfl ?_<;>intro K hK)|(replace S:St 827:=S;(refine tk 6 (v:=?_) rfl (by kernel_rfl) rfl ?_ ?_;rotate_left;focus(intro w;go_simp;try with_reducible rfl));(try go_simp);replace S:=S.add 64;refine rd2 2 7 (by kernel_rfl) rfl rfl ?_ rfl rfl ?_<;>intro K hK));all_goals(first|(refine o_dst (some 106) ?_;(refine q_get M (by exact rfl) ?_);(all_goals(refine hK _ _ ?_;clear hK K;replace S:=S.add 16)))|(refine o_dst (some 104) ?_;(refine q_all M (by rfl) ?_);(all_goals(refine hK _ _ ?_;clear hK K;replace S:=S.add 4)))|(refine o_dst (some 109) ?_;(refine q_at (HR.out _ M.new) (by rfl) ?_);(all_goals(refine hK _ _ ?_;clear hK K;replace S:=S.add 128))));all_goals(first|(replace S:St 831:=S;(refine tk 6 (v:=?_) rfl (by kernel_rfl) rfl ?_ ?_;rotate_left;focus(intro w;go_simp;try with_reducible rfl));(try go_simp);replace S:=S.add 64;refine rd1 7 (by kernel_rfl) rfl rfl ?_<;>intro K hK)|(replace S:St 895:=S;refine rd1 7 (by kernel_rfl) rfl rfl ?_<;>intro K hK)|(replace S:St 1019:=S;refine rd1 2 (by kernel_rfl) rfl rfl ?_<;>intro K hK));all_goals(first|(refine o_dst (some 109) ?_;(refine q_at (HR.out _ M.new) (by rfl) ?_);(all_goals(refine hK _ _ ?_;clear hK K;replace S:=S.add 128)))|(refine o_dst (some 104) ?_;(refine q_all M (by rfl) ?_);(all_goals(refine hK _ _ ?_;clear hK K;replace S:=S.add 4))));all_goals(refine rd1 10 (by kernel_rfl) rfl rfl ?_<;>intro K hK);all_goals(refine o_dst (some 112) ?_;(refine owp_of ?_;go_simp;(go_at_call 84;with_reducible refine(HC.out _ M.new).mono ?_;rintro e w5 ⟨kk,rfl,hb5,hkk⟩;replace hkk:=hkk.symm;subst hkk;replace M:=M.below hb5;clear hb5);(try go_simp));(all_goals(refine hK _ _ ?_;clear hK K;replace S:=S.add 1024)));all_goals(clear S;((refine tk 11 (v:=?_) rfl (by kernel_rfl) rfl ?_ ?_;rotate_left;focus(intro w;go_simp;try with_reducible rfl));(try go_simp);(refine tk 12 (v:=?_) rfl (by kernel_rfl) rfl ?_ ?_;rotate_left;focus(intro w;go_simp;try with_reducible rfl));(try go_simp);(refine tk 13 (v:=?_) rfl (by kernel_rfl) rfl ?_ ?_;rotate_left;focus(intro w;go_simp;try with_reducible rfl));(try go_simp);(refine tk 14 (v:=?_) rfl (by kernel_rfl) rfl ?_ ?_;rotate_left;focus(intro w;go_simp;try with_reducible rfl));(try go_simp);(refine tk 15 (v:=?_) rfl (by kernel_rfl) rfl ?_ ?_;rotate_left;focus(intro w;go_simp;try with_reducible rfl));(try go_simp);refine wpAny_done (by kernel_rfl) ?_ _)))
       all_goals go_wp2
       all_goals go_ret2
       all_goals exact cnd_out M.new (by rw[HM2.out]) (fun h=>absurd h (by decide))
      ·have HM2:Hid (condL q (c.subs.drop (j+1)) (t+rk)=condL q c.subs 0):=by show _=_;rw[HM.out,if_neg (by simp),if_neg h12]
       clear HM HBB
       go_wp2_with (with_reducible refine wq M ?_)
       (refine wp_region_any (by kernel_rfl) ?_;(try(change wpAny _ _ _ _ _ _ _ (World.drew _)));replace M:=M.drew;generalize World.drew _=w at M ⊢;have S:=St.o;((refine tk 0 (v:=?_) rfl (by kernel_rfl) rfl ?_ ?_;rotate_left;focus(intro w;go_simp;try with_reducible rfl));(try go_simp);(refine tk 1 (v:=?_) rfl (by kernel_rfl) rfl ?_ ?_;rotate_left;focus(intro w;go_simp;try with_reducible rfl));(try go_simp);(refine tk 3 (v:=?_) rfl (by kernel_rfl) rfl ?_ ?_;rotate_left;focus(intro w;go_simp;try with_reducible rfl));(try go_simp);(refine tk 5 (v:=?_) rfl (by kernel_rfl) rfl ?_ ?_;rotate_left;focus(intro w;go_simp;try with_reducible rfl));(try go_simp);(refine tk 8 (v:=?_) rfl (by kernel_rfl) rfl ?_ ?_;rotate_left;focus(intro w;go_simp;try with_reducible rfl));(try go_simp);(refine tk 9 (v:=?_) rfl (by kernel_rfl) rfl ?_ ?_;rotate_left;focus(intro w;go_simp;try with_reducible rfl));(try go_simp);replace S:=S.add 811;refine rd2 2 4 (by kernel_rfl) rfl rfl ?_ rfl rfl ?_<;>intro K hK);all_goals(first|(refine o_dst (some 104) ?_;(refine q_all M (by rfl) ?_);(all_goals(refine hK _ _ ?_;clear hK K;replace S:=S.add 4)))|(refine o_dst (some 106) ?_;(refine q_get M (by exact rfl) ?_);(all_goals(refine hK _ _ ?_;clear hK K;replace S:=S.add 16))));all_goals(first|(replace S:St 815:=S;refine rd1 4 (by kernel_rfl) rfl rfl ?_<;>intro K hK)|(replace S:St 827:=S;(refine tk 6 (v:=?_) rfl (by kernel_rfl) rfl ?_ ?_;rotate_left;focus(intro w;go_simp;try with_reducible rfl));(try go_simp);replace S:=S.add 64;refine rd2 2 7 (by kernel_rfl) rfl rfl ?_ rfl rfl ?_<;>intro K hK));all_goals(first|(refine o_dst (some 106) ?_;(refine q_get M (by exact rfl) ?_);(all_goals(refine hK _ _ ?_;clear hK K;replace S:=S.add 16)))|(refine o_dst (some 104) ?_;(refine q_all M (by rfl) ?_);(all_goals(refine hK _ _ ?_;clear hK K;replace S:=S.add 4)))|(refine o_dst (some 109) ?_;(refine q_at (HR.out _ M.new) (by rfl) ?_);(all_goals(refine hK _ _ ?_;clear hK K;replace S:=S.add 128))));all_goals(first|(replace S:St 831:=S;(refine tk 6 (v:=?_) rfl (by kernel_rfl) rfl ?_ ?_;rotate_left;focus(intro w;go_simp;try with_reducible rfl));(try go_simp);replace S:=S.add 64;refine rd1 7 (by kernel_rfl) rfl rfl ?_<;>intro K hK)|(replace S:St 895:=S;refine rd1 7 (by kernel_rfl) rfl rfl ?_<;>intro K hK)|(replace S:St 1019:=S;refine rd1 2 (by kernel_rfl) rfl rfl ?_<;>intro K hK));all_goals(first|(refine o_dst (some 109) ?_;(refine q_at (HR.out _ M.new) (by rfl) ?_);(all_goals(refine hK _ _ ?_;clear hK K;replace S:=S.add 128)))|(refine o_dst (some 104) ?_;(refine q_all M (by rfl) ?_);(all_goals(refine hK _ _ ?_;clear hK K;replace S:=S.add 4))));all_goals(refine rd1 10 (by kernel_rfl) rfl rfl ?_<;>intro K hK);all_goals(refine o_dst (some 112) ?_;(refine owp_of ?_;go_simp;(go_at_call 84;with_reducible refine(HC.out _ M.new).mono ?_;rintro e w5 ⟨kk,rfl,hb5,hkk⟩;replace hkk:=hkk.symm;subst hkk;replace M:=M.below hb5;clear hb5);(try go_simp));(all_goals(refine hK _ _ ?_;clear hK K;replace S:=S.add 1024)));all_goals(clear S;((refine tk 11 (v:=?_) rfl (by kernel_rfl) rfl ?_ ?_;rotate_left;focus(intro w;go_simp;try with_reducible rfl));(try go_simp);(refine tk 12 (v:=?_) rfl (by kernel_rfl) rfl ?_ ?_;rotate_left;focus(intro w;go_simp;try with_reducible rfl));(try go_simp);(refine tk 13 (v:=?_) rfl (by kernel_rfl) rfl ?_ ?_;rotate_left;focus(intro w;go_simp;try with_reducible rfl));(try go_simp);(refine tk 14 (v:=?_) rfl (by kernel_rfl) rfl ?_ ?_;rotate_left;focus(intro w;go_simp;try with_reducible rfl));(try go_simp);(refine tk 15 (v:=?_) rfl (by kernel_rfl) rfl ?_ ?_;rotate_left;focus(intro w;go_simp;try with_reducible rfl));(try go_simp);refine wpAny_done (by kernel_rfl) ?_ _)))
       all_goals go_wp2
       all_goals
        go_roundw
        case rel=>exact⟨j+1,t+rk,by omega,by go_num,by go_num,⟨by omega,by omega⟩,M,HM2⟩
        case measure=>simp[intOf];omega
     ·have hrb:(re !=0)=true:=by simpa using hre
      have HM2:Hid (condL q c.subs 0=(0,re)):=by show _=_;rw[HM.out,if_pos hre]
      have HRE:=Lib.hid hre
      clear HM HBB hre
      go_wp2_with (with_reducible refine wq M ?_)
      (refine wp_region_any (by kernel_rfl) ?_;(try(change wpAny _ _ _ _ _ _ _ (World.drew _)));replace M:=M.drew;generalize World.drew _=w at M ⊢;have S:=St.o;((refine tk 0 (v:=?_) rfl (by kernel_rfl) rfl ?_ ?_;rotate_left;focus(intro w;go_simp;try with_reducible rfl));(try go_simp);(refine tk 1 (v:=?_) rfl (by kernel_rfl) rfl ?_ ?_;rotate_left;focus(intro w;go_simp;try with_reducible rfl));(try go_simp);(refine tk 3 (v:=?_) rfl (by kernel_rfl) rfl ?_ ?_;rotate_left;focus(intro w;go_simp;try with_reducible rfl));(try go_simp);(refine tk 5 (v:=?_) rfl (by kernel_rfl) rfl ?_ ?_;rotate_left;focus(intro w;go_simp;try with_reducible rfl));(try go_simp);(refine tk 8 (v:=?_) rfl (by kernel_rfl) rfl ?_ ?_;rotate_left;focus(intro w;go_simp;try with_reducible rfl));(try go_simp);(refine tk 9 (v:=?_) rfl (by kernel_rfl) rfl ?_ ?_;rotate_left;focus(intro w;go_simp;try with_reducible rfl));(try go_simp);replace S:=S.add 811;refine rd2 2 4 (by kernel_rfl) rfl rfl ?_ rfl rfl ?_<;>intro K hK);all_goals(first|(refine o_dst (some 104) ?_;(refine q_all M (by rfl) ?_);(all_goals(refine hK _ _ ?_;clear hK K;replace S:=S.add 4)))|(refine o_dst (some 106) ?_;(refine q_get M (by exact rfl) ?_);(all_goals(refine hK _ _ ?_;clear hK K;replace S:=S.add 16))));all_goals(first|(replace S:St 815:=S;refine rd1 4 (by kernel_rfl) rfl rfl ?_<;>intro K hK)|(replace S:St 827:=S;(refine tk 6 (v:=?_) rfl (by kernel_rfl) rfl ?_ ?_;rotate_left;focus(intro w;go_simp;try with_reducible rfl));(try go_simp);replace S:=S.add 64;refine rd2 2 7 (by kernel_rfl) rfl rfl ?_ rfl rfl ?_<;>intro K hK));all_goals(first|(refine o_dst (some 106) ?_;(refine q_get M (by exact rfl) ?_);(all_goals(refine hK _ _ ?_;clear hK K;replace S:=S.add 16)))|(refine o_dst (some 104) ?_;(refine q_all M (by rfl) ?_);(all_goals(refine hK _ _ ?_;clear hK K;replace S:=S.add 4)))|(refine o_dst (some 109) ?_;(refine q_at (HR.out _ M.new) (by rfl) ?_);(all_goals(refine hK _ _ ?_;clear hK K;replace S:=S.add 128))));all_goals(first|(replace S:St 831:=S;(refine tk 6 (v:=?_) rfl (by kernel_rfl) rfl ?_ ?_;rotate_left;focus(intro w;go_simp;try with_reducible rfl));(try go_simp);replace S:=S.add 64;refine rd1 7 (by kernel_rfl) rfl rfl ?_<;>intro K hK)|(replace S:St 895:=S;refine rd1 7 (by kernel_rfl) rfl rfl ?_<;>intro K hK)|(replace S:St 1019:=S;refine rd1 2 (by kernel_rfl) rfl rfl ?_<;>intro K hK));all_goals(first|(refine o_dst (some 109) ?_;(refine q_at (HR.out _ M.new) (by rfl) ?_);(all_goals(refine hK _ _ ?_;clear hK K;replace S:=S.add 128)))|(refine o_dst (some 104) ?_;(refine q_all M (by rfl) ?_);(all_goals(refine hK _ _ ?_;clear hK K;replace S:=S.add 4))));all_goals(refine rd1 10 (by kernel_rfl) rfl rfl ?_<;>intro K hK);all_goals(refine o_dst (some 112) ?_;(refine owp_of ?_;go_simp;(go_at_call 84;with_reducible refine(HC.out _ M.new).mono ?_;rintro e w5 ⟨kk,rfl,hb5, -⟩;replace M:=M.below hb5;clear hb5);(try go_simp));(all_goals(refine hK _ _ ?_;clear hK K;replace S:=S.add 1024)));all_goals(clear S;((refine tk 11 (v:=?_) rfl (by kernel_rfl) rfl ?_ ?_;rotate_left;focus(intro w;go_simp;try with_reducible rfl));(try go_simp);(refine tk 12 (v:=?_) rfl (by kernel_rfl) rfl ?_ ?_;rotate_left;focus(intro w;go_simp;try with_reducible rfl));(try go_simp);(refine tk 13 (v:=?_) rfl (by kernel_rfl) rfl ?_ ?_;rotate_left;focus(intro w;go_simp;try with_reducible rfl));(try go_simp);(refine tk 14 (v:=?_) rfl (by kernel_rfl) rfl ?_ ?_;rotate_left;focus(intro w;go_simp;try with_reducible rfl));(try go_simp);(refine tk 15 (v:=?_) rfl (by kernel_rfl) rfl ?_ ?_;rotate_left;focus(intro w;go_simp;try with_reducible rfl));(try go_simp);refine wpAny_done (by kernel_rfl) ?_ _)))
      all_goals go_wp2
      all_goals go_ret2
      all_goals exact cnd_out M.new (by rw[HM2.out]) (fun h=>absurd h HRE.out)
    ·have HM2:Hid (condL q c.subs 0=(t,0)):=by
      show _=_
      rw[←HE.out]
      exact condL_end (by have:=NL.out;omega)
     go_wp2_with (with_reducible refine wq M ?_)
     go_ret2
     exact cnd_out M.new (by rw[HM2.out]) (fun _=>by rw[HM2.out])
  ·have h3a:(ck==3)=false:=by simpa using h3
   have h3b:(ck !=3)=true:=by simpa using h3
   have hsn:(2:Int)≤sn:=by have:=HN.out.2 h3;omega
   clear HN h3
   go_enter Tryz.func84,Tryz.ntmps84
   go_wp2_with (first|(with_reducible (first|(refine wB (L:=[]) M ?_;clear M;intro za w1 M)|(refine wB M ?_;clear M;intro zb w2 M)|refine wq M ?_|(refine wS M ?_;clear M;intro w M)|(refine wV M ?_;clear M;intro z w M)))|(go_at_call 14;refine(in_any _ _ _ _).mono ?_;rintro e w4 ⟨rfl,rfl⟩;(try rw[hin])))
   go_loopw [17,18] (fun s i wr=> ∃ (j:Nat) (t:Int),j≤sn∧s= .int .i64 t∧i= .int .i64 j∧(0≤t∧t≤12)∧Mem (StaysB g w0) g w0 wr ⟨0,0⟩ (Go.Proofs.YtncmghnhfipklaaGreatDoor.own z [.int .i64 0,.int .i64 0,.int .i64 0,.string ByteArray.empty,.string ByteArray.empty,.string ByteArray.empty] 57::Go.Proofs.YtncmghnhfipklaaGreatDoor.own zb [.int .i64 ck,.slice so sn scap,.int .i64 0,.int .i64 0,.int .i64 0,.string c.left.vtext,.string c.left.var,.string c.left.field,.int .i64 0,.int .i64 0,.int .i64 0,.string c.right.vtext,.string c.right.var,.string c.right.field] 59::Go.Proofs.YtncmghnhfipklaaGreatDoor.own za [.string own.name,.slice oo k ocap] 51::[])∧Hid (condL q (c.subs.drop j) t=condL q c.subs 0)) (fun _ i _=>sn - (intOf i).toNat)
   case atStart=>exact⟨0,0,by omega,rfl,rfl,by decide,M,rfl⟩
   case round=>
    clear M
    obtain⟨j,t,hj,rfl,rfl,⟨ht0,ht12⟩,M,HE⟩:=hrel
    by_cases hlt:j<sn
    ·have hkl:j<c.subs.length:=by have:=NL.out;omega
     obtain⟨ca,oa,rowa,hixa, -,hrra,hwa⟩:=SlF.rowAt (P:=Tryz.prog) HS.out condF_firm Tryz.underlying53 size_cnd (i:=j) hkl
     obtain⟨so2,sn2,sc2,e1,hS2⟩:=hrra.open14
     subst e1
     have HR:Hid (∀ wx,Below w0.heap.size w0 wx→wx.rangeAt ca oa (cnd14 c.subs[j].kind so2 sn2 sc2 c.subs[j].left c.subs[j].right)):=fun wx hb=>(hwa wx hb).1
     have HC:Hid (∀ wx,Below w0.heap.size w0 wx→Calls Tryz.prog 84 #[.slice ao n cap,.slice bo m bcap,.agg #[.string own.name,.slice oo k ocap],.agg (cnd14 c.subs[j].kind so2 sn2 sc2 c.subs[j].left c.subs[j].right).toArray,.int .i64 (d+1)] wx (CndPostR (q c.subs[j]) wx)):=fun wx hb=>HI.out j hkl _ _ _ wx hb (hS2.below condF_firm hb)
     have HM:=Lib.hid (HE.out.symm.trans (condL_more (q:=q) (s:=t) hkl))
     have HBB:=Lib.hid (HB.out c.subs[j])
     clear hwa hrra hS2 HE
     generalize q c.subs[j]=r at HC HM HBB
     generalize c.subs[j]=cs at HR HC
     obtain⟨rk,re⟩:=r
     unfold cnd14 at HR HC
     unfold CndPostR at HC
     by_cases hre:re=0
     ·subst hre
      have hrk:0≤rk∧rk≤12:=HBB.out rfl
      simp only[true_implies]at HC
      have hw2:IntKind.i64.wrap (t+rk)=t+rk:=IntWalk.i64_in _ (by omega)
      obtain⟨hrk0,hrk12⟩:=hrk
      by_cases h12:12<t+rk
      ·have HM2:Hid (condL q c.subs 0=(0,1)):=by show _=_;rw[HM.out,if_neg (by simp),if_pos h12]
       clear HM HBB
       go_wp2_with (with_reducible refine wq M ?_)
       (refine wp_region_any (by kernel_rfl) ?_;(try(change wpAny _ _ _ _ _ _ _ (World.drew _)));replace M:=M.drew;generalize World.drew _=w at M ⊢;have S:=St.o;((refine tk 0 (v:=?_) rfl (by kernel_rfl) rfl ?_ ?_;rotate_left;focus(intro w;go_simp;try with_reducible rfl));(try go_simp);(refine tk 1 (v:=?_) rfl (by kernel_rfl) rfl ?_ ?_;rotate_left;focus(intro w;go_simp;try with_reducible rfl));(try go_simp);(refine tk 3 (v:=?_) rfl (by kernel_rfl) rfl ?_ ?_;rotate_left;focus(intro w;go_simp;try with_reducible rfl));(try go_simp);(refine tk 5 (v:=?_) rfl (by kernel_rfl) rfl ?_ ?_;rotate_left;focus(intro w;go_simp;try with_reducible rfl));(try go_simp);(refine tk 8 (v:=?_) rfl (by kernel_rfl) rfl ?_ ?_;rotate_left;focus(intro w;go_simp;try with_reducible rfl));(try go_simp);(refine tk 9 (v:=?_) rfl (by kernel_rfl) rfl ?_ ?_;rotate_left;focus(intro w;go_simp;try with_reducible rfl));(try go_simp);replace S:=S.add 811;refine rd2 2 4 (by kernel_rfl) rfl rfl ?_ rfl rfl ?_<;>intro K hK);all_goals(first|(refine o_dst (some 104) ?_;(refine q_all M (by rfl) ?_);(all_goals(refine hK _ _ ?_;clear hK K;replace S:=S.add 4)))|(refine o_dst (some 106) ?_;(refine q_get M (by exact rfl) ?_);(all_goals(refine hK _ _ ?_;clear hK K;replace S:=S.add 16))));all_goals(first|(replace S:St 815:=S;refine rd1 4 (by kernel_rfl) rfl rfl ?_<;>intro K hK)|(replace S:St 827:=S;(refine tk 6 (v:=?_) rfl (by kernel_rfl) rfl ?_ ?_;rotate_left;focus(intro w;go_simp;try with_reducible rfl));(try go_simp);replace S:=S.add 64;refine rd2 2 7 (by kernel_rfl) rfl rfl ?_ rfl rfl ?_<;>intro K hK));all_goals(first|(refine o_dst (some 106) ?_;(refine q_get M (by exact rfl) ?_);(all_goals(refine hK _ _ ?_;clear hK K;replace S:=S.add 16)))|(refine o_dst (some 104) ?_;(refine q_all M (by rfl) ?_);(all_goals(refine hK _ _ ?_;clear hK K;replace S:=S.add 4)))|(refine o_dst (some 109) ?_;(refine q_at (HR.out _ M.new) (by rfl) ?_);(all_goals(refine hK _ _ ?_;clear hK K;replace S:=S.add 128))));all_goals(first|(replace S:St 831:=S;(refine tk 6 (v:=?_) rfl (by kernel_rfl) rfl ?_ ?_;rotate_left;focus(intro w;go_simp;try with_reducible rfl));(try go_simp);replace S:=S.add 64;refine rd1 7 (by kernel_rfl) rfl rfl ?_<;>intro K hK)|(replace S:St 895:=S;refine rd1 7 (by kernel_rfl) rfl rfl ?_<;>intro K hK)|(replace S:St 1019:=S;refine rd1 2 (by kernel_rfl) rfl rfl ?_<;>intro K hK));all_goals(first|(refine o_dst (some 109) ?_;(refine q_at (HR.out _ M.new) (by rfl) ?_);(all_goals(refine hK _ _ ?_;clear hK K;replace S:=S.add 128)))|(refine o_dst (some 104) ?_;(refine q_all M (by rfl) ?_);(all_goals(refine hK _ _ ?_;clear hK K;replace S:=S.add 4))));all_goals(refine rd1 10 (by kernel_rfl) rfl rfl ?_<;>intro K hK);all_goals(refine o_dst (some 112) ?_;(refine owp_of ?_;go_simp;(go_at_call 84;with_reducible refine(HC.out _ M.new).mono ?_;rintro e w5 ⟨kk,rfl,hb5,hkk⟩;replace hkk:=hkk.symm;subst hkk;replace M:=M.below hb5;clear hb5);(try go_simp));(all_goals(refine hK _ _ ?_;clear hK K;replace S:=S.add 1024)));all_goals(clear S;((refine tk 11 (v:=?_) rfl (by kernel_rfl) rfl ?_ ?_;rotate_left;focus(intro w;go_simp;try with_reducible rfl));(try go_simp);(refine tk 12 (v:=?_) rfl (by kernel_rfl) rfl ?_ ?_;rotate_left;focus(intro w;go_simp;try with_reducible rfl));(try go_simp);(refine tk 13 (v:=?_) rfl (by kernel_rfl) rfl ?_ ?_;rotate_left;focus(intro w;go_simp;try with_reducible rfl));(try go_simp);(refine tk 14 (v:=?_) rfl (by kernel_rfl) rfl ?_ ?_;rotate_left;focus(intro w;go_simp;try with_reducible rfl));(try go_simp);(refine tk 15 (v:=?_) rfl (by kernel_rfl) rfl ?_ ?_;rotate_left;focus(intro w;go_simp;try with_reducible rfl));(try go_simp);refine wpAny_done (by kernel_rfl) ?_ _)))
       all_goals go_wp2
       all_goals go_ret2
       all_goals exact cnd_out M.new (by rw[HM2.out]) (fun h=>absurd h (by decide))
      ·have HM2:Hid (condL q (c.subs.drop (j+1)) (t+rk)=condL q c.subs 0):=by show _=_;rw[HM.out,if_neg (by simp),if_neg h12]
       clear HM HBB
       go_wp2_with (with_reducible refine wq M ?_)
       (refine wp_region_any (by kernel_rfl) ?_;(try(change wpAny _ _ _ _ _ _ _ (World.drew _)));replace M:=M.drew;generalize World.drew _=w at M ⊢;have S:=St.o;((refine tk 0 (v:=?_) rfl (by kernel_rfl) rfl ?_ ?_;rotate_left;focus(intro w;go_simp;try with_reducible rfl));(try go_simp);(refine tk 1 (v:=?_) rfl (by kernel_rfl) rfl ?_ ?_;rotate_left;focus(intro w;go_simp;try with_reducible rfl));(try go_simp);(refine tk 3 (v:=?_) rfl (by kernel_rfl) rfl ?_ ?_;rotate_left;focus(intro w;go_simp;try with_reducible rfl));(try go_simp);(refine tk 5 (v:=?_) rfl (by kernel_rfl) rfl ?_ ?_;rotate_left;focus(intro w;go_simp;try with_reducible rfl));(try go_simp);(refine tk 8 (v:=?_) rfl (by kernel_rfl) rfl ?_ ?_;rotate_left;focus(intro w;go_simp;try with_reducible rfl));(try go_simp);(refine tk 9 (v:=?_) rfl (by kernel_rfl) rfl ?_ ?_;rotate_left;focus(intro w;go_simp;try with_reducible rfl));(try go_simp);replace S:=S.add 811;refine rd2 2 4 (by kernel_rfl) rfl rfl ?_ rfl rfl ?_<;>intro K hK);all_goals(first|(refine o_dst (some 104) ?_;(refine q_all M (by rfl) ?_);(all_goals(refine hK _ _ ?_;clear hK K;replace S:=S.add 4)))|(refine o_dst (some 106) ?_;(refine q_get M (by exact rfl) ?_);(all_goals(refine hK _ _ ?_;clear hK K;replace S:=S.add 16))));all_goals(first|(replace S:St 815:=S;refine rd1 4 (by kernel_rfl) rfl rfl ?_<;>intro K hK)|(replace S:St 827:=S;(refine tk 6 (v:=?_) rfl (by kernel_rfl) rfl ?_ ?_;rotate_left;focus(intro w;go_simp;try with_reducible rfl));(try go_simp);replace S:=S.add 64;refine rd2 2 7 (by kernel_rfl) rfl rfl ?_ rfl rfl ?_<;>intro K hK));all_goals(first|(refine o_dst (some 106) ?_;(refine q_get M (by exact rfl) ?_);(all_goals(refine hK _ _ ?_;clear hK K;replace S:=S.add 16)))|(refine o_dst (some 104) ?_;(refine q_all M (by rfl) ?_);(all_goals(refine hK _ _ ?_;clear hK K;replace S:=S.add 4)))|(refine o_dst (some 109) ?_;(refine q_at (HR.out _ M.new) (by rfl) ?_);(all_goals(refine hK _ _ ?_;clear hK K;replace S:=S.add 128))));all_goals(first|(replace S:St 831:=S;(refine tk 6 (v:=?_) rfl (by kernel_rfl) rfl ?_ ?_;rotate_left;focus(intro w;go_simp;try with_reducible rfl));(try go_simp);replace S:=S.add 64;refine rd1 7 (by kernel_rfl) rfl rfl ?_<;>intro K hK)|(replace S:St 895:=S;refine rd1 7 (by kernel_rfl) rfl rfl ?_<;>intro K hK)|(replace S:St 1019:=S;refine rd1 2 (by kernel_rfl) rfl rfl ?_<;>intro K hK));all_goals(first|(refine o_dst (some 109) ?_;(refine q_at (HR.out _ M.new) (by rfl) ?_);(all_goals(refine hK _ _ ?_;clear hK K;replace S:=S.add 128)))|(refine o_dst (some 104) ?_;(refine q_all M (by rfl) ?_);(all_goals(refine hK _ _ ?_;clear hK K;replace S:=S.add 4))));all_goals(refine rd1 10 (by kernel_rfl) rfl rfl ?_<;>intro K hK);all_goals(refine o_dst (some 112) ?_;(refine owp_of ?_;go_simp;(go_at_call 84;with_reducible refine(HC.out _ M.new).mono ?_;rintro e w5 ⟨kk,rfl,hb5,hkk⟩;replace hkk:=hkk.symm;subst hkk;replace M:=M.below hb5;clear hb5);(try go_simp));(all_goals(refine hK _ _ ?_;clear hK K;replace S:=S.add 1024)));all_goals(clear S;((refine tk 11 (v:=?_) rfl (by kernel_rfl) rfl ?_ ?_;rotate_left;focus(intro w;go_simp;try with_reducible rfl));(try go_simp);(refine tk 12 (v:=?_) rfl (by kernel_rfl) rfl ?_ ?_;rotate_left;focus(intro w;go_simp;try with_reducible rfl));(try go_simp);(refine tk 13 (v:=?_) rfl (by kernel_rfl) rfl ?_ ?_;rotate_left;focus(intro w;go_simp;try with_reducible rfl));(try go_simp);(refine tk 14 (v:=?_) rfl (by kernel_rfl) rfl ?_ ?_;rotate_left;focus(intro w;go_simp;try with_reducible rfl));(try go_simp);(refine tk 15 (v:=?_) rfl (by kernel_rfl) rfl ?_ ?_;rotate_left;focus(intro w;go_simp;try with_reducible rfl));(try go_simp);refine wpAny_done (by kernel_rfl) ?_ _)))
       all_goals go_wp2
       all_goals
        go_roundw
        case rel=>exact⟨j+1,t+rk,by omega,by go_num,by go_num,⟨by omega,by omega⟩,M,HM2⟩
        case measure=>simp[intOf];omega
     ·have hrb:(re !=0)=true:=by simpa using hre
      have HM2:Hid (condL q c.subs 0=(0,re)):=by show _=_;rw[HM.out,if_pos hre]
      have HRE:=Lib.hid hre
      clear HM HBB hre
      go_wp2_with (with_reducible refine wq M ?_)
      (refine wp_region_any (by kernel_rfl) ?_;(try(change wpAny _ _ _ _ _ _ _ (World.drew _)));replace M:=M.drew;generalize World.drew _=w at M ⊢;have S:=St.o;((refine tk 0 (v:=?_) rfl (by kernel_rfl) rfl ?_ ?_;rotate_left;focus(intro w;go_simp;try with_reducible rfl));(try go_simp);(refine tk 1 (v:=?_) rfl (by kernel_rfl) rfl ?_ ?_;rotate_left;focus(intro w;go_simp;try with_reducible rfl));(try go_simp);(refine tk 3 (v:=?_) rfl (by kernel_rfl) rfl ?_ ?_;rotate_left;focus(intro w;go_simp;try with_reducible rfl));(try go_simp);(refine tk 5 (v:=?_) rfl (by kernel_rfl) rfl ?_ ?_;rotate_left;focus(intro w;go_simp;try with_reducible rfl));(try go_simp);(refine tk 8 (v:=?_) rfl (by kernel_rfl) rfl ?_ ?_;rotate_left;focus(intro w;go_simp;try with_reducible rfl));(try go_simp);(refine tk 9 (v:=?_) rfl (by kernel_rfl) rfl ?_ ?_;rotate_left;focus(intro w;go_simp;try with_reducible rfl));(try go_simp);replace S:=S.add 811;refine rd2 2 4 (by kernel_rfl) rfl rfl ?_ rfl rfl ?_<;>intro K hK);all_goals(first|(refine o_dst (some 104) ?_;(refine q_all M (by rfl) ?_);(all_goals(refine hK _ _ ?_;clear hK K;replace S:=S.add 4)))|(refine o_dst (some 106) ?_;(refine q_get M (by exact rfl) ?_);(all_goals(refine hK _ _ ?_;clear hK K;replace S:=S.add 16))));all_goals(first|(replace S:St 815:=S;refine rd1 4 (by kernel_rfl) rfl rfl ?_<;>intro K hK)|(replace S:St 827:=S;(refine tk 6 (v:=?_) rfl (by kernel_rfl) rfl ?_ ?_;rotate_left;focus(intro w;go_simp;try with_reducible rfl));(try go_simp);replace S:=S.add 64;refine rd2 2 7 (by kernel_rfl) rfl rfl ?_ rfl rfl ?_<;>intro K hK));all_goals(first|(refine o_dst (some 106) ?_;(refine q_get M (by exact rfl) ?_);(all_goals(refine hK _ _ ?_;clear hK K;replace S:=S.add 16)))|(refine o_dst (some 104) ?_;(refine q_all M (by rfl) ?_);(all_goals(refine hK _ _ ?_;clear hK K;replace S:=S.add 4)))|(refine o_dst (some 109) ?_;(refine q_at (HR.out _ M.new) (by rfl) ?_);(all_goals(refine hK _ _ ?_;clear hK K;replace S:=S.add 128))));all_goals(first|(replace S:St 831:=S;(refine tk 6 (v:=?_) rfl (by kernel_rfl) rfl ?_ ?_;rotate_left;focus(intro w;go_simp;try with_reducible rfl));(try go_simp);replace S:=S.add 64;refine rd1 7 (by kernel_rfl) rfl rfl ?_<;>intro K hK)|(replace S:St 895:=S;refine rd1 7 (by kernel_rfl) rfl rfl ?_<;>intro K hK)|(replace S:St 1019:=S;refine rd1 2 (by kernel_rfl) rfl rfl ?_<;>intro K hK));all_goals(first|(refine o_dst (some 109) ?_;(refine q_at (HR.out _ M.new) (by rfl) ?_);(all_goals(refine hK _ _ ?_;clear hK K;replace S:=S.add 128)))|(refine o_dst (some 104) ?_;(refine q_all M (by rfl) ?_);(all_goals(refine hK _ _ ?_;clear hK K;replace S:=S.add 4))));all_goals(refine rd1 10 (by kernel_rfl) rfl rfl ?_<;>intro K hK);all_goals(refine o_dst (some 112) ?_;(refine owp_of ?_;go_simp;(go_at_call 84;with_reducible refine(HC.out _ M.new).mono ?_;rintro e w5 ⟨kk,rfl,hb5, -⟩;replace M:=M.below hb5;clear hb5);(try go_simp));(all_goals(refine hK _ _ ?_;clear hK K;replace S:=S.add 1024)));all_goals(clear S;((refine tk 11 (v:=?_) rfl (by kernel_rfl) rfl ?_ ?_;rotate_left;focus(intro w;go_simp;try with_reducible rfl));(try go_simp);(refine tk 12 (v:=?_) rfl (by kernel_rfl) rfl ?_ ?_;rotate_left;focus(intro w;go_simp;try with_reducible rfl));(try go_simp);(refine tk 13 (v:=?_) rfl (by kernel_rfl) rfl ?_ ?_;rotate_left;focus(intro w;go_simp;try with_reducible rfl));(try go_simp);(refine tk 14 (v:=?_) rfl (by kernel_rfl) rfl ?_ ?_;rotate_left;focus(intro w;go_simp;try with_reducible rfl));(try go_simp);(refine tk 15 (v:=?_) rfl (by kernel_rfl) rfl ?_ ?_;rotate_left;focus(intro w;go_simp;try with_reducible rfl));(try go_simp);refine wpAny_done (by kernel_rfl) ?_ _)))
      all_goals go_wp2
      all_goals go_ret2
      all_goals exact cnd_out M.new (by rw[HM2.out]) (fun h=>absurd h HRE.out)
    ·have HM2:Hid (condL q c.subs 0=(t,0)):=by
      show _=_
      rw[←HE.out]
      exact condL_end (by have:=NL.out;omega)
     go_wp2_with (with_reducible refine wq M ?_)
     go_ret2
     exact cnd_out M.new (by rw[HM2.out]) (fun _=>by rw[HM2.out])
end
end Go.Proofs.YtncmghnhfipklaaGreatDoor
