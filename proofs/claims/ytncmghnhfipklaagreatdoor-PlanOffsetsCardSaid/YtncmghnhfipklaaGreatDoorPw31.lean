/-
  The reference's plan of a rule: planned. Printed by plx.py.
-/
import Derived.Test.YtncmghnhfipklaaGreatDoorPw30
namespace Go.Proofs.YtncmghnhfipklaaGreatDoor
open Go.RowKit
set_option linter.unusedVariables false
set_option linter.unusedSimpArgs false
section
variable {g:Nat} {w0:World} {x:Rul} {a1 a2 a3 a4 a6:Option Addr} {n1 c1 n2 c2 n3 c3 n4 c4 n6 c6:Nat} {F:Nat→Prop}
set_option maxRecDepth 8000 in
set_option maxHeartbeats 8000000 in
theorem planned_any(hg:g<w0.heap.size)(X1:SlF F w0 18 patF a1 n1 c1 x.whens)(X2:SlF F w0 18 patF a2 n2 c2 x.nots)(X3:SlF F w0 20 manF a3 n3 c3 x.manies)(X4:SlF F w0 3 lnkF a4 n4 c4 x.links)(hR:RulPl x):Calls Tryz.prog 15 #[.agg #[.string x.name,.slice a1 n1 c1,.slice a2 n2 c2,.slice a3 n3 c3,.slice a4 n4 c4,.string x.etype,.slice a6 n6 c6]] w0 (PlnP (planE x).1 (planE x).2 w0):=by
 have M:=Mem.begin hg ⟨0,0⟩
 have HX2:=Lib.hid X2
 have HX3:=Lib.hid X3
 have N1:=Lib.hid X1.len
 have N2:=Lib.hid X2.len
 have N3:=Lib.hid X3.len
 have hle1:=X1.le
 have hle2:=X2.le
 have hle3:=X3.le
 have hn1:1≤n1∧n1≤3:=by have:=X1.len;have:=hR.w1;have:=hR.w3;omega
 have hn2:n2≤2:=by have:=X2.len;have:=hR.n2;omega
 have hn3:n3≤2:=by have:=X3.len;have:=hR.m2;omega
 have HR:=Lib.hid hR
 have HNO:Hid (∀ (wx:World) (more:List Pat) (mo:Option Addr) (mn mc:Nat) (F3:Nat→Prop),g<wx.heap.size→Below w0.heap.size w0 wx→SlF F3 wx 18 patF mo mn mc more→more.length≤1→wholeF x more=none→Calls Tryz.prog 32 #[.agg #[.string x.name,.slice a1 n1 c1,.slice a2 n2 c2,.slice a3 n3 c3,.slice a4 n4 c4,.string x.etype,.slice a6 n6 c6],.slice mo mn mc] wx fun e w' => ∃ v,e= .returned (.tuple #[v,.bool false])∧Below wx.heap.size wx w'):=fun wx more mo mn mc F3 h1 hb h2 h3 h=>(ruleMatrix_any h1 (X1.below patF_firm hb) (X4.below lnkF_firm hb) h2 hR h3).mono fun e w' k=>by
  rcases k.2 with⟨_,v,k2⟩|⟨G,ao,cap,k1,_⟩
  ·exact⟨v,k2,k.1⟩
  ·rw[h]at k1;cases k1
 have HYES:Hid (∀ (wx:World) (more:List Pat) (mo:Option Addr) (mn mc:Nat) (F3:Nat→Prop) (G:Mx),g<wx.heap.size→Below w0.heap.size w0 wx→SlF F3 wx 18 patF mo mn mc more→more.length≤1→wholeF x more=some G→Calls Tryz.prog 32 #[.agg #[.string x.name,.slice a1 n1 c1,.slice a2 n2 c2,.slice a3 n3 c3,.slice a4 n4 c4,.string x.etype,.slice a6 n6 c6],.slice mo mn mc] wx fun e w' => ∃ ao cap,e= .returned (.tuple #[.slice ao (npts x more) cap,.bool true])∧Below wx.heap.size wx w' ∧MatD ao (npts x more) cap G (from_ wx.heap.size) w'):=fun wx more mo mn mc F3 G h1 hb h2 h3 h=>(ruleMatrix_any h1 (X1.below patF_firm hb) (X4.below lnkF_firm hb) h2 hR h3).mono fun e w' k=>by
  rcases k.2 with⟨k1,_⟩|⟨G',ao,cap,k1,k2,k3⟩
  ·rw[h]at k1;cases k1
  ·rw[h]at k1
   injection k1 with k1
   subst k1
   exact⟨ao,cap,k2,k.1,k3⟩
 clear X1 X2 X3 X4 hR
 cases hw:wholeF x []with
 |none=>
  have HP:Hid (planE x=(pln0,16)):=by show _=_;unfold planE;rw[hw]
  replace hw:=Lib.hid hw
  go_enter Tryz.func15,Tryz.ntmps15
  go_upto_region 1 with(with_reducible (first|(refine wB M ?_;clear M;intro zb w1 M)|(refine wV M ?_;clear M;intro zr w M)))
  go_wp2_with (first|(go_at_call 32;have hq:=HNO.out _ [] none 0 0 (fun _=>True) (Nat.lt_of_lt_of_le M.lt M.but.size) M.new SlF.nil (by decide) hw.out;with_reducible refine hq.mono ?_;clear hq;rintro e w5 ⟨v5,rfl,hb5⟩;replace M:=M.below hb5;clear hb5)|(with_reducible (first|(refine wV M ?_;clear M;intro zp w M)|refine wq M ?_|(refine wS M ?_;clear M;intro w M))))
  refine q_ret2 M Tryz.results15 (by rfl) ⟨_,Tryz.underlying28,rfl⟩ ?_
  rw[HP.out]
  exact⟨_,_,_,_,_,_,_,_,_,rfl,M.new,SlF.nil,SlF.nil,SlF.nil⟩
 |some f=>
  have HRG:Hid (Rg (npts x []) f):=whole_rg HR.out (by decide) hw
  have HPN:Hid (npts x []=2*n1):=by show _=_;rw[npts_nil,N1.out]
  have HP:Hid (planE x=(let D:=delayF x x.nots.length;if D=NOB then(pln0,15)else(⟨D,(List.range x.whens.length).map (fun i=>plusF (latF f x.whens.length (2*i+1)) (D+1)),x.nots.map (notW x D),x.manies.map (fun m=>m.pat.n+D+1)⟩,0))):=by show _=_;unfold planE;rw[hw]
  replace hw:=Lib.hid hw
  go_enter Tryz.func15,Tryz.ntmps15
  go_upto_region 1 with(with_reducible (first|(refine wB M ?_;clear M;intro zb w1 M)|(refine wV M ?_;clear M;intro zr w M)))
  go_wp2_with (first|(go_at_call 32;have hq:=HYES.out _ [] none 0 0 (fun _=>True) f (Nat.lt_of_lt_of_le M.lt M.but.size) M.new SlF.nil (by decide) hw.out;with_reducible refine hq.mono ?_;clear hq;rintro e w5 ⟨am,cm,rfl,hb5,hD5⟩;replace M:=M.mpush hb5 hD5;clear hb5 hD5)|(with_reducible (first|(refine wV M ?_;clear M;intro zp w M)|refine wq M ?_|(refine wS M ?_;clear M;intro w M))))
  clear hw
  go_loopg [8] n2 (fun f' i wr=> ∃ (j:Nat) (D:Int),j+f' =n2∧i= .int .i64 j∧Mem (StaysB g w0) g w0 wr ⟨0,0⟩ (dat (MatD am (npts x []) cm f)::own zp [.int .i64 D,.slice none 0 0,.slice none 0 0,.slice none 0 0] 28::own zr [.int .i64 0,.slice none 0 0,.slice none 0 0,.slice none 0 0] 28::own zb [.string x.name,.slice a1 n1 c1,.slice a2 n2 c2,.slice a3 n3 c3,.slice a4 n4 c4,.string x.etype,.slice a6 n6 c6] 47::[])∧Hid (D=delayF x j)∧0≤D∧D<1152921504606846976)
  case atStart=>exact⟨0,0,by omega,rfl,M,Lib.hid rfl,by decide,by decide⟩
  case round=>
   clear M
   obtain⟨j,D,hj,rfl,M,HD,hD0,hD1⟩:=hrel
   by_cases hlt:j<n2
   ·have hil:j<x.nots.length:=by have:=N2.out;omega
    obtain⟨sa,sc,hs1,hs2,hS⟩:=SlF.cutOne HX2.out Tryz.underlying40 size_pat hil
    have HS:=Lib.hid hS
    have hwj:IntKind.i64.wrap ((j:Int)+1)=(j:Int)+1:=IntWalk.i64_in _ (by omega)
    have HDN:=Lib.hid (delayF_next hil)
    have HRN:=Lib.hid (notD_rg HR.out (d:=D) ⟨hD0,Int.le_of_lt hD1⟩ x.nots[j])
    have HDE:Hid (∀ g1,wholeF x [x.nots[j]]=some g1→leastF g1 n1=NOB→delayF x x.nots.length=NOB):=fun g1 h1 h2=>delay_end HR.out hil HD.out h1 (by rw[←N1.out];exact h2)
    clear hS
    generalize x.nots[j]=p at HS HDN HRN HDE
    clear hil
    cases hq:wholeF x [p]with
    |none=>
     have HWN:=Lib.hid hq
     have HDE2:Hid (D=delayF x (j+1)):=by show _=_;rw[HDN.out,notD_none HWN.out];exact HD.out
     clear hq HDN HRN HDE HD
     go_upto_region 9 with(with_reducible refine wq M ?_)
     ((refine wp_region_first [0,1,2,3,4,5,6,8,9,10,11,12] [(true,0),(true,1),(true,2),(true,3),(true,4),(true,5),(true,6),(false,7),(true,8),(true,9),(true,10),(true,11),(true,12)] (fun _ M=>M) M (by kernel_rfl) (by kernel_rfl) (fun _ _ _ _ _ h=>h) ?_);clear M;intro w M;(repeat(first|((with_reducible refine m_read rfl M.kept fun K hK=>?_);(first|(refine r_load (l' :=?_) ⟨_,M.kept⟩ (fun w M=>?_) ?_;rotate_left;focus((first|refine q_get M (by exact rfl) ?_|refine q_all M (by rfl) ?_);refine⟨rfl,?_⟩;with_reducible rfl))|(refine r_pure (v:=?_) rfl (fun w=>?_) ?_;rotate_left;focus(go_simp;try with_reducible rfl)));(try go_simp);with_reducible refine hK _ ?_;clear hK K)|((with_reducible refine m_step rfl rfl fun K hK=>?_);((refine owp_of ?_;go_simp;(go_at_call 32;have hq:=HNO.out _ [p] sa 1 sc F (Nat.lt_of_lt_of_le M.lt M.but.size) M.new (HS.out.below patF_firm M.new) (Nat.le_refl _) HWN.out;with_reducible refine hq.mono ?_;clear hq;rintro e w5 ⟨v5,rfl,hb5⟩;replace M:=M.below hb5;clear hb5)));(try go_simp);with_reducible refine hK _ _ M.kept ?_;clear hK K)));(with_reducible refine m_nil ?_))
     go_wp2_with (with_reducible (first|refine wq M ?_|(refine wS M ?_;clear M;intro w M)|(refine wV M ?_;clear M;intro z w M)|(refine wR M ?_;clear M;intro q w M)))
     go_roundg (n2 - (j+1))
     case measure=>omega
     case rel=>exact⟨j+1,D,by omega,by go_num,M,HDE2,hD0,hD1⟩
    |some g1=>
     have HWN:=Lib.hid hq
     have HNP:npts x [p]=2*(n1+1):=by rw[npts_one,N1.out]
     generalize hnp:npts x [p]=np at HNP
     replace HNP:=Lib.hid HNP
     have HYS:Hid (∀ (wx:World),g<wx.heap.size→Below w0.heap.size w0 wx→Calls Tryz.prog 32 #[.agg #[.string x.name,.slice a1 n1 c1,.slice a2 n2 c2,.slice a3 n3 c3,.slice a4 n4 c4,.string x.etype,.slice a6 n6 c6],.slice sa 1 sc] wx fun e w' => ∃ ao cap,e= .returned (.tuple #[.slice ao np cap,.bool true])∧Below wx.heap.size wx w' ∧MatD ao np cap g1 (from_ wx.heap.size) w'):=fun wx h1 h2=>by rw[←hnp];exact HYES.out wx [p] sa 1 sc F g1 h1 h2 (HS.out.below patF_firm h2) (Nat.le_refl _) HWN.out
     clear hq hnp
     go_upto_region 9 with(with_reducible refine wq M ?_)
     ((refine wp_region_first [0,1,2,3,4,5,6,8,9,10,11,12] [(true,0),(true,1),(true,2),(true,3),(true,4),(true,5),(true,6),(false,7),(true,8),(true,9),(true,10),(true,11),(true,12)] (fun _ M=>M) M (by kernel_rfl) (by kernel_rfl) (fun _ _ _ _ _ h=>h) ?_);clear M;intro w M;(repeat(first|((with_reducible refine m_read rfl M.kept fun K hK=>?_);(first|(refine r_load (l' :=?_) ⟨_,M.kept⟩ (fun w M=>?_) ?_;rotate_left;focus((first|refine q_get M (by exact rfl) ?_|refine q_all M (by rfl) ?_);refine⟨rfl,?_⟩;with_reducible rfl))|(refine r_pure (v:=?_) rfl (fun w=>?_) ?_;rotate_left;focus(go_simp;try with_reducible rfl)));(try go_simp);with_reducible refine hK _ ?_;clear hK K)|((with_reducible refine m_step rfl rfl fun K hK=>?_);((refine owp_of ?_;go_simp;(go_at_call 32;have hq:=HYS.out _ (Nat.lt_of_lt_of_le M.lt M.but.size) M.new;with_reducible refine hq.mono ?_;clear hq;rintro e w5 ⟨am5,cm5,rfl,hb5,hD5⟩;replace M:=M.mpush hb5 hD5;clear hb5 hD5)));(try go_simp);with_reducible refine hK _ _ M.kept ?_;clear hK K)));(with_reducible refine m_nil ?_))
     go_wp2_with (with_reducible (first|refine wq M ?_|(refine wS M ?_;clear M;intro w M)|(refine wV M ?_;clear M;intro z w M)|(refine wR M ?_;clear M;intro q w M)))
     go_loopg [11,12] n1 (fun f' a i wr=> ∃ (q:Nat),q+f' =n1∧i= .int .i64 q∧a= .int .i64 (leastK g1 n1 q)∧Mem (StaysB g w0) g w0 wr ⟨0,0⟩ (dat (MatD am5 np cm5 g1)::dat (MatD am (npts x []) cm f)::own zp [.int .i64 D,.slice none 0 0,.slice none 0 0,.slice none 0 0] 28::own zr [.int .i64 0,.slice none 0 0,.slice none 0 0,.slice none 0 0] 28::own zb [.string x.name,.slice a1 n1 c1,.slice a2 n2 c2,.slice a3 n3 c3,.slice a4 n4 c4,.string x.etype,.slice a6 n6 c6] 47::[]))
     case atStart=>exact⟨0,by omega,rfl,rfl,M⟩
     case round=>
      clear M
      obtain⟨q,hq,rfl,rfl,M⟩:=hrel
      by_cases hlq:q<n1
      ·have HLL:=(M.dat_ (i:=0) rfl:MatD am5 np cm5 g1 _ _).lines
       obtain⟨A2,o2,ra2,rc2,hix2,hc2,hj2⟩:=HLL (2*n1+1) (by have:=HNP.out;omega)
       obtain⟨B2,q2,hiy2,hv2⟩:=hj2 (2*q+1) (by have:=HNP.out;omega)
       have hixB: ∀ wx,(Instr.indexAt 78 (.slice am5 np cm5) (.int .i64 (2*(n1:Int)+1))).run Tryz.prog wx= .ok (.pointer (some ⟨A2,o2+(2*n1+1),none⟩)) wx:=hix2
       have hiyB: ∀ wx,(Instr.indexAt 26 (.slice ra2 np rc2) (.int .i64 (2*(q:Int)+1))).run Tryz.prog wx= .ok (.pointer (some ⟨B2,q2+(2*q+1),none⟩)) wx:=hiy2
       have HC2:=Lib.hid hc2
       have HV2:=Lib.hid hv2
       have HN:=Lib.hid (leastK_next g1 n1 q)
       have hit:decide ((j:Int)<n2)=true:=by simpa using(by omega:(j:Int)<n2)
       clear hc2 hj2 hv2 hix2 hiy2 HLL
       generalize leastK g1 n1 q=v at HN
       generalize g1 (2*n1+1) (2*q+1)=y at HN HV2
       by_cases hvy:y<v
       ·have hcd:decide (y<v)=true:=by simpa using hvy
        have HMI:Hid (leastK g1 n1 (q+1)=y):=by show _=_;rw[HN.out];omega
        go_wp2_with (with_reducible (first|refine wC (HC2.out _ (Below.refl _ _)) ?_|refine wC (HV2.out _ (Below.refl _ _)) ?_))
        go_roundg (n1 - (q+1))
        case measure=>omega
        case rel=>exact⟨q+1,by omega,by go_num,by rw[HMI.out],M⟩
       ·have hcd:decide (y<v)=false:=by simpa using hvy
        have HMI:Hid (leastK g1 n1 (q+1)=v):=by show _=_;rw[HN.out];omega
        go_wp2_with (with_reducible (first|refine wC (HC2.out _ (Below.refl _ _)) ?_|refine wC (HV2.out _ (Below.refl _ _)) ?_))
        go_roundg (n1 - (q+1))
        case measure=>omega
        case rel=>exact⟨q+1,by omega,by go_num,by rw[HMI.out],M⟩
      ·have e:n1=q:=by omega
       subst e
       have HLE:Hid (leastK g1 n1 n1=leastF g1 n1):=rfl
       have HDS:Hid (max D (max (leastF g1 n1) 0)=notD x D p):=by show _=_;rw[N1.out];exact notD_some hD0 HWN.out
       have hlr:=leastF_rg (w:=n1) (whole_rg HR.out (Nat.le_refl _) HWN.out) (by rw[npts_one];have:=N1.out;omega)
       have hl:=HDE.out g1 HWN.out
       rw[HLE.out]
       clear HDE HLE HRN
       generalize leastF g1 n1=v at HDS hlr hl
       unfold NOB at hlr
       by_cases hv:v=1152921504606846976
       ·have hvq:(v==1152921504606846976)=true:=by rw[hv];rfl
        have HP2:Hid (planE x=(pln0,15)):=by show _=_;rw[HP.out,hl hv,if_pos rfl]
        clear hl HP hv HDS
        go_wp2_with (with_reducible (refine wS M ?_;clear M;intro w M))
        refine q_ret2 M Tryz.results15 (by rfl) ⟨_,Tryz.underlying28,rfl⟩ ?_
        rw[HP2.out]
        exact⟨_,_,_,_,_,_,_,_,_,rfl,M.new,SlF.nil,SlF.nil,SlF.nil⟩
       ·have hvq:(v==1152921504606846976)=false:=by simpa using hv
        clear hl
        by_cases hDv:D<v
        ·have hcd:decide (D<v)=true:=by simpa using hDv
         have HDE2:Hid (v=delayF x (j+1)):=by show _=_;rw[HDN.out,←HD.out,←HDS.out];omega
         clear HDN HDS HD
         go_wp2_with (with_reducible (first|refine wq M ?_|(refine wS M ?_;clear M;intro w M)))
         go_roundg (n2 - (j+1))
         case measure=>omega
         case rel=>exact⟨j+1,v,by omega,by go_num,M.drop,HDE2,by omega,by omega⟩
        ·have hcd:decide (D<v)=false:=by simpa using hDv
         have HDE2:Hid (D=delayF x (j+1)):=by show _=_;rw[HDN.out,←HD.out,←HDS.out];omega
         clear HDN HDS HD
         go_wp2_with (with_reducible refine wq M ?_)
         go_roundg (n2 - (j+1))
         case measure=>omega
         case rel=>exact⟨j+1,D,by omega,by go_num,M.drop,HDE2,hD0,hD1⟩
   ·have e:n2=j:=by omega
    have HDE:Hid (D=delayF x x.nots.length):=by show _=_;rw[←N2.out,e];exact HD.out
    have HP2:Hid (planE x=(⟨D,behindK f n1 D n1,x.nots.map (notW x D),x.manies.map (fun m=>m.pat.n+D+1)⟩,0)):=by show _=_;rw[HP.out,←HDE.out,if_neg (by unfold NOB;omega),←N1.out];rfl
    have hwr:IntKind.i64.wrap (D+1)=D+1:=IntWalk.i64_in _ (by omega)
    subst e
    clear HD HDE HP
    go_wp2_with (with_reducible refine wq M ?_)
    replace M:=M.none_ (R:=intF) (plainF_firm _) 3 1
    go_loopg [13] n1 (fun f' i wr=> ∃ (q:Nat) (lv:Value),q+f' =n1∧i= .int .i64 q∧Mem (StaysB g w0) g w0 wr ⟨0,0⟩ (slc w0.heap.size 3 1 intF lv (behindK f n1 D q)::dat (MatD am (npts x []) cm f)::own zp [.int .i64 D,lv,.slice none 0 0,.slice none 0 0] 28::own zr [.int .i64 0,.slice none 0 0,.slice none 0 0,.slice none 0 0] 28::own zb [.string x.name,.slice a1 n1 c1,.slice a2 n2 c2,.slice a3 n3 c3,.slice a4 n4 c4,.string x.etype,.slice a6 n6 c6] 47::[]))
    case atStart=>exact⟨0,_,by omega,rfl,M⟩
    case round=>
     clear M
     obtain⟨q,lv,hq,rfl,M⟩:=hrel
     by_cases hlq:q<n1
     ·have HB:Hid (∀ (wx:World) (F' :Nat→Prop),g<wx.heap.size→MatD am (npts x []) cm f F' wx→Calls Tryz.prog 34 #[.slice am (npts x []) cm,.int .i64 n1,.int .i64 q] wx fun e w' =>e= .returned (.int .i64 (latF f n1 (2*q+1)))∧Below wx.heap.size wx w'):=fun wx F' h1 h2=>latest_D h1 h2 (by rw[HPN.out];omega) (by omega) (by rw[HPN.out];omega) (by omega) (by omega)
      have HV:=latF_rg HRG.out (w:=n1) (p:=2*q+1) (by rw[HPN.out];omega) (by rw[HPN.out];omega) (by omega)
      have HL:Hid (∀ wx,Calls Tryz.prog 33 #[.int .i64 (latF f n1 (2*q+1)),.int .i64 (D+1)] wx fun e w' =>e= .returned (.int .i64 (plusF (latF f n1 (2*q+1)) (D+1)))∧Below wx.heap.size wx w'):=fun wx=>rplus_any _ _ HV ⟨by omega,by unfold NOB;omega⟩ wx
      have HN:=Lib.hid (behindK_next f n1 D q)
      have HLN:Hid ((behindK f n1 D q).length≤100000):=by show _≤_;unfold behindK;rw[List.length_map,List.length_range];omega
      clear HV
      generalize latF f n1 (2*q+1)=v at HB HL HN
      generalize plusF v (D+1)=u at HL HN
      generalize behindK f n1 D q=ws at HN HLN M
      go_upto_region 24 with(with_reducible (first|refine wq M ?_|(refine wS M ?_;clear M;intro w M)|(refine wV M ?_;clear M;intro z w M)|(refine wR M ?_;clear M;intro q w M)))
      ((refine wp_region_first [0,1,2,3,4,6,7,8,12] [(true,0),(true,1),(true,2),(true,3),(true,4),(true,6),(true,7),(true,8),(false,5),(false,9),(false,10),(false,11),(true,12),(false,13)] (fun _ M=>M.drop) M (by kernel_rfl) (by kernel_rfl) (fun _ _ _ _ _ h=>h) ?_);clear M;intro w M;(repeat(first|((with_reducible refine m_read rfl M.kept fun K hK=>?_);(first|(refine r_load (l' :=?_) ⟨_,M.kept⟩ (fun w M=>?_) ?_;rotate_left;focus((refine q_get M (by exact rfl) ?_);refine⟨rfl,?_⟩;with_reducible rfl))|(refine r_pure (v:=?_) rfl (fun w=>?_) ?_;rotate_left;focus(go_simp;try with_reducible rfl)));(try go_simp);with_reducible refine hK _ ?_;clear hK K)|((with_reducible refine m_last rfl rfl (by with_unfolding_all decide+kernel) fun K hK=>?_);(((refine q_set M (by rfl) (by rfl) ?_);clear M;intro w M;(try simp only[List.set_cons_zero,List.set_cons_succ]at M)));(try go_simp);with_reducible refine hK _ _ ?_;clear hK K)|((with_reducible refine m_step rfl rfl fun K hK=>?_);(first|((refine owp_of ?_;go_simp;(go_at_call 34;have hd:=M.dat_ (i:=1) rfl;have hq:=HB.out _ _ (Nat.lt_of_lt_of_le M.lt M.but.size) hd;with_reducible refine hq.mono ?_;clear hq hd;rintro e w5 ⟨rfl,hb5⟩;replace M:=M.below hb5;clear hb5)))|((refine owp_of ?_;go_simp;(go_at_call 33;with_reducible refine(HL.out _).mono ?_;rintro e w5 ⟨rfl,hb5⟩;replace M:=M.below hb5;clear hb5)))|((refine q_rows M ?_;clear M;intro qz w M))|((refine q_app (R:=intF) (plainF_firm _) M 1 rfl u rfl (by rfl) (by rfl) HLN.out ?_;clear M;intro ra2 rc2 w M;(try simp only[List.set_cons_zero,List.set_cons_succ]at M))));(try go_simp);with_reducible refine hK _ _ M.kept ?_;clear hK K)));(with_reducible refine m_nil ?_))
      go_wp2_with (with_reducible (first|refine wq M ?_|(refine wS M ?_;clear M;intro w M)|(refine wV M ?_;clear M;intro z w M)|(refine wR M ?_;clear M;intro q w M)))
      go_roundg (n1 - (q+1))
      case measure=>omega
      case rel=>exact⟨q+1,_,by omega,by go_num,by rw[←HN.out];exact M.drop⟩
     ·have e:n1=q:=by omega
      subst e
      obtain⟨W,HW⟩: ∃ W,Hid (behindK f n1 D n1=W):=⟨_,Lib.hid rfl⟩
      rw[HW.out]at M
      obtain⟨b1,d1,e1,M9⟩:=M.done (plainF_firm _) (by omega)
      clear M
      have M:=M9
      clear M9
      subst e1
      go_wp2_with (with_reducible (first|refine wq M ?_|(refine wS M ?_;clear M;intro w M)|(refine wV M ?_;clear M;intro z w M)|(refine wR M ?_;clear M;intro q w M)))
      replace M:=M.none_ (R:=intF) (plainF_firm _) 3 1
      go_loopg [14] n2 (fun f' i wr=> ∃ (q:Nat) (lv:Value) (ns:List Int),q+f' =n2∧i= .int .i64 q∧Mem (StaysB g w0) g w0 wr ⟨0,0⟩ (slc w0.heap.size 3 1 intF lv ns::dat (fun F w=>SlF F w 1 intF b1 W.length d1 W)::dat (MatD am (npts x []) cm f)::own zp [.int .i64 D,.slice b1 W.length d1,lv,.slice none 0 0] 28::own zr [.int .i64 0,.slice none 0 0,.slice none 0 0,.slice none 0 0] 28::own zb [.string x.name,.slice a1 n1 c1,.slice a2 n2 c2,.slice a3 n3 c3,.slice a4 n4 c4,.string x.etype,.slice a6 n6 c6] 47::[])∧Hid (ns=(x.nots.take q).map (notW x D)))
      case atStart=>exact⟨0,_,[],by omega,rfl,M,Lib.hid rfl⟩
      case round=>
       clear M
       obtain⟨q,lv,ns,hq,rfl,M,HNS⟩:=hrel
       by_cases hlq2:q<n2
       ·have hil:q<x.nots.length:=by have:=N2.out;omega
        obtain⟨sa,sc,hs1,hs2,hS⟩:=SlF.cutOne HX2.out Tryz.underlying40 size_pat hil
        have HS:=Lib.hid hS
        have hwj:IntKind.i64.wrap ((q:Int)+1)=(q:Int)+1:=IntWalk.i64_in _ (by omega)
        have HNX:Hid (ns++[notW x D x.nots[q]]=(x.nots.take (q+1)).map (notW x D)):=by show _=_;rw[HNS.out,List.take_add_one,List.getElem?_eq_getElem hil,List.map_append];rfl
        have HLN:Hid (ns.length≤100000):=by show _≤_;rw[HNS.out,List.length_map,List.length_take];omega
        clear hS
        generalize x.nots[q]=p at HS HNX
        clear hil HNS
        cases hq1:wholeF x [p]with
        |none=>
         rw[notW_none hq1]at HNX
         have HWN:=Lib.hid hq1
         clear hq1
         go_upto_region 28 with(with_reducible refine wq M ?_)
         ((refine wp_region_first [0,1,2,3,4,5,6,8,9,10,11,12] [(true,0),(true,1),(true,2),(true,3),(true,4),(true,5),(true,6),(false,7),(true,8),(true,9),(true,10),(true,11),(true,12)] (fun _ M=>M) M (by kernel_rfl) (by kernel_rfl) (fun _ _ _ _ _ h=>h) ?_);clear M;intro w M;(repeat(first|((with_reducible refine m_read rfl M.kept fun K hK=>?_);(first|(refine r_load (l' :=?_) ⟨_,M.kept⟩ (fun w M=>?_) ?_;rotate_left;focus((first|refine q_get M (by exact rfl) ?_|refine q_all M (by rfl) ?_);refine⟨rfl,?_⟩;with_reducible rfl))|(refine r_pure (v:=?_) rfl (fun w=>?_) ?_;rotate_left;focus(go_simp;try with_reducible rfl)));(try go_simp);with_reducible refine hK _ ?_;clear hK K)|((with_reducible refine m_step rfl rfl fun K hK=>?_);((refine owp_of ?_;go_simp;(go_at_call 32;have hq:=HNO.out _ [p] sa 1 sc F (Nat.lt_of_lt_of_le M.lt M.but.size) M.new (HS.out.below patF_firm M.new) (Nat.le_refl _) HWN.out;with_reducible refine hq.mono ?_;clear hq;rintro e w5 ⟨v5,rfl,hb5⟩;replace M:=M.below hb5;clear hb5)));(try go_simp);with_reducible refine hK _ _ M.kept ?_;clear hK K)));(with_reducible refine m_nil ?_))
         go_wp2_with (first|(((with_reducible refine o_list rfl fun K hK=>?_);(refine q_app (R:=intF) (plainF_firm _) M 1 rfl 0 rfl (by rfl) (by rfl) HLN.out ?_;clear M;intro ra2 rc2 w M;(try simp only[List.set_cons_zero,List.set_cons_succ]at M));refine hK _ _ ?_;clear hK K))|(with_reducible (first|(refine w_ (q_rows M ?_);clear M;intro qz w M)|refine wq M ?_|(refine wS M ?_;clear M;intro w M))))
         go_roundg (n2 - (q+1))
         case measure=>omega
         case rel=>exact⟨q+1,_,_,by omega,by go_num,M.drop,HNX⟩
        |some g1=>
         have HRG1:Rg (npts x [p]) g1:=whole_rg HR.out (Nat.le_refl _) hq1
         have HNP:npts x [p]=2*(n1+1):=by rw[npts_one,N1.out]
         rw[notW_some hq1,←N1.out]at HNX
         have HWN:=Lib.hid hq1
         generalize hnp:npts x [p]=np at HNP HRG1
         have HYS:Hid (∀ (wx:World),g<wx.heap.size→Below w0.heap.size w0 wx→Calls Tryz.prog 32 #[.agg #[.string x.name,.slice a1 n1 c1,.slice a2 n2 c2,.slice a3 n3 c3,.slice a4 n4 c4,.string x.etype,.slice a6 n6 c6],.slice sa 1 sc] wx fun e w' => ∃ ao cap,e= .returned (.tuple #[.slice ao np cap,.bool true])∧Below wx.heap.size wx w' ∧MatD ao np cap g1 (from_ wx.heap.size) w'):=fun wx h1 h2=>by rw[←hnp];exact HYES.out wx [p] sa 1 sc F g1 h1 h2 (HS.out.below patF_firm h2) (Nat.le_refl _) HWN.out
         have HB:Hid (∀ (wx:World) (ao:Option Addr) (cap:Nat) (F' :Nat→Prop),g<wx.heap.size→MatD ao np cap g1 F' wx→Calls Tryz.prog 34 #[.slice ao np cap,.int .i64 n1,.int .i64 n1] wx fun e w' =>e= .returned (.int .i64 (latF g1 n1 (2*n1+1)))∧Below wx.heap.size wx w'):=fun wx ao cap F' h1 h2=>latest_D h1 h2 (by omega) (by omega) (by omega) (by omega) (by omega)
         have HV:=latF_rg HRG1 (w:=n1) (p:=2*n1+1) (by omega) (by omega) (by omega)
         have HL:Hid (∀ wx,Calls Tryz.prog 33 #[.int .i64 (latF g1 n1 (2*n1+1)),.int .i64 (D+1)] wx fun e w' =>e= .returned (.int .i64 (plusF (latF g1 n1 (2*n1+1)) (D+1)))∧Below wx.heap.size wx w'):=fun wx=>rplus_any _ _ HV ⟨by omega,by unfold NOB;omega⟩ wx
         clear hq1 HV HNP HRG1 hnp
         generalize latF g1 n1 (2*n1+1)=v at HB HL HNX
         generalize plusF v (D+1)=u at HL HNX
         go_upto_region 28 with(with_reducible refine wq M ?_)
         ((refine wp_region_first [0,1,2,3,4,5,6,8,9,10,11,12] [(true,0),(true,1),(true,2),(true,3),(true,4),(true,5),(true,6),(false,7),(true,8),(true,9),(true,10),(true,11),(true,12)] (fun _ M=>M) M (by kernel_rfl) (by kernel_rfl) (fun _ _ _ _ _ h=>h) ?_);clear M;intro w M;(repeat(first|((with_reducible refine m_read rfl M.kept fun K hK=>?_);(first|(refine r_load (l' :=?_) ⟨_,M.kept⟩ (fun w M=>?_) ?_;rotate_left;focus((first|refine q_get M (by exact rfl) ?_|refine q_all M (by rfl) ?_);refine⟨rfl,?_⟩;with_reducible rfl))|(refine r_pure (v:=?_) rfl (fun w=>?_) ?_;rotate_left;focus(go_simp;try with_reducible rfl)));(try go_simp);with_reducible refine hK _ ?_;clear hK K)|((with_reducible refine m_step rfl rfl fun K hK=>?_);((refine owp_of ?_;go_simp;(go_at_call 32;have hq:=HYS.out _ (Nat.lt_of_lt_of_le M.lt M.but.size) M.new;with_reducible refine hq.mono ?_;clear hq;rintro e w5 ⟨am5,cm5,rfl,hb5,hD5⟩;replace M:=M.mpush hb5 hD5;clear hb5 hD5)));(try go_simp);with_reducible refine hK _ _ M.kept ?_;clear hK K)));(with_reducible refine m_nil ?_))
         go_upto_region 31 with(with_reducible (first|refine wq M ?_|(refine wS M ?_;clear M;intro w M)|(refine wV M ?_;clear M;intro z w M)|(refine wR M ?_;clear M;intro q w M)))
         ((refine wp_region_first [0,1,2,4,5,6,8] [(true,0),(true,1),(true,2),(true,4),(true,5),(true,6),(false,3),(false,7),(true,8)] (fun _ M=>M) M (by kernel_rfl) (by kernel_rfl) (fun _ _ _ _ _ h=>h) ?_);clear M;intro w M;(repeat(first|((with_reducible refine m_read rfl M.kept fun K hK=>?_);(first|(refine r_load (l' :=?_) ⟨_,M.kept⟩ (fun w M=>?_) ?_;rotate_left;focus((refine q_get M (by exact rfl) ?_);refine⟨rfl,?_⟩;with_reducible rfl))|(refine r_pure (v:=?_) rfl (fun w=>?_) ?_;rotate_left;focus(go_simp;try with_reducible rfl)));(try go_simp);with_reducible refine hK _ ?_;clear hK K)|((with_reducible refine m_step rfl rfl fun K hK=>?_);(first|((refine owp_of ?_;go_simp;(go_at_call 34;have hd:=M.dat_ (i:=0) rfl;have hq:=HB.out _ _ _ _ (Nat.lt_of_lt_of_le M.lt M.but.size) hd;with_reducible refine hq.mono ?_;clear hq hd;rintro e w5 ⟨rfl,hb5⟩;replace M:=M.below hb5;clear hb5)))|((refine owp_of ?_;go_simp;(go_at_call 33;with_reducible refine(HL.out _).mono ?_;rintro e w5 ⟨rfl,hb5⟩;replace M:=M.below hb5;clear hb5))));(try go_simp);with_reducible refine hK _ _ M.kept ?_;clear hK K)));(with_reducible refine m_nil ?_))
         go_wp2_with (first|(((with_reducible refine o_list rfl fun K hK=>?_);(refine q_app (R:=intF) (plainF_firm _) M 2 rfl u rfl (by rfl) (by rfl) HLN.out ?_;clear M;intro ra2 rc2 w M;(try simp only[List.set_cons_zero,List.set_cons_succ]at M));refine hK _ _ ?_;clear hK K))|(with_reducible (first|(refine w_ (q_rows M ?_);clear M;intro qz w M)|refine wq M ?_|(refine wS M ?_;clear M;intro w M))))
         go_roundg (n2 - (q+1))
         case measure=>omega
         case rel=>exact⟨q+1,_,_,by omega,by go_num,M.drop.drop,HNX⟩
       ·have e:n2=q:=by omega
        subst e
        have HNE:Hid (ns=x.nots.map (notW x D)):=by show _=_;rw[HNS.out,List.take_of_length_le (by have:=N2.out;omega)]
        clear HNS
        obtain⟨b2,d2,e1,M9⟩:=M.done (plainF_firm _) (by omega)
        clear M
        have M:=M9
        clear M9
        subst e1
        go_wp2_with (with_reducible refine wq M ?_)
        replace M:=M.none_ (R:=intF) (plainF_firm _) 3 1
        go_loopg [18] n3 (fun f' i wr=> ∃ (q:Nat) (lv:Value) (ms:List Int),q+f' =n3∧i= .int .i64 q∧Mem (StaysB g w0) g w0 wr ⟨0,0⟩ (slc w0.heap.size 3 1 intF lv ms::dat (fun F w=>SlF F w 1 intF b2 ns.length d2 ns)::dat (fun F w=>SlF F w 1 intF b1 W.length d1 W)::dat (MatD am (npts x []) cm f)::own zp [.int .i64 D,.slice b1 W.length d1,.slice b2 ns.length d2,lv] 28::own zr [.int .i64 0,.slice none 0 0,.slice none 0 0,.slice none 0 0] 28::own zb [.string x.name,.slice a1 n1 c1,.slice a2 n2 c2,.slice a3 n3 c3,.slice a4 n4 c4,.string x.etype,.slice a6 n6 c6] 47::[])∧Hid (ms=(x.manies.take q).map (fun m=>m.pat.n+D+1)))
        case atStart=>exact⟨0,_,[],by omega,rfl,M,Lib.hid rfl⟩
        case round=>
         clear M
         obtain⟨q,lv,ms,hq,rfl,M,HMS⟩:=hrel
         by_cases hlq3:q<n3
         ·have hil:q<x.manies.length:=by have:=N3.out;omega
          obtain⟨cp,op,rowp,hixp, -,hrrp,hwp⟩:=SlF.rowAt (P:=Tryz.prog) HX3.out manF_firm Tryz.underlying41 size_man (i:=q) hil
          obtain⟨a5,q5,c5,ep, -⟩:=manF.open20 hrrp
          subst ep
          have HMN:Hid (∀ wx,Below w0.heap.size w0 wx→wx.cell? ⟨cp,op+2+17,none⟩=some (.int .i64 x.manies[q].pat.n)):=fun wx hb=>(hwp wx hb).1 19 _ rfl
          have HMX:Hid (ms++[x.manies[q].pat.n+D+1]=(x.manies.take (q+1)).map (fun m=>m.pat.n+D+1)):=by show _=_;rw[HMS.out,List.take_add_one,List.getElem?_eq_getElem hil,List.map_append];rfl
          have HLN:Hid (ms.length≤100000):=by show _≤_;rw[HMS.out,List.length_map,List.length_take];omega
          have hmn:=HR.out.many _ (List.getElem_mem hil)
          clear hrrp hwp HMS
          generalize x.manies[q]=m at HMN HMX hmn
          have hwr2:IntKind.i64.wrap (m.pat.n+D)=m.pat.n+D:=IntWalk.i64_in _ (by omega)
          have hwr3:IntKind.i64.wrap (m.pat.n+D+1)=m.pat.n+D+1:=IntWalk.i64_in _ (by omega)
          clear hil
          go_upto_region 36 with(with_reducible refine wq M ?_)
          ((refine wp_region_first [0,1,2,3,4,5,6,7,8,9,10,11,12,15] [(true,0),(true,1),(true,2),(true,3),(true,4),(true,5),(true,6),(true,7),(true,8),(true,9),(true,10),(true,11),(true,12),(false,13),(false,14),(true,15),(false,16)] (fun _ M=>M.drop) M (by kernel_rfl) (by kernel_rfl) (fun _ _ _ _ _ h=>h) ?_);clear M;intro w M;(repeat(first|((with_reducible refine m_read rfl M.kept fun K hK=>?_);(first|(refine r_load (l' :=?_) ⟨_,M.kept⟩ (fun w M=>?_) ?_;rotate_left;focus((first|(refine q_cellat (HMN.out _ M.new) ?_)|refine q_get M (by exact rfl) ?_);refine⟨rfl,?_⟩;with_reducible rfl))|(refine r_pure (v:=?_) rfl (fun w=>?_) ?_;rotate_left;focus(go_simp;try with_reducible rfl)));(try go_simp);with_reducible refine hK _ ?_;clear hK K)|((with_reducible refine m_last rfl rfl (by with_unfolding_all decide+kernel) fun K hK=>?_);(((refine q_set M (by rfl) (by rfl) ?_);clear M;intro w M;(try simp only[List.set_cons_zero,List.set_cons_succ]at M)));(try go_simp);with_reducible refine hK _ _ ?_;clear hK K)|((with_reducible refine m_step rfl rfl fun K hK=>?_);(first|((refine q_rows M ?_;clear M;intro qz w M))|((refine q_app (R:=intF) (plainF_firm _) M 1 rfl (m.pat.n+D+1) rfl (by rfl) (by rfl) HLN.out ?_;clear M;intro ra2 rc2 w M;(try simp only[List.set_cons_zero,List.set_cons_succ]at M))));(try go_simp);with_reducible refine hK _ _ M.kept ?_;clear hK K)));(with_reducible refine m_nil ?_))
          go_wp2_with (with_reducible (first|refine wq M ?_|(refine wS M ?_;clear M;intro w M)|(refine wV M ?_;clear M;intro z w M)|(refine wR M ?_;clear M;intro q w M)))
          go_roundg (n3 - (q+1))
          case measure=>omega
          case rel=>exact⟨q+1,_,_,by omega,by go_num,M.drop,HMX⟩
         ·have e:n3=q:=by omega
          subst e
          have HME:Hid (ms=x.manies.map (fun m=>m.pat.n+D+1)):=by show _=_;rw[HMS.out,List.take_of_length_le (by have:=N3.out;omega)]
          clear HMS
          obtain⟨b3,d3,e1,M9⟩:=M.done (plainF_firm _) (by omega)
          clear M
          have M:=M9
          clear M9
          subst e1
          go_wp2_with (with_reducible (first|refine wq M ?_|(refine wS M ?_;clear M;intro w M)))
          refine q_ret2 M Tryz.results15 (by rfl) ⟨_,Tryz.underlying28,rfl⟩ ?_
          rw[HP2.out,HW.out,←HNE.out,←HME.out]
          exact⟨_,_,_,_,_,_,_,_,_,rfl,M.new,SlF.same (M.dat_ (i:=2) rfl) (plainF_firm _) (Same.wide fun k hk _=>hk.1),SlF.same (M.dat_ (i:=1) rfl) (plainF_firm _) (Same.wide fun k hk _=>hk.1),SlF.same (M.dat_ (i:=0) rfl) (plainF_firm _) (Same.wide fun k hk _=>hk.1)⟩
end
end Go.Proofs.YtncmghnhfipklaaGreatDoor
