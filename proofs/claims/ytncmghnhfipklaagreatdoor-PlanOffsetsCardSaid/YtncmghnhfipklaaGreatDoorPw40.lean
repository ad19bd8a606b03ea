/-
  The reference's offsets. Printed by poc.py.
-/
import Derived.Test.YtncmghnhfipklaaGreatDoorPw39
namespace Go.Proofs.YtncmghnhfipklaaGreatDoor
open Go.RowKit
set_option linter.unusedVariables false
set_option linter.unusedSimpArgs false
theorem upd_upd(f:Nat→Int)(k:Nat)(a v:Int):upd (upd f k a) k v=upd f k v:=by
 funext t
 unfold upd
 split
 ·rfl
 ·rfl
def raiseT(ts:List Typ)(f:Nat→Int)(x:Rul)(p:Pln)(k:Nat):Nat→Int:=fun t=>if t<k then raiseR (nameT ts t) (f t) x p else f t
theorem raiseT_next(ts:List Typ)(f:Nat→Int)(x:Rul)(p:Pln)(k:Nat):raiseT ts f x p (k+1)=upd (raiseT ts f x p k) k (raiseR (nameT ts k) (raiseT ts f x p k k) x p):=by
 funext t
 unfold raiseT upd
 by_cases e:t=k
 ·subst e
  rw[if_pos (Nat.lt_succ_self t),if_pos rfl,if_neg (Nat.lt_irrefl t)]
 ·rw[if_neg e]
  show(if t<k+1 then raiseR (nameT ts t) (f t) x p else f t)=(if t<k then raiseR (nameT ts t) (f t) x p else f t)
  by_cases h:t<k
  ·rw[if_pos h,if_pos (by omega)]
  ·rw[if_neg h,if_neg (by omega)]
section
variable {g:Nat} {F:Nat→Prop} {w0:World}
set_option maxRecDepth 8000 in
set_option maxHeartbeats 8000000 in
theorem roffsets_any(hg:g<w0.heap.size)(b:Bok)(a1:Option Addr)(n1 c1:Nat)(a2:Option Addr)(n2 c2:Nat)(X1:SlF F w0 2 typF a1 n1 c1 b.types)(X2:SlF F w0 7 rulF a2 n2 c2 b.rules)(h0:bookE b=0):Calls Tryz.prog 17 #[.agg #[.slice a1 n1 c1,.slice a2 n2 c2]] w0 (OffP (offR b) w0):=by
 have M:=Mem.begin hg ⟨0,0⟩
 have HB0:=Lib.hid h0
 have HBP:=Lib.hid (book_pl h0)
 have HX1:=Lib.hid X1
 have HX2:=Lib.hid X2
 have N1:=Lib.hid X1.len
 have N2:=Lib.hid X2.len
 have hle1:=X1.le
 have hle2:=X2.le
 have h6:n1≤6:=by have:=X1.len;have:=(book_pl h0).1;omega
 have hn5:n2≤5:=by have:=X2.len;have:=(book_pl h0).2.1;omega
 have h1000:n1≤1000:=by omega
 clear h0 X1 X2 hg
 go_enter Tryz.func17,Tryz.ntmps17
 go_wp2_with (first|(((with_reducible refine o_list rfl fun K hK=>?_);(refine q_makes M h1000 ?_;clear M;intro zo w M);refine hK _ _ ?_;clear hK K))|(with_reducible (first|(refine wB M ?_;clear M;intro zb w1 M)|refine wq M ?_)))
 go_loopg [5] n2 (fun f' i wr=> ∃ (k:Nat) (fn:Nat→Int),k+f' =n2∧i= .int .i64 k∧Mem (StaysB g w0) g w0 wr ⟨0,0⟩ (nums zo n1 fn::own zb [.slice a1 n1 c1,.slice a2 n2 c2] 25::[])∧Hid (∀ t,t<n1→fn t=offV b k t)∧Hid (AllZ (codeK b) k))
 case atStart=>exact⟨0,_,by omega,rfl,M,Lib.hid (fun t _=>rfl),Lib.hid (allZ_zero _)⟩
 case round=>
  clear M
  obtain⟨k,f0,hk,rfl,M,HF0,HA⟩:=hrel
  by_cases hlt:k<n2
  ·have hkl:k<b.rules.length:=by have:=N2.out;omega
   have hRP:=HBP.out.2.2 _ (List.getElem_mem hkl)
   obtain⟨cr,or,rowr,hixr, -,hrrr,hwr⟩:=SlF.rowAt (P:=Tryz.prog) HX2.out rulF_firm Tryz.underlying23 size_rul (i:=k) hkl
   obtain⟨b1,m1,e1,b2,m2,e2,b3,m3,e3,b4,m4,e4,b6,m6,e6,er,Y1,Y2,Y3,Y4, -⟩:=hrrr
   subst er
   have HRW:=Lib.hid (fun wx hb=>(hwr wx hb).1)
   have HRU:Hid (∀ wx,g<wx.heap.size→Below w0.heap.size w0 wx→Calls Tryz.prog 15 #[.agg #[.string b.rules[k].name,.slice b1 m1 e1,.slice b2 m2 e2,.slice b3 m3 e3,.slice b4 m4 e4,.string b.rules[k].etype,.slice b6 m6 e6]] wx (PlnP (planE b.rules[k]).1 (planE b.rules[k]).2 wx)):=fun wx h1 hb=>planned_any h1 (Y1.below patF_firm hb) (Y2.below patF_firm hb) (Y3.below manF_firm hb) (Y4.below lnkF_firm hb) hRP
   have HON:=Lib.hid (fun t=>offV_next hkl t)
   have HOS:Hid (∀ c,(planE b.rules[k]).2=c→c≠0→offR b=([],c)):=fun c h1 h2=>offR_stop HB0.out HA.out hkl h1 h2
   have HOZ:Hid ((planE b.rules[k]).2=0→AllZ (codeK b) (k+1)):=codeK_step HA.out hkl
   have HPL:Hid ((planE b.rules[k]).2=0→(planE b.rules[k]).1.whens.length=b.rules[k].whens.length∧(planE b.rules[k]).1.nots.length=b.rules[k].nots.length∧(planE b.rules[k]).1.manies.length=b.rules[k].manies.length):=plan_lens
   have hm:m1≤3∧m2≤2∧m3≤2:=by have:=Y1.len;have:=Y2.len;have:=Y3.len;have:=hRP.w3;have:=hRP.n2;have:=hRP.m2;omega
   have HY1:=Lib.hid Y1
   have HY2:=Lib.hid Y2
   have HY3:=Lib.hid Y3
   have hl1:=Y1.le
   have hl2:=Y2.le
   have hl3:=Y3.le
   have NY1:=Lib.hid Y1.len
   have NY2:=Lib.hid Y2.len
   have NY3:=Lib.hid Y3.len
   clear hwr hRP Y1 Y2 Y3 Y4
   unfold rulC at HRW
   generalize b.rules[k]=R at HRW HRU HON HOS HOZ HPL HY1 HY2 HY3 NY1 NY2 NY3
   clear hkl
   obtain⟨pc,hp⟩: ∃ pc,(planE R)=pc:=⟨_,rfl⟩
   rw[hp]at HRU HON HOS HOZ HPL
   obtain⟨p,c⟩:=pc
   unfold PlnP at HRU
   simp only at HRU HON HOS HOZ HPL
   clear hp
   have hrt:decide ((k:Int)<n2)=true:=by simpa using(by omega:(k:Int)<n2)
   by_cases hc:c=0
   ·subst hc
    replace HOZ:=Lib.hid (HOZ.out rfl)
    have hpl:=HPL.out rfl
    have HL1:=Lib.hid hpl.1
    have HL2:=Lib.hid hpl.2.1
    have HL3:=Lib.hid hpl.2.2
    have HLW1:Hid ((wL R p).length=m1):=by show _=_;unfold wL;simp;have:=NY1.out;omega
    have HLW2:Hid ((nL R p).length=m2):=by show _=_;unfold nL;simp;have:=NY2.out;omega
    have HLW3:Hid ((mL R p).length=m3):=by show _=_;unfold mL;simp;have:=NY3.out;omega
    clear hpl HPL HOS
    go_upto_region 6 with(with_reducible (first|(refine wV M ?_;clear M;intro zR w M)|refine wA (HRW.out _ M.new) ?_|refine wq M ?_|(refine wS M ?_;clear M;intro w M)))
    go_wp2_with (first|(go_at_call 15;have hq:=HRU.out _ (Nat.lt_of_lt_of_le M.lt M.but.size) M.new;with_reducible refine hq.mono ?_;clear hq;go_loud (rintro e w5 ⟨r1,l1,u1,r2,l2,u2,r3,l3,u3,rfl,hb5,hS1,hS2,hS3⟩;replace M:=M.dpush (plnD_firm p r1 l1 u1 r2 l2 u2 r3 l3 u3) hb5 (plnD_mk hS1 hS2 hS3);clear hb5 hS1 hS2 hS3))|(with_reducible (first|(refine wV M ?_;clear M;intro zp w M)|refine wq M ?_|(refine wS M ?_;clear M;intro w M))))
    replace M:=M.perm (List.perm_append_comm (l₁:=[_,_,_]) (l₂:=[_,_]))
    have hD:PlnD p r1 l1 u1 r2 l2 u2 r3 l3 u3 _ _:=M.dat_ (i:=3) rfl
    have HLL1:Hid (l1=m1):=by show _=_;rw[hD.1.len,HL1.out,←NY1.out]
    have HLL2:Hid (l2=m2):=by show _=_;rw[hD.2.1.len,HL2.out,←NY2.out]
    have HLL3:Hid (l3=m3):=by show _=_;rw[hD.2.2.len,HL3.out,←NY3.out]
    clear hD
    have hD:PlnD p r1 l1 u1 r2 l2 u2 r3 l3 u3 _ _:=M.dat_ (i:=3) rfl
    obtain⟨A1,o1,hi1,hx⟩:=ints_of hD.1
    clear hD
    replace M:=(M.adopt intsX_firm hx (fun k h _=>h)).turn3
    clear hx
    have HI1:=Lib.hid hi1
    clear hi1
    have hD:PlnD p r1 l1 u1 r2 l2 u2 r3 l3 u3 _ _:=M.dat_ (i:=4) rfl
    obtain⟨A2,o2,hi2,hx⟩:=ints_of hD.2.1
    clear hD
    replace M:=(M.adopt intsX_firm hx (fun k h _=>h)).turn3
    clear hx
    have HI2:=Lib.hid hi2
    clear hi2
    have hD:PlnD p r1 l1 u1 r2 l2 u2 r3 l3 u3 _ _:=M.dat_ (i:=5) rfl
    obtain⟨A3,o3,hi3,hx⟩:=ints_of hD.2.2
    clear hD
    replace M:=(M.adopt intsX_firm hx (fun k h _=>h)).turn3
    clear hx
    have HI3:=Lib.hid hi3
    clear hi3
    go_loopg [9] n1 (fun f' i wr=> ∃ (t:Nat) (fn:Nat→Int),t+f' =n1∧i= .int .i64 t∧Mem (StaysB g w0) g w0 wr ⟨0,0⟩ (nums zo n1 fn::own zb [.slice a1 n1 c1,.slice a2 n2 c2] 25::dat (IntsX A3 o3 l3 p.manies)::dat (IntsX A2 o2 l2 p.nots)::dat (IntsX A1 o1 l1 p.whens)::own zp [.int .i64 p.delay,.slice r1 l1 u1,.slice r2 l2 u2,.slice r3 l3 u3] 28::dat (PlnD p r1 l1 u1 r2 l2 u2 r3 l3 u3)::own zR [.string R.name,.slice b1 m1 e1,.slice b2 m2 e2,.slice b3 m3 e3,.slice b4 m4 e4,.string R.etype,.slice b6 m6 e6] 47::[])∧Hid (fn=raiseT b.types f0 R p t))
    case atStart=>exact⟨0,_,by omega,rfl,M,Lib.hid (funext fun t=>(if_neg (Nat.not_lt_zero t)).symm)⟩
    case round=>
     clear M
     simp only[hrt]at *
     obtain⟨t,base,ht,rfl,M,HT⟩:=hrel
     by_cases hltt:t<n1
     ·have htl:t<b.types.length:=by have:=N1.out;omega
      obtain⟨ct,ot,rowt,hixt, -,hrrt,hwt⟩:=SlF.rowAt (P:=Tryz.prog) HX1.out typF_firm Tryz.underlying22 size_typ (i:=t) htl
      obtain⟨a7,q7,c7,et, -⟩:=hrrt
      subst et
      have HCT:Hid (∀ wx,Below w0.heap.size w0 wx→wx.cell? ⟨ct,ot,none⟩=some (.string b.types[t].name)):=fun wx hb=>(hwt wx hb).1 0 _ rfl
      have HTN:=Lib.hid (nameT_at htl)
      have HFT:Hid (upd base t (raiseR (nameT b.types t) (base t) R p)=raiseT b.types f0 R p (t+1)):=by show _=_;rw[raiseT_next,HT.out]
      have HBT:Hid (upd base t (base t)=base):=upd_self _ _
      have htt:decide ((t:Int)<n1)=true:=by simpa using(by omega:(t:Int)<n1)
      clear hwt HT
      generalize b.types[t].name=tn at HCT HTN
      clear htl
      go_wp2_with (with_reducible (first|refine wq M ?_|(refine wS M ?_;clear M;intro w M)|(refine wV M ?_;clear M;intro z w M)|(refine wR M ?_;clear M;intro q w M)))
      go_loopg [10] m1 (fun f' i wr=> ∃ (q:Nat),q+f' =m1∧i= .int .i64 q∧Mem (StaysB g w0) g w0 wr ⟨0,0⟩ (nums zo n1 (upd base t (FW (nameT b.types t) (base t) (wL R p) q))::own zb [.slice a1 n1 c1,.slice a2 n2 c2] 25::dat (IntsX A3 o3 l3 p.manies)::dat (IntsX A2 o2 l2 p.nots)::dat (IntsX A1 o1 l1 p.whens)::own zp [.int .i64 p.delay,.slice r1 l1 u1,.slice r2 l2 u2,.slice r3 l3 u3] 28::dat (PlnD p r1 l1 u1 r2 l2 u2 r3 l3 u3)::own zR [.string R.name,.slice b1 m1 e1,.slice b2 m2 e2,.slice b3 m3 e3,.slice b4 m4 e4,.string R.etype,.slice b6 m6 e6] 47::[]))
      case atStart=>exact⟨0,by omega,rfl,by rw[FW_zero,HBT.out];exact M⟩
      case round=>
       clear M
       (try simp only[hrt,htt]at *)
       obtain⟨q,hq,rfl,M⟩:=hrel
       by_cases hlq:q<m1
       ·have hil:q<R.whens.length:=by have:=NY1.out;omega
        obtain⟨cp,op,rowp,hixp, -,hrrp,hwp⟩:=SlF.rowAt (P:=Tryz.prog) HY1.out patF_firm Tryz.underlying40 size_pat (i:=q) hil
        obtain⟨a5,q5,c5,ep, -⟩:=patF.open18 hrrp
        subst ep
        have HCP:Hid (∀ wx,Below w0.heap.size w0 wx→wx.cell? ⟨cp,op+1,none⟩=some (.string (R.whens[q]).type)):=fun wx hb=>(hwp wx hb).1 1 _ rfl
        have HFX:=Lib.hid (FW_next (nameT b.types t) (base t) (f:=Pat.type) hil HL1.out)
        replace HFX:Hid (FW (nameT b.types t) (base t) (wL R p) (q+1)=raise1 (nameT b.types t) (FW (nameT b.types t) (base t) (wL R p) q) ((R.whens[q]).type,p.whens.getD q 0)):=HFX
        clear hrrp hwp
        generalize R.whens[q]=y at HCP HFX
        clear hil
        have hql:q<l1:=by have:=HLL1.out;omega
        have hixv:=HI1.out q hql
        have hixo:=fun wx=>nums_ix (z:=zo) hltt wx
        obtain⟨v,hv⟩: ∃ v,p.whens.getD q 0=v:=⟨_,rfl⟩
        have HVV:Hid ((some (Value.int .i64 (p.whens.getD q 0)):Option Value)=some (.int .i64 v)):=by show _=_;rw[hv]
        rw[hv]at HFX
        clear hv
        rw[HTN.out]at HFX
        obtain⟨cu,hcu⟩: ∃ cu,(FW (nameT b.types t) (base t) (wL R p) q)=cu:=⟨_,rfl⟩
        rw[←HTN.out]at HFX
        rw[hcu]at HFX M
        clear hcu
        rw[HTN.out]at HFX
        have HUA:Hid ((some (Value.int .i64 (upd base t cu t)):Option Value)=some (.int .i64 cu)):=by show _=_;unfold upd;rw[if_pos rfl]
        cases hsm:sameS tn ((y).type)with
        |false=>
         have hq2:(((y).type).toList==tn.toList)=false:=by rw[sameS_comm]at hsm;exact hsm
         have HN:Hid (FW (nameT b.types t) (base t) (wL R p) (q+1)=cu):=by show _=_;rw[HTN.out,HFX.out];unfold raise1;rw[if_neg (by rw[hsm];decide)]
         clear hsm HFX
         go_upto_region 15 with(with_reducible refine wq M ?_)
         ((refine wp_region_still_lit (by kernel_rfl) (by kernel_rfl) ?_);(change wpStill _ _ (World.drew _) _ _ _);replace M:=M.drew;(repeat(first|((with_reducible refine s_list rfl fun K hK=>?_);refine s_load ?_;(first|(refine q_cellat (HCP.out _ M.new) ?_)|(refine q_cellat (HCT.out _ M.new) ?_)|refine q_get M (by exact rfl) ?_);refine⟨rfl,hK _ ?_⟩;clear hK K)|(with_reducible refine s_skipT ?_)|((with_reducible refine s_list rfl fun K hK=>?_);refine s_pure ?_;go_simp;with_reducible refine hK _ ?_;clear hK K)));(with_reducible refine wpStill_nil ?_))
         go_wp2_with (with_reducible (first|refine wq M ?_|(refine wS M ?_;clear M;intro w M)|(refine wV M ?_;clear M;intro z w M)|(refine wR M ?_;clear M;intro q w M)))
         go_roundg (m1 - (q+1))
         case measure=>omega
         case rel=>exact⟨q+1,by omega,by go_num,by rw[HN.out];exact M⟩
        |true=>
         have hq2:(((y).type).toList==tn.toList)=true:=by rw[sameS_comm]at hsm;exact hsm
         have HFY:Hid (FW (nameT b.types t) (base t) (wL R p) (q+1)=max cu v):=by show _=_;rw[HTN.out,HFX.out];unfold raise1;rw[if_pos hsm]
         clear hsm HFX
         go_upto_region 15 with(with_reducible refine wq M ?_)
         ((refine wp_region_still_lit (by kernel_rfl) (by kernel_rfl) ?_);(change wpStill _ _ (World.drew _) _ _ _);replace M:=M.drew;(repeat(first|((with_reducible refine s_list rfl fun K hK=>?_);refine s_load ?_;(first|(refine q_cellat (HCP.out _ M.new) ?_)|(refine q_cellat (HCT.out _ M.new) ?_)|refine q_get M (by exact rfl) ?_);refine⟨rfl,hK _ ?_⟩;clear hK K)|((with_reducible refine s_listg fun K hK=>?_);refine s_load ?_;(first|(refine q_cellat ((M.icell (i:=4) rfl hql).trans HVV.out) ?_)|(refine q_cellat ((M.ncell (i:=0) rfl hltt).trans HUA.out) ?_)|refine q_get M (by exact rfl) ?_);refine⟨rfl,hK _ ?_⟩;clear hK K)|((first|(with_reducible refine s_list rfl fun K hK=>?_)|(with_reducible refine s_listg fun K hK=>?_));refine s_pure ?_;go_simp;refine hK _ ?_;clear hK K)));(refine wpStill_nil ?_))
         by_cases hcv:cu<v
         ·have hcd:decide (cu<v)=true:=by simpa using hcv
          have HN:Hid (upd base t (FW (nameT b.types t) (base t) (wL R p) (q+1))=upd (upd base t cu) t v):=by show _=_;rw[upd_upd,HFY.out,show max cu v=v by omega]
          go_wp2_with (first|(((with_reducible refine o_list rfl fun K hK=>?_);refine q_cellat ((M.icell (i:=4) rfl hql).trans HVV.out) ?_;refine hK _ _ ?_;clear hK K))|(((with_reducible refine o_list rfl fun K hK=>?_);(refine q_nput M (i:=0) rfl hltt ?_;clear M;intro w M;(try simp only[List.set_cons_zero]at M));refine hK _ _ ?_;clear hK K))|(with_reducible refine wq M ?_))
          go_roundg (m1 - (q+1))
          case measure=>omega
          case rel=>exact⟨q+1,by omega,by go_num,by rw[HN.out];exact M⟩
         ·have hcd:decide (cu<v)=false:=by simpa using hcv
          have HN:Hid (FW (nameT b.types t) (base t) (wL R p) (q+1)=cu):=by show _=_;rw[HFY.out];omega
          go_wp2_with (with_reducible (first|refine wq M ?_|(refine wS M ?_;clear M;intro w M)|(refine wV M ?_;clear M;intro z w M)|(refine wR M ?_;clear M;intro q w M)))
          go_roundg (m1 - (q+1))
          case measure=>omega
          case rel=>exact⟨q+1,by omega,by go_num,by rw[HN.out];exact M⟩
       ·have e:m1=q:=by omega
        subst e
        obtain⟨cu1,hcu⟩: ∃ cu,FW (nameT b.types t) (base t) (wL R p) m1=cu:=⟨_,rfl⟩
        have HF1:Hid (cu1=(wL R p).foldl (raise1 (nameT b.types t)) (base t)):=by show _=_;rw[←hcu,FW_all _ _ (by rw[HLW1.out];exact Nat.le_refl _)]
        rw[hcu]at M
        clear hcu
        go_wp2_with (with_reducible refine wq M ?_)
        go_loopg [11] m2 (fun f' i wr=> ∃ (q:Nat),q+f' =m2∧i= .int .i64 q∧Mem (StaysB g w0) g w0 wr ⟨0,0⟩ (nums zo n1 (upd base t (FW (nameT b.types t) cu1 (nL R p) q))::own zb [.slice a1 n1 c1,.slice a2 n2 c2] 25::dat (IntsX A3 o3 l3 p.manies)::dat (IntsX A2 o2 l2 p.nots)::dat (IntsX A1 o1 l1 p.whens)::own zp [.int .i64 p.delay,.slice r1 l1 u1,.slice r2 l2 u2,.slice r3 l3 u3] 28::dat (PlnD p r1 l1 u1 r2 l2 u2 r3 l3 u3)::own zR [.string R.name,.slice b1 m1 e1,.slice b2 m2 e2,.slice b3 m3 e3,.slice b4 m4 e4,.string R.etype,.slice b6 m6 e6] 47::[]))
        case atStart=>exact⟨0,by omega,rfl,by rw[FW_zero];exact M⟩
        case round=>
         clear M
         obtain⟨q,hq,rfl,M⟩:=hrel
         by_cases hlq:q<m2
         ·have hil:q<R.nots.length:=by have:=NY2.out;omega
          obtain⟨cp,op,rowp,hixp, -,hrrp,hwp⟩:=SlF.rowAt (P:=Tryz.prog) HY2.out patF_firm Tryz.underlying40 size_pat (i:=q) hil
          obtain⟨a5,q5,c5,ep, -⟩:=patF.open18 hrrp
          subst ep
          have HCP:Hid (∀ wx,Below w0.heap.size w0 wx→wx.cell? ⟨cp,op+1,none⟩=some (.string (R.nots[q]).type)):=fun wx hb=>(hwp wx hb).1 1 _ rfl
          have HFX:=Lib.hid (FW_next (nameT b.types t) cu1 (f:=Pat.type) hil HL2.out)
          replace HFX:Hid (FW (nameT b.types t) cu1 (nL R p) (q+1)=raise1 (nameT b.types t) (FW (nameT b.types t) cu1 (nL R p) q) ((R.nots[q]).type,p.nots.getD q 0)):=HFX
          clear hrrp hwp
          generalize R.nots[q]=y at HCP HFX
          clear hil
          have hql:q<l2:=by have:=HLL2.out;omega
          have hixv:=HI2.out q hql
          have hixo:=fun wx=>nums_ix (z:=zo) hltt wx
          obtain⟨v,hv⟩: ∃ v,p.nots.getD q 0=v:=⟨_,rfl⟩
          have HVV:Hid ((some (Value.int .i64 (p.nots.getD q 0)):Option Value)=some (.int .i64 v)):=by show _=_;rw[hv]
          rw[hv]at HFX
          clear hv
          rw[HTN.out]at HFX
          obtain⟨cu,hcu⟩: ∃ cu,(FW (nameT b.types t) cu1 (nL R p) q)=cu:=⟨_,rfl⟩
          rw[←HTN.out]at HFX
          rw[hcu]at HFX M
          clear hcu
          rw[HTN.out]at HFX
          have HUA:Hid ((some (Value.int .i64 (upd base t cu t)):Option Value)=some (.int .i64 cu)):=by show _=_;unfold upd;rw[if_pos rfl]
          cases hsm:sameS tn ((y).type)with
          |false=>
           have hq2:(((y).type).toList==tn.toList)=false:=by rw[sameS_comm]at hsm;exact hsm
           have HN:Hid (FW (nameT b.types t) cu1 (nL R p) (q+1)=cu):=by show _=_;rw[HTN.out,HFX.out];unfold raise1;rw[if_neg (by rw[hsm];decide)]
           clear hsm HFX
           go_upto_region 20 with(with_reducible refine wq M ?_)
           ((refine wp_region_still_lit (by kernel_rfl) (by kernel_rfl) ?_);(change wpStill _ _ (World.drew _) _ _ _);replace M:=M.drew;(repeat(first|((with_reducible refine s_list rfl fun K hK=>?_);refine s_load ?_;(first|(refine q_cellat (HCP.out _ M.new) ?_)|(refine q_cellat (HCT.out _ M.new) ?_)|refine q_get M (by exact rfl) ?_);refine⟨rfl,hK _ ?_⟩;clear hK K)|(with_reducible refine s_skipT ?_)|((with_reducible refine s_list rfl fun K hK=>?_);refine s_pure ?_;go_simp;with_reducible refine hK _ ?_;clear hK K)));(with_reducible refine wpStill_nil ?_))
           go_wp2_with (with_reducible (first|refine wq M ?_|(refine wS M ?_;clear M;intro w M)|(refine wV M ?_;clear M;intro z w M)|(refine wR M ?_;clear M;intro q w M)))
           go_roundg (m2 - (q+1))
           case measure=>omega
           case rel=>exact⟨q+1,by omega,by go_num,by rw[HN.out];exact M⟩
          |true=>
           have hq2:(((y).type).toList==tn.toList)=true:=by rw[sameS_comm]at hsm;exact hsm
           have HFY:Hid (FW (nameT b.types t) cu1 (nL R p) (q+1)=max cu v):=by show _=_;rw[HTN.out,HFX.out];unfold raise1;rw[if_pos hsm]
           clear hsm HFX
           go_upto_region 20 with(with_reducible refine wq M ?_)
           ((refine wp_region_still_lit (by kernel_rfl) (by kernel_rfl) ?_);(change wpStill _ _ (World.drew _) _ _ _);replace M:=M.drew;(repeat(first|((with_reducible refine s_list rfl fun K hK=>?_);refine s_load ?_;(first|(refine q_cellat (HCP.out _ M.new) ?_)|(refine q_cellat (HCT.out _ M.new) ?_)|refine q_get M (by exact rfl) ?_);refine⟨rfl,hK _ ?_⟩;clear hK K)|((with_reducible refine s_listg fun K hK=>?_);refine s_load ?_;(first|(refine q_cellat ((M.icell (i:=3) rfl hql).trans HVV.out) ?_)|(refine q_cellat ((M.ncell (i:=0) rfl hltt).trans HUA.out) ?_)|refine q_get M (by exact rfl) ?_);refine⟨rfl,hK _ ?_⟩;clear hK K)|((first|(with_reducible refine s_list rfl fun K hK=>?_)|(with_reducible refine s_listg fun K hK=>?_));refine s_pure ?_;go_simp;refine hK _ ?_;clear hK K)));(refine wpStill_nil ?_))
           by_cases hcv:cu<v
           ·have hcd:decide (cu<v)=true:=by simpa using hcv
            have HN:Hid (upd base t (FW (nameT b.types t) cu1 (nL R p) (q+1))=upd (upd base t cu) t v):=by show _=_;rw[upd_upd,HFY.out,show max cu v=v by omega]
            go_wp2_with (first|(((with_reducible refine o_list rfl fun K hK=>?_);refine q_cellat ((M.icell (i:=3) rfl hql).trans HVV.out) ?_;refine hK _ _ ?_;clear hK K))|(((with_reducible refine o_list rfl fun K hK=>?_);(refine q_nput M (i:=0) rfl hltt ?_;clear M;intro w M;(try simp only[List.set_cons_zero]at M));refine hK _ _ ?_;clear hK K))|(with_reducible refine wq M ?_))
            go_roundg (m2 - (q+1))
            case measure=>omega
            case rel=>exact⟨q+1,by omega,by go_num,by rw[HN.out];exact M⟩
           ·have hcd:decide (cu<v)=false:=by simpa using hcv
            have HN:Hid (FW (nameT b.types t) cu1 (nL R p) (q+1)=cu):=by show _=_;rw[HFY.out];omega
            go_wp2_with (with_reducible (first|refine wq M ?_|(refine wS M ?_;clear M;intro w M)|(refine wV M ?_;clear M;intro z w M)|(refine wR M ?_;clear M;intro q w M)))
            go_roundg (m2 - (q+1))
            case measure=>omega
            case rel=>exact⟨q+1,by omega,by go_num,by rw[HN.out];exact M⟩
         ·have e:m2=q:=by omega
          subst e
          obtain⟨cu2,hcu⟩: ∃ cu,FW (nameT b.types t) cu1 (nL R p) m2=cu:=⟨_,rfl⟩
          have HF2:Hid (cu2=(nL R p).foldl (raise1 (nameT b.types t)) cu1):=by show _=_;rw[←hcu,FW_all _ _ (by rw[HLW2.out];exact Nat.le_refl _)]
          rw[hcu]at M
          clear hcu
          go_wp2_with (with_reducible refine wq M ?_)
          go_loopg [12] m3 (fun f' i wr=> ∃ (q:Nat),q+f' =m3∧i= .int .i64 q∧Mem (StaysB g w0) g w0 wr ⟨0,0⟩ (nums zo n1 (upd base t (FW (nameT b.types t) cu2 (mL R p) q))::own zb [.slice a1 n1 c1,.slice a2 n2 c2] 25::dat (IntsX A3 o3 l3 p.manies)::dat (IntsX A2 o2 l2 p.nots)::dat (IntsX A1 o1 l1 p.whens)::own zp [.int .i64 p.delay,.slice r1 l1 u1,.slice r2 l2 u2,.slice r3 l3 u3] 28::dat (PlnD p r1 l1 u1 r2 l2 u2 r3 l3 u3)::own zR [.string R.name,.slice b1 m1 e1,.slice b2 m2 e2,.slice b3 m3 e3,.slice b4 m4 e4,.string R.etype,.slice b6 m6 e6] 47::[]))
          case atStart=>exact⟨0,by omega,rfl,by rw[FW_zero];exact M⟩
          case round=>
           clear M
           obtain⟨q,hq,rfl,M⟩:=hrel
           by_cases hlq:q<m3
           ·have hil:q<R.manies.length:=by have:=NY3.out;omega
            obtain⟨cp,op,rowp,hixp, -,hrrp,hwp⟩:=SlF.rowAt (P:=Tryz.prog) HY3.out manF_firm Tryz.underlying41 size_man (i:=q) hil
            obtain⟨a5,q5,c5,ep, -⟩:=manF.open20 hrrp
            subst ep
            have HCP:Hid (∀ wx,Below w0.heap.size w0 wx→wx.cell? ⟨cp,op+2+1,none⟩=some (.string (R.manies[q]).pat.type)):=fun wx hb=>(hwp wx hb).1 3 _ rfl
            have HFX:=Lib.hid (FW_next (nameT b.types t) cu2 (f:=(fun m:Many=>m.pat.type)) hil HL3.out)
            replace HFX:Hid (FW (nameT b.types t) cu2 (mL R p) (q+1)=raise1 (nameT b.types t) (FW (nameT b.types t) cu2 (mL R p) q) ((R.manies[q]).pat.type,p.manies.getD q 0)):=HFX
            clear hrrp hwp
            generalize R.manies[q]=y at HCP HFX
            clear hil
            have hql:q<l3:=by have:=HLL3.out;omega
            have hixv:=HI3.out q hql
            have hixo:=fun wx=>nums_ix (z:=zo) hltt wx
            obtain⟨v,hv⟩: ∃ v,p.manies.getD q 0=v:=⟨_,rfl⟩
            have HVV:Hid ((some (Value.int .i64 (p.manies.getD q 0)):Option Value)=some (.int .i64 v)):=by show _=_;rw[hv]
            rw[hv]at HFX
            clear hv
            rw[HTN.out]at HFX
            obtain⟨cu,hcu⟩: ∃ cu,(FW (nameT b.types t) cu2 (mL R p) q)=cu:=⟨_,rfl⟩
            rw[←HTN.out]at HFX
            rw[hcu]at HFX M
            clear hcu
            rw[HTN.out]at HFX
            have HUA:Hid ((some (Value.int .i64 (upd base t cu t)):Option Value)=some (.int .i64 cu)):=by show _=_;unfold upd;rw[if_pos rfl]
            cases hsm:sameS tn ((y).pat.type)with
            |false=>
             have hq2:(((y).pat.type).toList==tn.toList)=false:=by rw[sameS_comm]at hsm;exact hsm
             have HN:Hid (FW (nameT b.types t) cu2 (mL R p) (q+1)=cu):=by show _=_;rw[HTN.out,HFX.out];unfold raise1;rw[if_neg (by rw[hsm];decide)]
             clear hsm HFX
             go_upto_region 25 with(with_reducible refine wq M ?_)
             ((refine wp_region_still_lit (by kernel_rfl) (by kernel_rfl) ?_);(change wpStill _ _ (World.drew _) _ _ _);replace M:=M.drew;(repeat(first|((with_reducible refine s_list rfl fun K hK=>?_);refine s_load ?_;(first|(refine q_cellat (HCP.out _ M.new) ?_)|(refine q_cellat (HCT.out _ M.new) ?_)|refine q_get M (by exact rfl) ?_);refine⟨rfl,hK _ ?_⟩;clear hK K)|(with_reducible refine s_skipT ?_)|((with_reducible refine s_list rfl fun K hK=>?_);refine s_pure ?_;go_simp;with_reducible refine hK _ ?_;clear hK K)));(with_reducible refine wpStill_nil ?_))
             go_wp2_with (with_reducible (first|refine wq M ?_|(refine wS M ?_;clear M;intro w M)|(refine wV M ?_;clear M;intro z w M)|(refine wR M ?_;clear M;intro q w M)))
             go_roundg (m3 - (q+1))
             case measure=>omega
             case rel=>exact⟨q+1,by omega,by go_num,by rw[HN.out];exact M⟩
            |true=>
             have hq2:(((y).pat.type).toList==tn.toList)=true:=by rw[sameS_comm]at hsm;exact hsm
             have HFY:Hid (FW (nameT b.types t) cu2 (mL R p) (q+1)=max cu v):=by show _=_;rw[HTN.out,HFX.out];unfold raise1;rw[if_pos hsm]
             clear hsm HFX
             go_upto_region 25 with(with_reducible refine wq M ?_)
             ((refine wp_region_still_lit (by kernel_rfl) (by kernel_rfl) ?_);(change wpStill _ _ (World.drew _) _ _ _);replace M:=M.drew;(repeat(first|((with_reducible refine s_list rfl fun K hK=>?_);refine s_load ?_;(first|(refine q_cellat (HCP.out _ M.new) ?_)|(refine q_cellat (HCT.out _ M.new) ?_)|refine q_get M (by exact rfl) ?_);refine⟨rfl,hK _ ?_⟩;clear hK K)|((with_reducible refine s_listg fun K hK=>?_);refine s_load ?_;(first|(refine q_cellat ((M.icell (i:=2) rfl hql).trans HVV.out) ?_)|(refine q_cellat ((M.ncell (i:=0) rfl hltt).trans HUA.out) ?_)|refine q_get M (by exact rfl) ?_);refine⟨rfl,hK _ ?_⟩;clear hK K)|((first|(with_reducible refine s_list rfl fun K hK=>?_)|(with_reducible refine s_listg fun K hK=>?_));refine s_pure ?_;go_simp;refine hK _ ?_;clear hK K)));(refine wpStill_nil ?_))
             by_cases hcv:cu<v
             ·have hcd:decide (cu<v)=true:=by simpa using hcv
              have HN:Hid (upd base t (FW (nameT b.types t) cu2 (mL R p) (q+1))=upd (upd base t cu) t v):=by show _=_;rw[upd_upd,HFY.out,show max cu v=v by omega]
              go_wp2_with (first|(((with_reducible refine o_list rfl fun K hK=>?_);refine q_cellat ((M.icell (i:=2) rfl hql).trans HVV.out) ?_;refine hK _ _ ?_;clear hK K))|(((with_reducible refine o_list rfl fun K hK=>?_);(refine q_nput M (i:=0) rfl hltt ?_;clear M;intro w M;(try simp only[List.set_cons_zero]at M));refine hK _ _ ?_;clear hK K))|(with_reducible refine wq M ?_))
              go_roundg (m3 - (q+1))
              case measure=>omega
              case rel=>exact⟨q+1,by omega,by go_num,by rw[HN.out];exact M⟩
             ·have hcd:decide (cu<v)=false:=by simpa using hcv
              have HN:Hid (FW (nameT b.types t) cu2 (mL R p) (q+1)=cu):=by show _=_;rw[HFY.out];omega
              go_wp2_with (with_reducible (first|refine wq M ?_|(refine wS M ?_;clear M;intro w M)|(refine wV M ?_;clear M;intro z w M)|(refine wR M ?_;clear M;intro q w M)))
              go_roundg (m3 - (q+1))
              case measure=>omega
              case rel=>exact⟨q+1,by omega,by go_num,by rw[HN.out];exact M⟩
           ·have e:m3=q:=by omega
            subst e
            have HF3:Hid (upd base t (FW (nameT b.types t) cu2 (mL R p) m3)=upd base t (raiseR (nameT b.types t) (base t) R p)):=by show _=_;rw[FW_all _ _ (by rw[HLW3.out];exact Nat.le_refl _),raise_three,←HF1.out,←HF2.out]
            rw[HF3.out]at M
            go_wp2_with (with_reducible refine wq M ?_)
            go_roundg (n1 - (t+1))
            case measure=>omega
            case rel=>exact⟨t+1,_,by omega,by go_num,M,HFT.out⟩
     ·have e:n1=t:=by omega
      have HFE:Hid (∀ s,s<n1→base s=offV b (k+1) s):=fun s hs=>by rw[HON.out s,HT.out,←HF0.out s hs];unfold raiseT;rw[if_pos (by omega)]
      subst e
      clear HT
      go_wp2_with (with_reducible (first|refine wq M ?_|(refine wS M ?_;clear M;intro w M)|(refine wV M ?_;clear M;intro z w M)|(refine wR M ?_;clear M;intro q w M)))
      go_roundg (n2 - (k+1))
      case measure=>omega
      case rel=>exact⟨k+1,_,by omega,by go_num,(((((M.cut [_,_]).cut [_,_]).cut [_,_]).cut [_,_]).cut [_,_]).cut [_,_],HFE,HOZ.out⟩
   ·have hqb:(c==0)=false:=by simpa using hc
    have hqc:(c !=0)=true:=by simpa using hc
    have HV:=Lib.hid (HOS.out c rfl hc)
    clear hc HOS HOZ HPL HON
    go_wp2_with (first|(go_at_call 15;have hq:=HRU.out _ (Nat.lt_of_lt_of_le M.lt M.but.size) M.new;with_reducible refine hq.mono ?_;clear hq;go_loud (rintro e w5 ⟨r1,l1,u1,r2,l2,u2,r3,l3,u3,rfl,hb5,hS1,hS2,hS3⟩;replace M:=M.dpush (plnD_firm p r1 l1 u1 r2 l2 u2 r3 l3 u3) hb5 (plnD_mk hS1 hS2 hS3);clear hb5 hS1 hS2 hS3))|(with_reducible (first|(refine wV M ?_;clear M;intro zR w M)|refine wA (HRW.out _ M.new) ?_|refine wq M ?_|(refine wS M ?_;clear M;intro w M))))
    go_ret2
    rw[HV.out]
    exact⟨_,_,_,rfl,M.new,SlF.nil⟩
  ·have e:n2=k:=by omega
   have HV:Hid (offR b=((List.range b.types.length).map (offV b b.rules.length),0)):=offR_end HB0.out (by rw[←N2.out,e];exact HA.out)
   have HFE:Hid (∀ t,t<n1→f0 t=offV b b.rules.length t):=fun t ht=>by rw[HF0.out t ht,←N2.out,e]
   subst e
   clear HF0 HA
   go_wp2_with (with_reducible refine wq M ?_)
   go_ret2
   rw[HV.out]
   have h1:=M.ne (Mem.of_get (i:=0) rfl)
   have h2:=M.nslf (i:=0) rfl h1000
   rw[show(List.range b.types.length).map (offV b b.rules.length)=(List.range n1).map f0 by rw[←N1.out];exact List.map_congr_left fun t ht=>(HFE.out t (List.mem_range.1 ht)).symm]
   exact⟨_,_,_,rfl,M.new,SlF.same h2 (plainF_firm _) (Same.wide fun k hk _=>by unfold from_;rw[hk];exact h1.1)⟩
end
end Go.Proofs.YtncmghnhfipklaaGreatDoor
