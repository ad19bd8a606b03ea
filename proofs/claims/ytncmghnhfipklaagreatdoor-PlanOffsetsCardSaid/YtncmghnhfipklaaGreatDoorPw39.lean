/-
  plan.Offsets. Printed by pob.py.
-/
import Derived.Test.YtncmghnhfipklaaGreatDoorPw38
namespace Go.Proofs.YtncmghnhfipklaaGreatDoor
open Go.RowKit
set_option linter.unusedVariables false
set_option linter.unusedSimpArgs false
theorem zIts:(Tryz.prog.info? 26).map (·.zero)=some (some (.slice none 0 0)):=by kernel_rfl
section
variable {g:Nat} {F:Nat→Prop} {w0:World}
set_option maxRecDepth 8000 in
set_option maxHeartbeats 8000000 in
theorem offsets_bad(hg:g<w0.heap.size)(E:Env F w0)(hF: ∀ b,F b→b<w0.heap.size)(b:Bok)(a1:Option Addr)(n1 c1:Nat)(a2:Option Addr)(n2 c2:Nat)(X1:SlF F w0 2 typF a1 n1 c1 b.types)(X2:SlF F w0 7 rulF a2 n2 c2 b.rules)(hts: ∀ t∈b.types,typOk t)(hrs: ∀ x∈b.rules,RulFit x)(hes: ∀ x∈b.rules,x.etype.size≤maxLen)(h0:bookE b≠0):Calls Tryz.prog 8 #[.agg #[.slice a1 n1 c1,.slice a2 n2 c2]] w0 (OffP (offR b) w0):=by
 have M:=Mem.begin hg ⟨0,0⟩
 have HC:Hid (∀ wx,Below w0.heap.size w0 wx→Calls Tryz.prog 11 #[.agg #[.slice a1 n1 c1,.slice a2 n2 c2]] wx fun e w' =>e= .returned (.int .i64 (bookE b))∧Below wx.heap.size wx w'):=fun wx hb=>check_any (Nat.lt_of_lt_of_le hg hb.size) (E.below hb) (fun k hk=>Nat.lt_of_lt_of_le (hF k hk) hb.size) b a1 n1 c1 a2 n2 c2 (X1.below typF_firm hb) (X2.below rulF_firm hb) hts hrs hes
 have HV:Hid (offR b=([],bookE b)):=offR_bad h0
 have hqb:(bookE b==0)=false:=by simpa using h0
 have hqc:(bookE b !=0)=true:=by simpa using h0
 generalize bookE b=q at HC HV hqb hqc
 clear h0 X1 X2 hts hrs hes hg hF E
 go_enter Tryz.func8,Tryz.ntmps8
 go_wp2_with (first|(go_at_call 11;with_reducible refine(HC.out _ M.new).mono ?_;rintro e w5 ⟨rfl,hb5⟩;replace M:=M.below hb5;clear hb5)|(with_reducible (first|(refine wB M ?_;clear M;intro zb w1 M)|refine wq M ?_)))
 go_ret2
 rw[HV.out]
 exact⟨_,_,_,rfl,M.new,SlF.nil⟩
set_option maxRecDepth 8000 in
set_option maxHeartbeats 8000000 in
theorem offsets_main(hg:g<w0.heap.size)(E:Env F w0)(hF: ∀ b,F b→b<w0.heap.size)(b:Bok)(a1:Option Addr)(n1 c1:Nat)(a2:Option Addr)(n2 c2:Nat)(X1:SlF F w0 2 typF a1 n1 c1 b.types)(X2:SlF F w0 7 rulF a2 n2 c2 b.rules)(hts: ∀ t∈b.types,typOk t)(hrs: ∀ x∈b.rules,RulFit x)(hes: ∀ x∈b.rules,x.etype.size≤maxLen)(h0:bookE b=0):Calls Tryz.prog 8 #[.agg #[.slice a1 n1 c1,.slice a2 n2 c2]] w0 (OffP (offR b) w0):=by
 have M:=Mem.begin hg ⟨0,0⟩
 have HC:Hid (∀ wx,Below w0.heap.size w0 wx→Calls Tryz.prog 11 #[.agg #[.slice a1 n1 c1,.slice a2 n2 c2]] wx fun e w' =>e= .returned (.int .i64 (bookE b))∧Below wx.heap.size wx w'):=fun wx hb=>check_any (Nat.lt_of_lt_of_le hg hb.size) (E.below hb) (fun k hk=>Nat.lt_of_lt_of_le (hF k hk) hb.size) b a1 n1 c1 a2 n2 c2 (X1.below typF_firm hb) (X2.below rulF_firm hb) hts hrs hes
 have HB0:=Lib.hid h0
 have HBP:=Lib.hid (book_pl h0)
 have HX1:=Lib.hid X1
 have HX2:=Lib.hid X2
 have N1:=Lib.hid X1.len
 have N2:=Lib.hid X2.len
 have hle1:=X1.le
 have hle2:=X2.le
 have h6:n1≤6:=by have:=X1.len;have:=(book_pl h0).1;omega
 have hn5:n2≤5:=by have:=X2.len;have:=(book_pl h0).2.1;omega
 have h1000:n1≤1000:=by omega
 rw[h0]at HC
 clear h0 X1 X2 hts hrs hes hg hF E
 go_enter Tryz.func8,Tryz.ntmps8
 go_wp2_with (first|(go_at_call 11;with_reducible refine(HC.out _ M.new).mono ?_;rintro e w5 ⟨rfl,hb5⟩;replace M:=M.below hb5;clear hb5)|(((with_reducible refine o_list rfl fun K hK=>?_);(refine q_makes M h1000 ?_;clear M;intro zo w M);refine hK _ _ ?_;clear hK K))|(((with_reducible refine o_list rfl fun K hK=>?_);(refine q_var1 M zIts rfl ?_;clear M;intro zv w M);refine hK _ _ ?_;clear hK K))|(((with_reducible refine o_list rfl fun K hK=>?_);refine q_funcs _ ?_;refine hK _ _ ?_;clear hK K))|(with_reducible (first|(refine wB M ?_;clear M;intro zb w1 M)|refine wq M ?_|(refine wS M ?_;clear M;intro w M))))
 replace M:=M.swap
 go_loopg [30] n2 (fun f' i wr=> ∃ (k:Nat) (fn:Nat→Int),k+f' =n2∧i= .int .i64 k∧Mem (StaysB g w0) g w0 wr ⟨0,0⟩ (OutL zo zv zb n1 a1 c1 a2 n2 c2 fn ([]))∧Hid (∀ t,fn t=offV b k t)∧Hid (AllZ (codeK b) k))
 case atStart=>exact⟨0,_,by omega,rfl,M,Lib.hid (fun t=>rfl),Lib.hid (allZ_zero _)⟩
 case round=>
  clear M HC
  obtain⟨k,f0,hk,rfl,M,HF0,HA⟩:=hrel
  by_cases hlt:k<n2
  ·have hkl:k<b.rules.length:=by have:=N2.out;omega
   have hRP:=HBP.out.2.2 _ (List.getElem_mem hkl)
   obtain⟨cr,or,rowr,hixr, -,hrrr,hwr⟩:=SlF.rowAt (P:=Tryz.prog) HX2.out rulF_firm Tryz.underlying23 size_rul (i:=k) hkl
   obtain⟨b1,m1,e1,b2,m2,e2,b3,m3,e3,b4,m4,e4,b6,m6,e6,er,Y1,Y2,Y3,Y4, -⟩:=hrrr
   subst er
   have HRW:=Lib.hid (fun wx hb=>(hwr wx hb).1)
   have HRU:Hid (∀ wx,g<wx.heap.size→Below w0.heap.size w0 wx→Calls Tryz.prog 12 #[.agg #[.string b.rules[k].name,.slice b1 m1 e1,.slice b2 m2 e2,.slice b3 m3 e3,.slice b4 m4 e4,.string b.rules[k].etype,.slice b6 m6 e6]] wx (PlnP (planE b.rules[k]).1 (planE b.rules[k]).2 wx)):=fun wx h1 hb=>plrule_any h1 (Y1.below patF_firm hb) (Y2.below patF_firm hb) (Y3.below manF_firm hb) (Y4.below lnkF_firm hb) hRP
   have HON:=Lib.hid (fun t=>offV_next hkl t)
   have HOS:Hid (∀ c,(planE b.rules[k]).2=c→c≠0→offR b=([],c)):=fun c h1 h2=>offR_stop HB0.out HA.out hkl h1 h2
   have HOZ:Hid ((planE b.rules[k]).2=0→AllZ (codeK b) (k+1)):=codeK_step HA.out hkl
   have HPL:Hid ((planE b.rules[k]).2=0→(planE b.rules[k]).1.whens.length=b.rules[k].whens.length∧(planE b.rules[k]).1.nots.length=b.rules[k].nots.length∧(planE b.rules[k]).1.manies.length=b.rules[k].manies.length):=plan_lens
   have hm:m1≤3∧m2≤2∧m3≤2:=by have:=Y1.len;have:=Y2.len;have:=Y3.len;have:=hRP.w3;have:=hRP.n2;have:=hRP.m2;omega
   have HY1:=Lib.hid Y1
   have HY2:=Lib.hid Y2
   have HY3:=Lib.hid Y3
   have hl1:=Y1.le
   have hl2:=Y2.le
   have hl3:=Y3.le
   have NY1:=Lib.hid Y1.len
   have NY2:=Lib.hid Y2.len
   have NY3:=Lib.hid Y3.len
   clear hwr hRP Y1 Y2 Y3 Y4
   unfold rulC at HRW
   generalize b.rules[k]=R at HRW HRU HON HOS HOZ HPL HY1 HY2 HY3 NY1 NY2 NY3
   clear hkl
   obtain⟨pc,hp⟩: ∃ pc,(planE R)=pc:=⟨_,rfl⟩
   rw[hp]at HRU HON HOS HOZ HPL
   obtain⟨p,c⟩:=pc
   unfold PlnP at HRU
   simp only at HRU HON HOS HOZ HPL
   clear hp
   by_cases hc:c=0
   ·subst hc
    replace HOZ:=Lib.hid (HOZ.out rfl)
    have hpl:=HPL.out rfl
    have HL1:=Lib.hid hpl.1
    have HL2:=Lib.hid hpl.2.1
    have HL3:=Lib.hid hpl.2.2
    have HLW1:Hid ((wL R p).length=m1):=by show _=_;unfold wL;simp;have:=NY1.out;omega
    have HLW2:Hid ((nL R p).length=m2):=by show _=_;unfold nL;simp;have:=NY2.out;omega
    have HLW3:Hid ((mL R p).length=m3):=by show _=_;unfold mL;simp;have:=NY3.out;omega
    clear hpl HPL HOS
    go_upto_region 9 with(with_reducible (first|(refine wV M ?_;clear M;intro zR w M)|refine wA (HRW.out _ M.new) ?_|(refine wS M ?_;clear M;intro w M)))
    go_wp2_with (first|(go_at_call 12;have hq:=HRU.out _ (Nat.lt_of_lt_of_le M.lt M.but.size) M.new;with_reducible refine hq.mono ?_;clear hq;go_loud (rintro e w5 ⟨r1,l1,u1,r2,l2,u2,r3,l3,u3,rfl,hb5,hS1,hS2,hS3⟩;replace M:=M.dpush (plnD_firm p r1 l1 u1 r2 l2 u2 r3 l3 u3) hb5 (plnD_mk hS1 hS2 hS3);clear hb5 hS1 hS2 hS3))|(with_reducible (first|(refine wV M ?_;clear M;intro zp w M)|refine wq M ?_|(refine wS M ?_;clear M;intro w M))))
    replace M:=M.perm (List.perm_append_comm (l₁:=[_,_,_]) (l₂:=[_,_,_]))
    have hD:PlnD p r1 l1 u1 r2 l2 u2 r3 l3 u3 _ _:=M.dat_ (i:=4) rfl
    have HLL1:Hid (l1=m1):=by show _=_;rw[hD.1.len,HL1.out,←NY1.out]
    have HLL2:Hid (l2=m2):=by show _=_;rw[hD.2.1.len,HL2.out,←NY2.out]
    have HLL3:Hid (l3=m3):=by show _=_;rw[hD.2.2.len,HL3.out,←NY3.out]
    obtain⟨A1,o1,hi1,hx1⟩:=ints_of hD.1
    clear hD
    replace M:=(M.adopt intsX_firm hx1 (fun k h _=>h)).sink3
    clear hx1
    have hD:PlnD p r1 l1 u1 r2 l2 u2 r3 l3 u3 _ _:=M.dat_ (i:=5) rfl
    obtain⟨A2,o2,hi2,hx2⟩:=ints_of hD.2.1
    clear hD
    replace M:=(M.adopt intsX_firm hx2 (fun k h _=>h)).sink3
    clear hx2
    have hD:PlnD p r1 l1 u1 r2 l2 u2 r3 l3 u3 _ _:=M.dat_ (i:=6) rfl
    obtain⟨A3,o3,hi3,hx3⟩:=ints_of hD.2.2
    clear hD
    replace M:=(M.adopt intsX_firm hx3 (fun k h _=>h)).sink3
    clear hx3
    have HI1:=Lib.hid hi1
    have HI2:=Lib.hid hi2
    have HI3:=Lib.hid hi3
    clear hi1 hi2 hi3
    go_loopg [45] m1 (fun f' i wr=> ∃ (q:Nat) (fn:Nat→Int),q+f' =m1∧i= .int .i64 q∧Mem (StaysB g w0) g w0 wr ⟨0,0⟩ (OutL zo zv zb n1 a1 c1 a2 n2 c2 fn (dat (IntsX A3 o3 l3 p.manies)::dat (IntsX A2 o2 l2 p.nots)::dat (IntsX A1 o1 l1 p.whens)::own zp [.int .i64 p.delay,.slice r1 l1 u1,.slice r2 l2 u2,.slice r3 l3 u3] 28::dat (PlnD p r1 l1 u1 r2 l2 u2 r3 l3 u3)::own zR [.string R.name,.slice b1 m1 e1,.slice b2 m2 e2,.slice b3 m3 e3,.slice b4 m4 e4,.string R.etype,.slice b6 m6 e6] 47::[]))∧Hid (∀ t,fn t=FW (nameT b.types t) (f0 t) (wL R p) q))
    case atStart=>exact⟨0,_,by omega,rfl,M,Lib.hid (fun t=>by rw[FW_zero])⟩
    case round=>
     clear M
     obtain⟨q,fn,hq,rfl,M,HFN⟩:=hrel
     by_cases hlq:q<m1
     ·have hil:q<R.whens.length:=by have:=NY1.out;omega
      obtain⟨cp,op,rowp,hixp, -,hrrp,hwp⟩:=SlF.rowAt (P:=Tryz.prog) HY1.out patF_firm Tryz.underlying40 size_pat (i:=q) hil
      obtain⟨a5,q5,c5,ep, -⟩:=patF.open18 hrrp
      subst ep
      have HRP:=Lib.hid (fun wx hb=>(hwp wx hb).1)
      have HFX:Hid (∀ t,raise1 (nameT b.types t) (fn t) (R.whens[q].type,p.whens.getD q 0)=FW (nameT b.types t) (f0 t) (wL R p) (q+1)):=fun t=>by rw[HFN.out t];exact(FW_next _ _ (f:=Pat.type) hil HL1.out).symm
      clear hrrp hwp HFN
      unfold pat18 at HRP
      generalize R.whens[q]=y at HRP HFX
      clear hil
      have hql:q<l1:=by have:=HLL1.out;omega
      have hixv:=HI1.out q hql
      obtain⟨v,hv⟩: ∃ v,p.whens.getD q 0=v:=⟨_,rfl⟩
      have HVV:Hid ((some (Value.int .i64 (p.whens.getD q 0)):Option Value)=some (.int .i64 v)):=by show _=_;rw[hv]
      rw[hv]at HFX
      clear hv
      go_upto_region 15 with(with_reducible (first|(refine wV M ?_;clear M;intro zw w M)|refine wA (HRP.out _ M.new) ?_|(refine wS M ?_;clear M;intro w M)))
      ((refine wp_region_first [0,1,2,3,4,5,6,7] [(true,0),(true,1),(true,2),(true,3),(true,4),(true,5),(true,6),(true,7),(false,8)] (fun _ M=>M) M (by kernel_rfl) (by kernel_rfl) (fun _ _ _ _ _ h=>h) ?_);clear M;intro w M;(repeat(first|((with_reducible refine m_read rfl M.kept fun K hK=>?_);(first|(refine r_load (l' :=?_) ⟨_,M.kept⟩ (fun w M=>?_) ?_;rotate_left;focus((first|(refine q_cellat ((M.icell (i:=6) rfl hql).trans HVV.out) ?_)|refine q_get M (by exact rfl) ?_);refine⟨rfl,?_⟩;with_reducible rfl))|(refine r_pure (v:=?_) rfl (fun w=>?_) ?_;rotate_left;focus(go_simp;try with_reducible rfl)));(try go_simp);with_reducible refine hK _ ?_;clear hK K)|((with_reducible refine m_last rfl rfl (by with_unfolding_all decide+kernel) fun K hK=>?_);((refine owp_of ?_;go_simp;(go_at_call 16;go_loud (replace M:=M.sink3;have hq2:=raise_any M HX1.out h6 y.type v;with_reducible refine hq2.mono ?_;clear hq2;clear M;rintro e w5 ⟨rfl,M⟩;replace M:=M.rise3))));(try go_simp);with_reducible refine hK _ _ ?_;clear hK K)));(with_reducible refine m_nil ?_))
      go_wp2_with (with_reducible (first|refine wq M ?_|(refine wS M ?_;clear M;intro w M)|(refine wV M ?_;clear M;intro z w M)|(refine wR M ?_;clear M;intro q w M)))
      go_roundg (m1 - (q+1))
      case measure=>omega
      case rel=>exact⟨q+1,_,by omega,by go_num,M.drop,HFX⟩
     ·have e:m1=q:=by omega
      subst e
      have HF1:Hid (∀ t,fn t=(wL R p).foldl (raise1 (nameT b.types t)) (offV b k t)):=fun t=>by rw[HFN.out t,FW_all _ _ (by rw[HLW1.out];exact Nat.le_refl _),HF0.out t]
      clear HFN
      generalize fn=f1 at HF1 M
      go_wp2_with (with_reducible refine wq M ?_)
      go_loopg [63] m2 (fun f' i wr=> ∃ (q:Nat) (fn:Nat→Int),q+f' =m2∧i= .int .i64 q∧Mem (StaysB g w0) g w0 wr ⟨0,0⟩ (OutL zo zv zb n1 a1 c1 a2 n2 c2 fn (dat (IntsX A3 o3 l3 p.manies)::dat (IntsX A2 o2 l2 p.nots)::dat (IntsX A1 o1 l1 p.whens)::own zp [.int .i64 p.delay,.slice r1 l1 u1,.slice r2 l2 u2,.slice r3 l3 u3] 28::dat (PlnD p r1 l1 u1 r2 l2 u2 r3 l3 u3)::own zR [.string R.name,.slice b1 m1 e1,.slice b2 m2 e2,.slice b3 m3 e3,.slice b4 m4 e4,.string R.etype,.slice b6 m6 e6] 47::[]))∧Hid (∀ t,fn t=FW (nameT b.types t) (f1 t) (nL R p) q))
      case atStart=>exact⟨0,_,by omega,rfl,M,Lib.hid (fun t=>by rw[FW_zero])⟩
      case round=>
       clear M
       obtain⟨q,fn,hq,rfl,M,HFN⟩:=hrel
       by_cases hlq:q<m2
       ·have hil:q<R.nots.length:=by have:=NY2.out;omega
        obtain⟨cp,op,rowp,hixp, -,hrrp,hwp⟩:=SlF.rowAt (P:=Tryz.prog) HY2.out patF_firm Tryz.underlying40 size_pat (i:=q) hil
        obtain⟨a5,q5,c5,ep, -⟩:=patF.open18 hrrp
        subst ep
        have HRP:=Lib.hid (fun wx hb=>(hwp wx hb).1)
        have HFX:Hid (∀ t,raise1 (nameT b.types t) (fn t) (R.nots[q].type,p.nots.getD q 0)=FW (nameT b.types t) (f1 t) (nL R p) (q+1)):=fun t=>by rw[HFN.out t];exact(FW_next _ _ (f:=Pat.type) hil HL2.out).symm
        clear hrrp hwp HFN
        unfold pat18 at HRP
        generalize R.nots[q]=y at HRP HFX
        clear hil
        have hql:q<l2:=by have:=HLL2.out;omega
        have hixv:=HI2.out q hql
        obtain⟨v,hv⟩: ∃ v,p.nots.getD q 0=v:=⟨_,rfl⟩
        have HVV:Hid ((some (Value.int .i64 (p.nots.getD q 0)):Option Value)=some (.int .i64 v)):=by show _=_;rw[hv]
        rw[hv]at HFX
        clear hv
        go_upto_region 20 with(with_reducible (first|(refine wV M ?_;clear M;intro zn w M)|refine wA (HRP.out _ M.new) ?_|(refine wS M ?_;clear M;intro w M)))
        ((refine wp_region_first [0,1,2,3,4,5,6,7] [(true,0),(true,1),(true,2),(true,3),(true,4),(true,5),(true,6),(true,7),(false,8)] (fun _ M=>M) M (by kernel_rfl) (by kernel_rfl) (fun _ _ _ _ _ h=>h) ?_);clear M;intro w M;(repeat(first|((with_reducible refine m_read rfl M.kept fun K hK=>?_);(first|(refine r_load (l' :=?_) ⟨_,M.kept⟩ (fun w M=>?_) ?_;rotate_left;focus((first|(refine q_cellat ((M.icell (i:=5) rfl hql).trans HVV.out) ?_)|refine q_get M (by exact rfl) ?_);refine⟨rfl,?_⟩;with_reducible rfl))|(refine r_pure (v:=?_) rfl (fun w=>?_) ?_;rotate_left;focus(go_simp;try with_reducible rfl)));(try go_simp);with_reducible refine hK _ ?_;clear hK K)|((with_reducible refine m_last rfl rfl (by with_unfolding_all decide+kernel) fun K hK=>?_);((refine owp_of ?_;go_simp;(go_at_call 16;go_loud (replace M:=M.sink3;have hq2:=raise_any M HX1.out h6 y.type v;with_reducible refine hq2.mono ?_;clear hq2;clear M;rintro e w5 ⟨rfl,M⟩;replace M:=M.rise3))));(try go_simp);with_reducible refine hK _ _ ?_;clear hK K)));(with_reducible refine m_nil ?_))
        go_wp2_with (with_reducible (first|refine wq M ?_|(refine wS M ?_;clear M;intro w M)|(refine wV M ?_;clear M;intro z w M)|(refine wR M ?_;clear M;intro q w M)))
        go_roundg (m2 - (q+1))
        case measure=>omega
        case rel=>exact⟨q+1,_,by omega,by go_num,M.drop,HFX⟩
       ·have e:m2=q:=by omega
        subst e
        have HF2:Hid (∀ t,fn t=(nL R p).foldl (raise1 (nameT b.types t)) (f1 t)):=fun t=>by rw[HFN.out t,FW_all _ _ (by rw[HLW2.out];exact Nat.le_refl _)]
        clear HFN
        generalize fn=f2 at HF2 M
        go_wp2_with (with_reducible refine wq M ?_)
        go_loopg [81] m3 (fun f' i wr=> ∃ (q:Nat) (fn:Nat→Int),q+f' =m3∧i= .int .i64 q∧Mem (StaysB g w0) g w0 wr ⟨0,0⟩ (OutL zo zv zb n1 a1 c1 a2 n2 c2 fn (dat (IntsX A3 o3 l3 p.manies)::dat (IntsX A2 o2 l2 p.nots)::dat (IntsX A1 o1 l1 p.whens)::own zp [.int .i64 p.delay,.slice r1 l1 u1,.slice r2 l2 u2,.slice r3 l3 u3] 28::dat (PlnD p r1 l1 u1 r2 l2 u2 r3 l3 u3)::own zR [.string R.name,.slice b1 m1 e1,.slice b2 m2 e2,.slice b3 m3 e3,.slice b4 m4 e4,.string R.etype,.slice b6 m6 e6] 47::[]))∧Hid (∀ t,fn t=FW (nameT b.types t) (f2 t) (mL R p) q))
        case atStart=>exact⟨0,_,by omega,rfl,M,Lib.hid (fun t=>by rw[FW_zero])⟩
        case round=>
         clear M
         obtain⟨q,fn,hq,rfl,M,HFN⟩:=hrel
         by_cases hlq:q<m3
         ·have hil:q<R.manies.length:=by have:=NY3.out;omega
          obtain⟨cp,op,rowp,hixp, -,hrrp,hwp⟩:=SlF.rowAt (P:=Tryz.prog) HY3.out manF_firm Tryz.underlying41 size_man (i:=q) hil
          obtain⟨a5,q5,c5,ep, -⟩:=manF.open20 hrrp
          subst ep
          have HRP:=Lib.hid (fun wx hb=>(hwp wx hb).1)
          have HFX:Hid (∀ t,raise1 (nameT b.types t) (fn t) (R.manies[q].pat.type,p.manies.getD q 0)=FW (nameT b.types t) (f2 t) (mL R p) (q+1)):=fun t=>by rw[HFN.out t];exact(FW_next _ _ (f:=(fun m:Many=>m.pat.type)) hil HL3.out).symm
          clear hrrp hwp HFN
          unfold man20 pat18 at HRP
          generalize R.manies[q]=y at HRP HFX
          clear hil
          have hql:q<l3:=by have:=HLL3.out;omega
          have hixv:=HI3.out q hql
          obtain⟨v,hv⟩: ∃ v,p.manies.getD q 0=v:=⟨_,rfl⟩
          have HVV:Hid ((some (Value.int .i64 (p.manies.getD q 0)):Option Value)=some (.int .i64 v)):=by show _=_;rw[hv]
          rw[hv]at HFX
          clear hv
          go_upto_region 25 with(with_reducible (first|(refine wV M ?_;clear M;intro zm w M)|refine wA (HRP.out _ M.new) ?_|(refine wS M ?_;clear M;intro w M)))
          ((refine wp_region_first [0,1,2,3,4,5,6,7,8] [(true,0),(true,1),(true,2),(true,3),(true,4),(true,5),(true,6),(true,7),(true,8),(false,9)] (fun _ M=>M) M (by kernel_rfl) (by kernel_rfl) (fun _ _ _ _ _ h=>h) ?_);clear M;intro w M;(repeat(first|((with_reducible refine m_read rfl M.kept fun K hK=>?_);(first|(refine r_load (l' :=?_) ⟨_,M.kept⟩ (fun w M=>?_) ?_;rotate_left;focus((first|(refine q_cellat ((M.icell (i:=4) rfl hql).trans HVV.out) ?_)|refine q_get M (by exact rfl) ?_);refine⟨rfl,?_⟩;with_reducible rfl))|(refine r_pure (v:=?_) rfl (fun w=>?_) ?_;rotate_left;focus(go_simp;try with_reducible rfl)));(try go_simp);with_reducible refine hK _ ?_;clear hK K)|((with_reducible refine m_last rfl rfl (by with_unfolding_all decide+kernel) fun K hK=>?_);((refine owp_of ?_;go_simp;(go_at_call 16;go_loud (replace M:=M.sink3;have hq2:=raise_any M HX1.out h6 y.pat.type v;with_reducible refine hq2.mono ?_;clear hq2;clear M;rintro e w5 ⟨rfl,M⟩;replace M:=M.rise3))));(try go_simp);with_reducible refine hK _ _ ?_;clear hK K)));(with_reducible refine m_nil ?_))
          go_wp2_with (with_reducible (first|refine wq M ?_|(refine wS M ?_;clear M;intro w M)|(refine wV M ?_;clear M;intro z w M)|(refine wR M ?_;clear M;intro q w M)))
          go_roundg (m3 - (q+1))
          case measure=>omega
          case rel=>exact⟨q+1,_,by omega,by go_num,M.drop,HFX⟩
         ·have e:m3=q:=by omega
          subst e
          have HFE:Hid (∀ t,fn t=offV b (k+1) t):=fun t=>by rw[HFN.out t,FW_all _ _ (by rw[HLW3.out];exact Nat.le_refl _),HON.out t,raise_three];show _=_;rw[HF2.out t,HF1.out t]
          clear HFN
          go_wp2_with (with_reducible (first|refine wq M ?_|(refine wS M ?_;clear M;intro w M)|(refine wV M ?_;clear M;intro z w M)|(refine wR M ?_;clear M;intro q w M)))
          go_roundg (n2 - (k+1))
          case measure=>omega
          case rel=>exact⟨k+1,_,by omega,by go_num,(((((M.cut [_,_,_]).cut [_,_,_]).cut [_,_,_]).cut [_,_,_]).cut [_,_,_]).cut [_,_,_],HFE,HOZ.out⟩
   ·have hqb:(c==0)=false:=by simpa using hc
    have hqc:(c !=0)=true:=by simpa using hc
    have HV:=Lib.hid (HOS.out c rfl hc)
    clear hc HOS HOZ HPL HON
    go_wp2_with (first|(go_at_call 12;have hq:=HRU.out _ (Nat.lt_of_lt_of_le M.lt M.but.size) M.new;with_reducible refine hq.mono ?_;clear hq;go_loud (rintro e w5 ⟨r1,l1,u1,r2,l2,u2,r3,l3,u3,rfl,hb5,hS1,hS2,hS3⟩;replace M:=M.dpush (plnD_firm p r1 l1 u1 r2 l2 u2 r3 l3 u3) hb5 (plnD_mk hS1 hS2 hS3);clear hb5 hS1 hS2 hS3))|(with_reducible (first|(refine wV M ?_;clear M;intro zR w M)|refine wA (HRW.out _ M.new) ?_|refine wq M ?_|(refine wS M ?_;clear M;intro w M))))
    go_ret2
    rw[HV.out]
    exact⟨_,_,_,rfl,M.new,SlF.nil⟩
  ·have e:n2=k:=by omega
   have HV:Hid (offR b=((List.range b.types.length).map (offV b b.rules.length),0)):=offR_end HB0.out (by rw[←N2.out,e];exact HA.out)
   have HFE:Hid (∀ t,f0 t=offV b b.rules.length t):=fun t=>by rw[HF0.out t,←N2.out,e]
   subst e
   clear HF0 HA
   go_wp2_with (with_reducible refine wq M ?_)
   go_ret2
   rw[HV.out]
   have h1:=M.ne (Mem.of_get (i:=0) rfl)
   have h2:=M.nslf (i:=0) rfl h1000
   rw[show(List.range b.types.length).map (offV b b.rules.length)=(List.range n1).map f0 by rw[←N1.out];exact List.map_congr_left fun t _=>(HFE.out t).symm]
   exact⟨_,_,_,rfl,M.new,SlF.same h2 (plainF_firm _) (Same.wide fun k hk _=>by unfold from_;rw[hk];exact h1.1)⟩
end
end Go.Proofs.YtncmghnhfipklaaGreatDoor
