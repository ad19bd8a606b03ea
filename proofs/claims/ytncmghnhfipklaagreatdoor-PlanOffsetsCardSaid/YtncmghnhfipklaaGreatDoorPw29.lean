/-
  The reference's frame of a rule: ruleMatrix. Printed by plv.py.
-/
import Derived.Test.YtncmghnhfipklaaGreatDoorPw28
namespace Go.Proofs.YtncmghnhfipklaaGreatDoor
open Go.RowKit
set_option linter.unusedVariables false
set_option linter.unusedSimpArgs false
section
variable {g:Nat} {w0:World} {x:Rul} {nots:List Pat} {wa la mo:Option Addr} {wn wc ln lc mn mc:Nat} {F F2 F3:Nat→Prop} {s1 s2:ByteArray} {v2 v3 v6:Value}
set_option maxRecDepth 8000 in
set_option maxHeartbeats 8000000 in
theorem ruleMatrix_any(hg:g<w0.heap.size)(X:SlF F w0 18 patF wa wn wc x.whens)(Y:SlF F2 w0 3 lnkF la ln lc x.links)(Z:SlF F3 w0 18 patF mo mn mc nots)(hR:RulPl x)(hmore:nots.length≤1):
  Calls Tryz.prog 32 #[.agg #[.string s1,.slice wa wn wc,v2,v3,.slice la ln lc,.string s2,v6],.slice mo mn mc] w0 (RmP x nots w0):=by
 have M:=Mem.begin hg ⟨0,0⟩
 have HX:=Lib.hid X
 have HY:=Lib.hid Y
 have HZ:=Lib.hid Z
 have hle:=X.le
 have hle2:=Y.le
 have hle3:=Z.le
 have NW:=Lib.hid X.len
 have NL:=Lib.hid Y.len
 have NZ:=Lib.hid Z.len
 have hwn:1≤wn∧wn≤3:=by have:=X.len;have:=hR.w1;have:=hR.w3;omega
 have hmn:mn≤1:=by have:=Z.len;omega
 have HR:=Lib.hid hR
 clear hR X Y Z hmore
 go_enter Tryz.func32,Tryz.ntmps32
 go_wp2_with (with_reducible (refine wB M ?_;clear M;intro zb w1 M))
 replace M:=M.none_ (patO_firm w0) 61 18
 go_loopg [6,7] wn (fun f' a i wr=> ∃ (j:Nat) (lv:Value) (l:List Pat),j+f' =wn∧i= .int .i64 j∧a=lv∧Mem (StaysB g w0) g w0 wr ⟨0,0⟩ (slc w0.heap.size 61 18 (patO w0) lv l::own zb [.string s1,.slice wa wn wc,v2,v3,.slice la ln lc,.string s2,v6] 47::[])∧Hid (l=x.whens.take j))
 case atStart=>exact⟨0,_,[],by omega,rfl,rfl,M,Lib.hid rfl⟩
 case round=>
  clear M
  obtain⟨j,lv,l,hj,rfl,rfl,M,HL⟩:=hrel
  by_cases hlt:j<wn
  ·have hil:j<x.whens.length:=by have:=NW.out;omega
   obtain⟨cp,op,rowp,hixp, -,hrrp,hwp⟩:=SlF.rowAt (P:=Tryz.prog) HX.out patF_firm Tryz.underlying40 size_pat (i:=j) hil
   have HPF:=patF_all hrrp
   obtain⟨a5,q5,c5,ep, -⟩:=patF.open18 hrrp
   subst ep
   replace HPF:=Lib.hid HPF
   have HRP:=Lib.hid (fun wx hb=>(hwp wx hb).1)
   have HTK:Hid (l++[x.whens[j]]=x.whens.take (j+1)):=by show _=_;rw[HL.out,List.take_add_one,List.getElem?_eq_getElem hil];rfl
   have HTL:Hid (l.length≤100000):=by show _≤_;rw[HL.out,List.length_take];omega
   clear hrrp hwp HL
   unfold pat18 at HRP HPF
   generalize x.whens[j]=p at HRP HTK HPF
   clear hil
   go_wp2_with (first|(((with_reducible refine o_list rfl fun K hK=>?_);(refine q_app (R:=patO w0) (patO_firm w0) M 1 rfl p HPF.out (by rfl) (by rfl) HTL.out ?_;clear M;intro ra2 rc2 w M;(try simp only[List.set_cons_zero,List.set_cons_succ]at M));refine hK _ _ ?_;clear hK K))|(with_reducible (first|refine wA (HRP.out _ M.new) ?_|refine wq M ?_|(refine wR M ?_;clear M;intro q w M))))
   go_roundg (wn - (j+1))
   case measure=>omega
   case rel=>exact⟨j+1,_,_,by omega,by go_num,rfl,M.drop,HTK⟩
  ·have e:wn=j:=by omega
   have HLW:Hid (l=x.whens):=by show _=_;rw[HL.out,List.take_of_length_le (by have:=NW.out;omega)]
   subst e
   clear HL
   go_wp2_with (with_reducible refine wq M ?_)
   go_loopg [6,8] mn (fun f' a i wr=> ∃ (j:Nat) (lv:Value) (l:List Pat),j+f' =mn∧i= .int .i64 j∧a=lv∧Mem (StaysB g w0) g w0 wr ⟨0,0⟩ (slc w0.heap.size 61 18 (patO w0) lv l::own zb [.string s1,.slice wa wn wc,v2,v3,.slice la ln lc,.string s2,v6] 47::[])∧Hid (l=x.whens++nots.take j))
   case atStart=>exact⟨0,_,_,by omega,rfl,rfl,M,Lib.hid (by rw[HLW.out];simp)⟩
   case round=>
    clear M HLW
    obtain⟨j,lv,l,hj,rfl,rfl,M,HL⟩:=hrel
    by_cases hlt:j<mn
    ·have hil:j<nots.length:=by have:=NZ.out;omega
     obtain⟨cp,op,rowp,hixp, -,hrrp,hwp⟩:=SlF.rowAt (P:=Tryz.prog) HZ.out patF_firm Tryz.underlying40 size_pat (i:=j) hil
     have HPF:=patF_all hrrp
     obtain⟨a5,q5,c5,ep, -⟩:=patF.open18 hrrp
     subst ep
     replace HPF:=Lib.hid HPF
     have HRP:=Lib.hid (fun wx hb=>(hwp wx hb).1)
     have HTK:Hid (l++[nots[j]]=x.whens++nots.take (j+1)):=by show _=_;rw[HL.out,List.take_add_one,List.getElem?_eq_getElem hil,List.append_assoc];rfl
     have HTL:Hid (l.length≤100000):=by show _≤_;rw[HL.out,List.length_append,List.length_take];have:=NW.out;omega
     clear hrrp hwp HL
     unfold pat18 at HRP HPF
     generalize nots[j]=p at HRP HTK HPF
     clear hil
     go_wp2_with (first|(((with_reducible refine o_list rfl fun K hK=>?_);(refine q_app (R:=patO w0) (patO_firm w0) M 1 rfl p HPF.out (by rfl) (by rfl) HTL.out ?_;clear M;intro ra2 rc2 w M;(try simp only[List.set_cons_zero,List.set_cons_succ]at M));refine hK _ _ ?_;clear hK K))|(with_reducible (first|refine wA (HRP.out _ M.new) ?_|(refine wR M ?_;clear M;intro q w M))))
     go_roundg (mn - (j+1))
     case measure=>omega
     case rel=>exact⟨j+1,_,_,by omega,by go_num,rfl,M.drop,HTK⟩
    ·have e:mn=j:=by omega
     have HLE:Hid (x.whens++nots=l):=by show _=_;rw[HL.out,List.take_of_length_le (by have:=NZ.out;omega)]
     subst e
     clear HL
     obtain⟨N,HN⟩: ∃ N,Hid (l.length=N):=⟨_,Lib.hid rfl⟩
     obtain⟨lo,lc2,e1,M9⟩:=M.done (patO_firm w0) (by omega)
     clear M
     have M:=M9
     clear M9
     rw[HN.out]at e1 M
     subst e1
     have hN:wn≤N∧N≤4:=by have h:=HN.out;rw[←HLE.out,List.length_append]at h;have:=NW.out;have:=NZ.out;omega
     obtain⟨A2,off,rows,hrows,hixl,hRX⟩:=rows_of (P:=Tryz.prog) (M.dat_ (i:=0) rfl) Tryz.underlying40 size_pat (by omega)
     replace M:=M.adopt rowsX_firm hRX (fun k h _=>h)
     have HRW:=Lib.hid hrows
     have HIX:=Lib.hid hixl
     have hlc:N≤lc2∧lc2≤9223372036854775807:=(SlF.le (M.dat_ (i:=1) rfl))
     clear hrows hixl hRX
     go_wp2_with (go_at_call 58;refine(freeMatrix_grid (2*N) (by omega) _).mono ?_;rintro e w5 ⟨am,cap,gs,rfl,hb5,hG⟩;obtain⟨A,rcs,rfl,hX,hf⟩:=hG.fix (by omega);replace M:=M.grid hb5 hX hf;clear hG hb5 hf hX)
     go_loopg [10] N (fun f' a wr=> ∃ (i:Nat) (G:Mx),i+f' =N∧a= .int .i64 i∧Mem (StaysB g w0) g w0 wr ⟨0,0⟩ (grd A (2*N) cap gs rcs G::dat (fun F w=>RowsX F w A2 off 18 N rows)::dat (fun F w=>SlF F w 18 (patO w0) lo N lc2 l)::own zb [.string s1,.slice wa wn wc,v2,v3,.slice la ln lc,.string s2,v6] 47::[])∧Hid (EqM (2*N) G (winI i wn (fun i=>(x.whens.getD i pat0).window) (fun i=>(x.whens.getD i pat0).n) i 0)))
     case atStart=>exact⟨0,_,by omega,rfl,M,Lib.hid (by rw[winI_free];exact fun _ _ _ _=>rfl)⟩
     case round=>
      clear M
      obtain⟨i,G,hi,rfl,M,HG⟩:=hrel
      by_cases hlt:i<N
      ·have hil:i<l.length:=by have:=HN.out;omega
       have hp:patF (fun _=>True) w0 (rows i) l[i]:=HRW.out i hil
       obtain⟨a5,q5,c5,ep, -⟩:=patF.open18 hp
       have HPW:Hid (i<wn→l[i].window=1→0≤l[i].n∧l[i].n≤1073741824):=fun h hw=>by
        have h2:i<x.whens.length:=by have:=NW.out;omega
        have e:=getD_app HLE.out h2 hil
        rw[←e]at hw ⊢
        exact HR.out.win _ (getD_mem h2) hw
       have HPI:Hid (i<wn→x.whens.getD i pat0=l[i]):=fun h=>getD_app HLE.out (by have:=NW.out;omega) hil
       have hixL:=HIX.out i hlt
       have HCW:Hid (∀ (wx:World) (G:Mx),Mem (StaysB g w0) g w0 wx ⟨0,0⟩ (grd A (2*N) cap gs rcs G::dat (fun F w=>RowsX F w A2 off 18 N rows)::dat (fun F w=>SlF F w 18 (patO w0) lo N lc2 l)::own zb [.string s1,.slice wa wn wc,v2,v3,.slice la ln lc,.string s2,v6] 47::[])→wx.cell? ⟨A2,off+i*18+16,none⟩=some (.int .i64 l[i].window)∧wx.cell? ⟨A2,off+i*18+17,none⟩=some (.int .i64 l[i].n)):=fun wx G M=>by
        have h:=M.rrow (i:=1) rfl hlt
        rw[ep]at h
        exact⟨h 16 _ rfl,h 17 _ rfl⟩
       clear hp ep
       generalize off+i*18=po at HCW hixL
       generalize l[i]=p at HPW HPI HCW
       clear hil
       have h2i:2*i<2*N:=by omega
       have h2i1:2*i+1<2*N:=by omega
       have hixA: ∀ wx,(Instr.indexAt 78 (.slice (some ⟨A,0,none⟩) (2*N) cap) (.int .i64 (2*(i:Int)))).run Tryz.prog wx= .ok (.pointer (some ⟨A,2*i,none⟩)) wx:=fun wx=>(M.grid_ (i:=0) rfl).ixA h2i wx
       have hixR: ∀ wx,(Instr.indexAt 26 (.slice (some ⟨gs (2*i),0,none⟩) (2*N) (rcs (2*i))) (.int .i64 (2*(i:Int)+1))).run Tryz.prog wx= .ok (.pointer (some ⟨gs (2*i),2*i+1,none⟩)) wx:=fun wx=>(M.grid_ (i:=0) rfl).ixR h2i h2i1 wx
       have HG2:Hid (EqM (2*N) (setB G (2*i) (2*i+1) 0) (winI (i+1) wn (fun i=>(x.whens.getD i pat0).window) (fun i=>(x.whens.getD i pat0).n) i 0)):=win_pairM HG.out
       have hit:decide ((i:Int)<N)=true:=by simpa using(by omega:(i:Int)<N)
       clear HG
       go_wp2_with (first|(((with_reducible refine o_list rfl fun K hK=>?_);(refine q_gput M (i:=0) rfl h2i h2i1 ?_;clear M;intro w M;(try simp only[List.set_cons_zero]at M));refine hK _ _ ?_;clear hK K))|(with_reducible (refine wC (M.grow (i:=0) rfl h2i) ?_)))
       clear hixA hixR
       go_loopg [11] wn (fun f' a wr=> ∃ (k:Nat) (G:Mx),k+f' =wn∧a= .int .i64 k∧Mem (StaysB g w0) g w0 wr ⟨0,0⟩ (grd A (2*N) cap gs rcs G::dat (fun F w=>RowsX F w A2 off 18 N rows)::dat (fun F w=>SlF F w 18 (patO w0) lo N lc2 l)::own zb [.string s1,.slice wa wn wc,v2,v3,.slice la ln lc,.string s2,v6] 47::[])∧Hid (EqM (2*N) G (winI (i+1) wn (fun i=>(x.whens.getD i pat0).window) (fun i=>(x.whens.getD i pat0).n) i k)))
       case atStart=>exact⟨0,_,by omega,rfl,M,HG2⟩
       case round=>
        clear M HG2
        simp only[hit]at *
        obtain⟨k,G,hk,rfl,M,HG⟩:=hrel
        by_cases hltk:k<wn
        ·by_cases hiw:i<wn
         ·by_cases hki:k=i
          ·subst hki
           have HG2:Hid (EqM (2*N) G (winI (k+1) wn (fun i=>(x.whens.getD i pat0).window) (fun i=>(x.whens.getD i pat0).n) k (k+1))):=fun r c hr hc=>(HG.out r c hr hc).trans winI_skip
           go_upto_region 18 with(with_reducible refine wq M ?_)
           ((refine wp_region_still_lit (by kernel_rfl) (by kernel_rfl) ?_);(change wpStill _ _ (World.drew _) _ _ _);replace M:=M.drew;(repeat(first|((with_reducible refine s_list rfl fun K hK=>?_);refine s_load ?_;(refine q_get M (by exact rfl) ?_);refine⟨rfl,hK _ ?_⟩;clear hK K)|(with_reducible refine s_skipT ?_)|((first|(with_reducible refine s_list rfl fun K hK=>?_)|(with_reducible refine s_listg fun K hK=>?_));refine s_pure ?_;go_simp;with_reducible refine hK _ ?_;clear hK K)));(with_reducible refine wpStill_nil ?_))
           go_wp2_with (with_reducible (first|refine wq M ?_|(refine wS M ?_;clear M;intro w M)|(refine wV M ?_;clear M;intro z w M)|(refine wR M ?_;clear M;intro q w M)))
           go_roundg (wn - (k+1))
           case measure=>omega
           case rel=>exact⟨k+1,_,by omega,by go_num,M,HG2⟩
          ·have hq1:((k:Int)==(i:Int))=false:=by rw[beq_eq_false_iff_ne];omega
           have hq2:((k:Int)!=(i:Int))=true:=by rw[bne_iff_ne];omega
           have h2k1:2*k+1<2*N:=by omega
           have hwk1:IntKind.i64.wrap (2*(k:Int))=2*(k:Int):=IntWalk.i64_in _ (by omega)
           have hwk2:IntKind.i64.wrap (2*(k:Int)+1)=2*(k:Int)+1:=IntWalk.i64_in _ (by omega)
           have hwi1:IntKind.i64.wrap (2*(i:Int))=2*(i:Int):=IntWalk.i64_in _ (by omega)
           have hwi2:IntKind.i64.wrap (2*(i:Int)+1)=2*(i:Int)+1:=IntWalk.i64_in _ (by omega)
           by_cases hw1:p.window=1
           ·have hpn:=HPW.out hiw hw1
            have hwq:(p.window==1)=true:=by rw[hw1];rfl
            have HVN:Hid (G (2*k+1) (2*i+1)=1152921504606846976):=(HG.out _ _ h2k1 h2i1).trans (winI_at hki hiw hltk)
            have hlv:decide (p.n<G (2*k+1) (2*i+1))=true:=by rw[HVN.out];simpa using(by omega:p.n<1152921504606846976)
            have HG2:Hid (EqM (2*N) (setB G (2*k+1) (2*i+1) p.n) (winI (i+1) wn (fun i=>(x.whens.getD i pat0).window) (fun i=>(x.whens.getD i pat0).n) i (k+1))):=win_putM HG.out (by show(x.whens.getD i pat0).window=1;rw[HPI.out hiw];exact hw1) hki hiw hltk (by show(x.whens.getD i pat0).n=p.n;rw[HPI.out hiw]) (by unfold NOB;omega)
            have hixA: ∀ wx,(Instr.indexAt 78 (.slice (some ⟨A,0,none⟩) (2*N) cap) (.int .i64 (2*(k:Int)+1))).run Tryz.prog wx= .ok (.pointer (some ⟨A,2*k+1,none⟩)) wx:=fun wx=>(M.grid_ (i:=0) rfl).ixA h2k1 wx
            have hixR: ∀ wx,(Instr.indexAt 26 (.slice (some ⟨gs (2*k+1),0,none⟩) (2*N) (rcs (2*k+1))) (.int .i64 (2*(i:Int)+1))).run Tryz.prog wx= .ok (.pointer (some ⟨gs (2*k+1),2*i+1,none⟩)) wx:=fun wx=>(M.grid_ (i:=0) rfl).ixR h2k1 h2i1 wx
            clear hw1 HG
            go_upto_region 18 with(with_reducible refine wq M ?_)
            ((refine wp_region_still_lit (by kernel_rfl) (by kernel_rfl) ?_);(change wpStill _ _ (World.drew _) _ _ _);replace M:=M.drew;(repeat(first|((with_reducible refine s_list rfl fun K hK=>?_);refine s_load ?_;(refine q_get M (by exact rfl) ?_);refine⟨rfl,hK _ ?_⟩;clear hK K)|((with_reducible refine s_listg fun K hK=>?_);refine s_load ?_;(first|(refine q_cellat (HCW.out _ _ M).1 ?_)|(refine q_cellat (HCW.out _ _ M).2 ?_)|(refine q_cellat (M.grow (i:=0) rfl h2k1) ?_)|(refine q_cellat (M.gval (i:=0) rfl h2k1 h2i1) ?_));refine⟨rfl,hK _ ?_⟩;clear hK K)|((first|(with_reducible refine s_list rfl fun K hK=>?_)|(with_reducible refine s_listg fun K hK=>?_));refine s_pure ?_;go_simp;refine hK _ ?_;clear hK K)));(refine wpStill_nil ?_))
            go_upto_region 19 with(with_reducible (first|refine wq M ?_|(refine wS M ?_;clear M;intro w M)|(refine wV M ?_;clear M;intro z w M)|(refine wR M ?_;clear M;intro q w M)))
            ((refine wp_region_first [0,1,2,3,4,5,6,7,8,9,10,11,12,13,14] [(true,0),(true,1),(true,2),(true,3),(true,4),(true,5),(true,6),(true,7),(true,8),(true,9),(true,10),(true,11),(true,12),(true,13),(true,14),(false,15)] (fun _ M=>M) M (by kernel_rfl) (by kernel_rfl) (fun _ _ _ _ _ h=>h) ?_);clear M;intro w M;(repeat(first|((with_reducible refine m_read rfl M.kept fun K hK=>?_);(first|(refine r_load (l' :=?_) ⟨_,M.kept⟩ (fun w M=>?_) ?_;rotate_left;focus((first|(refine q_cellat (HCW.out _ _ M).2 ?_)|(refine q_cellat (M.grow (i:=0) rfl h2k1) ?_));refine⟨rfl,?_⟩;with_reducible rfl))|(refine r_pure (v:=?_) rfl (fun w=>?_) ?_;rotate_left;focus(go_simp;try with_reducible rfl)));(try go_simp);with_reducible refine hK _ ?_;clear hK K)|((with_reducible refine m_last rfl rfl (by with_unfolding_all decide+kernel) fun K hK=>?_);((refine q_gput M (i:=0) rfl h2k1 h2i1 ?_;clear M;intro w M;(try simp only[List.set_cons_zero]at M)));(try go_simp);with_reducible refine hK _ _ ?_;clear hK K)));(with_reducible refine m_nil ?_))
            go_wp2_with (with_reducible (first|refine wq M ?_|(refine wS M ?_;clear M;intro w M)|(refine wV M ?_;clear M;intro z w M)|(refine wR M ?_;clear M;intro q w M)))
            go_roundg (wn - (k+1))
            case measure=>omega
            case rel=>exact⟨k+1,_,by omega,by go_num,M,HG2⟩
           ·have hwq:(p.window==1)=false:=by simpa using hw1
            have HG2:Hid (EqM (2*N) G (winI (i+1) wn (fun i=>(x.whens.getD i pat0).window) (fun i=>(x.whens.getD i pat0).n) i (k+1))):=fun r c hr hc=>(HG.out r c hr hc).trans (winI_same fun _ _ _ _ _ h=>by
             have h3: ¬ c / 2=i:=fun e=>hw1 (by rw[←HPI.out hiw,←e];exact h)
             omega)
            clear hw1 HG
            go_upto_region 18 with(with_reducible refine wq M ?_)
            ((refine wp_region_still_lit (by kernel_rfl) (by kernel_rfl) ?_);(change wpStill _ _ (World.drew _) _ _ _);replace M:=M.drew;(repeat(first|((with_reducible refine s_list rfl fun K hK=>?_);refine s_load ?_;(refine q_get M (by exact rfl) ?_);refine⟨rfl,hK _ ?_⟩;clear hK K)|((with_reducible refine s_listg fun K hK=>?_);refine s_load ?_;(refine q_cellat (HCW.out _ _ M).1 ?_);refine⟨rfl,hK _ ?_⟩;clear hK K)|(with_reducible refine s_skipT ?_)|((first|(with_reducible refine s_list rfl fun K hK=>?_)|(with_reducible refine s_listg fun K hK=>?_));refine s_pure ?_;go_simp;with_reducible refine hK _ ?_;clear hK K)));(with_reducible refine wpStill_nil ?_))
            go_wp2_with (with_reducible (first|refine wq M ?_|(refine wS M ?_;clear M;intro w M)|(refine wV M ?_;clear M;intro z w M)|(refine wR M ?_;clear M;intro q w M)))
            go_roundg (wn - (k+1))
            case measure=>omega
            case rel=>exact⟨k+1,_,by omega,by go_num,M,HG2⟩
         ·have HG2:Hid (EqM (2*N) G (winI (i+1) wn (fun i=>(x.whens.getD i pat0).window) (fun i=>(x.whens.getD i pat0).n) i (k+1))):=fun r c hr hc=>(HG.out r c hr hc).trans (winI_far (by omega) (by omega))
          go_upto_region 18 with(with_reducible refine wq M ?_)
          ((refine wp_region_still_lit (by kernel_rfl) (by kernel_rfl) ?_);(change wpStill _ _ (World.drew _) _ _ _);replace M:=M.drew;(repeat(first|((with_reducible refine s_list rfl fun K hK=>?_);refine s_load ?_;(refine q_get M (by exact rfl) ?_);refine⟨rfl,hK _ ?_⟩;clear hK K)|(with_reducible refine s_skipT ?_)|((with_reducible refine s_list rfl fun K hK=>?_);refine s_pure ?_;go_simp;with_reducible refine hK _ ?_;clear hK K)));(with_reducible refine wpStill_nil ?_))
          go_wp2_with (with_reducible (first|refine wq M ?_|(refine wS M ?_;clear M;intro w M)|(refine wV M ?_;clear M;intro z w M)|(refine wR M ?_;clear M;intro q w M)))
          go_roundg (wn - (k+1))
          case measure=>omega
          case rel=>exact⟨k+1,_,by omega,by go_num,M,HG2⟩
        ·have e:wn=k:=by omega
         have HG2:Hid (EqM (2*N) G (winI (i+1) wn (fun i=>(x.whens.getD i pat0).window) (fun i=>(x.whens.getD i pat0).n) (i+1) 0)):=fun r c hr hc=>by
          have h:=HG.out r c hr hc
          rw[←e]at h
          exact h.trans winI_next
         subst e
         go_wp2_with (with_reducible refine wq M ?_)
         go_roundg (N - (i+1))
         case measure=>omega
         case rel=>exact⟨i+1,_,by omega,by go_num,M,HG2⟩
      ·have e:N=i:=by omega
       have HG0:Hid (EqM (2*N) G (frG x.whens)):=fun r c hr hc=>by
        rw[HG.out r c hr hc,←e,winI_far (i' :=wn) (j' :=0) hN.1 (Nat.le_refl _),NW.out]
        exact winI_all hr
       clear HG HIX HRW
       subst e
       go_wp2_with (with_reducible (first|refine wq M ?_|(refine wS M ?_;clear M;intro w M)|(refine wV M ?_;clear M;intro z w M)|(refine wR M ?_;clear M;intro q w M)))
       go_loopg [12] ln (fun f' a wr=> ∃ (j:Nat) (G gj:Mx),j+f' =ln∧a= .int .i64 j∧Mem (StaysB g w0) g w0 wr ⟨0,0⟩ (grd A (2*N) cap gs rcs G::dat (fun F w=>RowsX F w A2 off 18 N rows)::dat (fun F w=>SlF F w 18 (patO w0) lo N lc2 l)::own zb [.string s1,.slice wa wn wc,v2,v3,.slice la ln lc,.string s2,v6] 47::[])∧Hid (linkF x l j=some gj∧EqM (2*N) G gj))
       case atStart=>exact⟨0,_,_,by omega,rfl,M,Lib.hid ⟨rfl,HG0.out⟩⟩
       case round=>
        clear M HG0
        obtain⟨j,G,gj,hj,rfl,M,HS⟩:=hrel
        by_cases hltj:j<ln
        ·have hkl:j<x.links.length:=by have:=NL.out;omega
         obtain⟨cp,op,rowp,hixp, -,hrrp,hwp⟩:=SlF.rowAt (P:=Tryz.prog) HY.out lnkF_firm Tryz.underlying42 size_lnk (i:=j) hkl
         obtain⟨p1,q1,r1,ep,u1⟩:=hrrp
         subst ep
         have HK:Hid (∀ wx,Below w0.heap.size w0 wx→wx.cell? ⟨cp,op,none⟩=some (.string x.links[j].left)∧wx.cell? ⟨cp,op+1,none⟩=some (.slice p1 q1 r1)∧wx.cell? ⟨cp,op+2,none⟩=some (.string x.links[j].right)):=fun wx hb=>⟨(hwp wx hb).1 0 _ rfl,(hwp wx hb).1 1 _ rfl,(hwp wx hb).1 2 _ rfl⟩
         have HNX:=Lib.hid (linkF_next (l:=l) hkl)
         have HOK:Hid (∀ o∈x.links[j].opts,optE o.rel o.lo o.hi=0):=(HR.out.link _ (List.getElem_mem hkl)).2
         have HJ:Hid (j+1≤x.links.length):=hkl
         have HOP:Hid (∀ wx,Below w0.heap.size w0 wx→Calls Tryz.prog 60 #[.slice p1 q1 r1] wx (OptsPost2 x.links[j].opts wx)):=fun wx hx=>(optionsOf_any F2 p1 q1 r1 x.links[j].opts wx (u1.below optF_firm hx)).mono (fun e w' h=>opts_two h)
         clear hwp u1
         generalize x.links[j]=k at HK HNX HOK HOP
         clear hkl
         have HPA:Hid (∀ (wx:World) (F' :Nat→Prop),g<wx.heap.size→Below w0.heap.size w0 wx→SlF F' wx 18 (patO w0) lo N lc2 l→Calls Tryz.prog 59 #[.slice lo N lc2,.string k.left] wx fun e w' =>e= .returned (.int .i64 (placeV (patI l k.left) l.length))∧Below wx.heap.size wx w'):=fun wx F' h1 hb h2=>patternNamed_any h1 (patO_live hb h2) _
         have HPB:Hid (∀ (wx:World) (F' :Nat→Prop),g<wx.heap.size→Below w0.heap.size w0 wx→SlF F' wx 18 (patO w0) lo N lc2 l→Calls Tryz.prog 59 #[.slice lo N lc2,.string k.right] wx fun e w' =>e= .returned (.int .i64 (placeV (patI l k.right) l.length))∧Below wx.heap.size wx w'):=fun wx F' h1 hb h2=>patternNamed_any h1 (patO_live hb h2) _
         by_cases hpp:patI l k.left<l.length∧patI l k.right<l.length
         ·have hva:placeV (patI l k.left) l.length=(patI l k.left:Int):=by unfold placeV;rw[if_pos hpp.1]
          have hvb:placeV (patI l k.right) l.length=(patI l k.right:Int):=by unfold placeV;rw[if_pos hpp.2]
          rw[hva]at HPA
          rw[hvb]at HPB
          have hpa:patI l k.left≤1000:=by have:=HN.out;omega
          have hpb:patI l k.right≤1000:=by have:=HN.out;omega
          by_cases hc:codeO k.opts (listO k.opts)=0
          ·have hgood:=((listO_good HOK.out).resolve_left (fun q=>q hc)).2
           have HLT:Hid (∀ r,atG (patI l k.left) (patI l k.right) r<2*N):=fun r=>by have h:=@atG_lt (patI l k.left) (patI l k.right) r l.length hpp.1 hpp.2;rw[HN.out]at h;exact h
           have H4:=Lib.hid hgood.len
           have H44:Hid (∀ i (hi:i<(listO k.opts).length),(listO k.opts)[i].length=(listO k.opts).length):=fun i hi=>by
            have h1:=hgood.len
            have h2:=hgood.row i (by omega)
            rw[show(listO k.opts).getD i []=(listO k.opts)[i]by simp[List.getD,List.getElem?_eq_getElem hi]]at h2
            omega
           have HSF:Hid (linkF x l (j+1)=some (lnkG (at2 (listO k.opts)) (patI l k.left) (patI l k.right) gj)):=by
            show _=_
            rw[HNX.out,HS.out.1]
            unfold stepF
            simp only
            rw[if_pos hpp,if_pos hc]
           have HEL:Hid (EqM (2*N) (lnkG (at2 (listO k.opts)) (patI l k.left) (patI l k.right) G) (lnkG (at2 (listO k.opts)) (patI l k.left) (patI l k.right) gj)):=by
            have h:=HS.out.2
            rw[←HN.out]at h ⊢
            exact lnk_congr hpp.1 hpp.2 h
           unfold OptsPost2 at HOP
           rw[hc]at HOP
           clear hva hvb hpp hc hgood HNX HOK HS
           generalize listO k.opts=os at HOP H4 H44 HSF HEL
           generalize patI l k.left=pa at HPA hpa HLT HSF HEL
           generalize patI l k.right=pb at HPB hpb HLT HSF HEL
           have HE:Hid (rowsK (at2 os) pa pb G 4=lnkG (at2 os) pa pb G):=rfl
           go_wp2_with (first|(go_at_call 59;have hd:=M.dat_ (i:=2) rfl;(first|with_reducible refine(HPA.out _ _ (Nat.lt_of_lt_of_le M.lt M.but.size) M.new hd).mono ?_|with_reducible refine(HPB.out _ _ (Nat.lt_of_lt_of_le M.lt M.but.size) M.new hd).mono ?_);clear hd;rintro e w5 ⟨rfl,hb5⟩;replace M:=M.below hb5;clear hb5)|(go_at_call 60;have hq:=HOP.out _ M.new;with_reducible refine hq.mono ?_;clear hq;go_loud (rintro e w5 ⟨ao5,n5,cap5,rfl,hb5,hS5⟩;obtain rfl:n5=4:=hS5.len.trans H4.out;obtain⟨A5,of5,ra5,rc5,B5,o5,HI,HX5⟩:=lin_of hS5 H44.out (by decide);replace M:=M.lpush hb5 HX5 (fun y hy=>by unfold from_ at hy;exact hy);clear hb5 hS5 HX5))|(with_reducible (first|refine wC (HK.out _ M.new).1 ?_|refine wC (HK.out _ M.new).2.1 ?_|refine wC (HK.out _ M.new).2.2 ?_|(refine w_ (q_rows M ?_);clear M;intro qz w M)|refine wq M ?_)))
           go_loopg [18] 4 (fun f' a wr=> ∃ r:Nat,r+f' =4∧a= .int .i64 r∧Mem (StaysB g w0) g w0 wr ⟨0,0⟩ (own qz [.int .i64 (2*(pa:Int)),.int .i64 (2*(pa:Int)+1),.int .i64 (2*(pb:Int)),.int .i64 (2*(pb:Int)+1)] 3::lin A5 of5 4 ra5 rc5 B5 o5 (at2 os)::grd A (2*N) cap gs rcs (rowsK (at2 os) pa pb G r)::dat (fun F w=>RowsX F w A2 off 18 N rows)::dat (fun F w=>SlF F w 18 (patO w0) lo N lc2 l)::own zb [.string s1,.slice wa wn wc,v2,v3,.slice la ln lc,.string s2,v6] 47::[]))
           case atStart=>exact⟨0,by omega,rfl,M⟩
           case round=>
            clear M
            obtain⟨r,hr,rfl,M⟩:=hrel
            by_cases hr4:r<4
            ·have hix1:=HI.row r hr4
             have HNR:=Lib.hid (rowsK_next (at2 os) pa pb G r)
             generalize rowsK (at2 os) pa pb G r=G1 at HNR M
             have hrt:decide ((r:Int)<4)=true:=by simpa using(by omega:(r:Int)<4)
             go_wp2_with (with_reducible (first|refine wq M ?_|(refine wS M ?_;clear M;intro w M)|(refine wV M ?_;clear M;intro z w M)|(refine wR M ?_;clear M;intro q w M)))
             go_loopg [19] 4 (fun f' a wr=> ∃ q:Nat,q+f' =4∧a= .int .i64 q∧Mem (StaysB g w0) g w0 wr ⟨0,0⟩ (own qz [.int .i64 (2*(pa:Int)),.int .i64 (2*(pa:Int)+1),.int .i64 (2*(pb:Int)),.int .i64 (2*(pb:Int)+1)] 3::lin A5 of5 4 ra5 rc5 B5 o5 (at2 os)::grd A (2*N) cap gs rcs (celsK (at2 os) pa pb r G1 q)::dat (fun F w=>RowsX F w A2 off 18 N rows)::dat (fun F w=>SlF F w 18 (patO w0) lo N lc2 l)::own zb [.string s1,.slice wa wn wc,v2,v3,.slice la ln lc,.string s2,v6] 47::[]))
             case atStart=>exact⟨0,by omega,rfl,M⟩
             case round=>
              clear M
              simp only[hrt]at *
              obtain⟨q,hq,rfl,M⟩:=hrel
              by_cases hq4:q<4
              ·have hix2:=HI.val r hr4 q hq4
               have hf1: ∀ wx,(Instr.indexAt 26 (.slice (some ⟨qz,0,none⟩) 4 4) (.int .i64 (r:Int))).run Tryz.prog wx= .ok (.pointer (some ⟨qz,r,none⟩)) wx:=fun wx=>by have h:=ix_row (A:=qz) (off:=0) hr4 (Nat.le_refl 4) wx;rwa[Nat.zero_add]at h
               have hf2: ∀ wx,(Instr.indexAt 26 (.slice (some ⟨qz,0,none⟩) 4 4) (.int .i64 (q:Int))).run Tryz.prog wx= .ok (.pointer (some ⟨qz,q,none⟩)) wx:=fun wx=>by have h:=ix_row (A:=qz) (off:=0) hq4 (Nat.le_refl 4) wx;rwa[Nat.zero_add]at h
               have HCN:=Lib.hid (celsK_next (at2 os) pa pb r G1 q)
               have hlr:=HLT.out r
               have hlq:=HLT.out q
               have HF1:Hid (∀ wx,Mem (StaysB g w0) g w0 wx ⟨0,0⟩ (own qz [.int .i64 (2*(pa:Int)),.int .i64 (2*(pa:Int)+1),.int .i64 (2*(pb:Int)),.int .i64 (2*(pb:Int)+1)] 3::lin A5 of5 4 ra5 rc5 B5 o5 (at2 os)::grd A (2*N) cap gs rcs (celsK (at2 os) pa pb r G1 q)::dat (fun F w=>RowsX F w A2 off 18 N rows)::dat (fun F w=>SlF F w 18 (patO w0) lo N lc2 l)::own zb [.string s1,.slice wa wn wc,v2,v3,.slice la ln lc,.string s2,v6] 47::[])→wx.cell? ⟨qz,r,none⟩=some (.int .i64 (atG pa pb r))∧wx.cell? ⟨qz,q,none⟩=some (.int .i64 (atG pa pb q))):=fun wx M=>⟨four_read M (i:=0) rfl hr4,four_read M (i:=0) rfl hq4⟩
               have HLTC:Hid (at2 os r q<celsK (at2 os) pa pb r G1 q (atG pa pb r) (atG pa pb q)→celL (at2 os) pa pb r (celsK (at2 os) pa pb r G1 q) q=setB (celsK (at2 os) pa pb r G1 q) (atG pa pb r) (atG pa pb q) (at2 os r q)):=celL_lt
               have HGEC:Hid (¬ at2 os r q<celsK (at2 os) pa pb r G1 q (atG pa pb r) (atG pa pb q)→celL (at2 os) pa pb r (celsK (at2 os) pa pb r G1 q) q=celsK (at2 os) pa pb r G1 q):=celL_ge
               obtain⟨G3,HC3⟩: ∃ G3,Hid (celsK (at2 os) pa pb r G1 (q+1)=G3):=⟨_,Lib.hid rfl⟩
               rw[←HCN.out,HC3.out]at HLTC HGEC
               generalize atG pa pb r=ar at hlr HF1 HLTC HGEC
               generalize atG pa pb q=aq at hlq HF1 HLTC HGEC
               clear HCN
               generalize celsK (at2 os) pa pb r G1 q=G2 at HLTC HGEC HF1 M
               have hgA: ∀ wx,(Instr.indexAt 78 (.slice (some ⟨A,0,none⟩) (2*N) cap) (.int .i64 (ar:Int))).run Tryz.prog wx= .ok (.pointer (some ⟨A,ar,none⟩)) wx:=fun wx=>(M.grid_ (i:=2) rfl).ixA hlr wx
               have hgR: ∀ wx,(Instr.indexAt 26 (.slice (some ⟨gs ar,0,none⟩) (2*N) (rcs ar)) (.int .i64 (aq:Int))).run Tryz.prog wx= .ok (.pointer (some ⟨gs ar,aq,none⟩)) wx:=fun wx=>(M.grid_ (i:=2) rfl).ixR hlr hlq wx
               go_upto_region 36 with(with_reducible (first|refine wq M ?_|(refine wS M ?_;clear M;intro w M)|(refine wV M ?_;clear M;intro z w M)|(refine wR M ?_;clear M;intro q w M)))
               by_cases hcmp:at2 os r q<G2 ar aq
               ·have hcd:decide (at2 os r q<G2 ar aq)=true:=by simpa using hcmp
                have HG3:=Lib.hid (HLTC.out hcmp)
                ((refine wp_region_first [0,1,2,3,4,5,6,7,8,9,10,11,12,13,14,15,16,17,18,19,20] [(true,0),(true,1),(true,2),(true,3),(true,4),(true,5),(true,6),(true,7),(true,8),(true,9),(true,10),(true,11),(true,12),(true,13),(true,14),(true,15),(true,16),(true,17),(true,18),(true,19),(true,20)] (fun _ M=>M) M (by kernel_rfl) (by kernel_rfl) (fun _ _ _ _ _ h=>h) ?_);clear M;intro w M;(repeat((with_reducible refine m_read rfl M.kept fun K hK=>?_);(first|(refine r_load (l' :=?_) ⟨_,M.kept⟩ (fun w M=>?_) ?_;rotate_left;focus((first|(refine q_cellat (HF1.out _ M).1 ?_)|(refine q_cellat (HF1.out _ M).2 ?_)|(refine q_cellat (M.grow (i:=2) rfl hlr) ?_)|(refine q_cellat (M.gval (i:=2) rfl hlr hlq) ?_)|(refine q_cellat (M.lrow (i:=1) rfl hr4) ?_)|(refine q_cellat (M.lval (i:=1) rfl hr4 hq4) ?_));refine⟨rfl,?_⟩;with_reducible rfl))|(refine r_pure (v:=?_) rfl (fun w=>?_) ?_;rotate_left;focus(go_simp;try with_reducible rfl)));(try go_simp);with_reducible refine hK _ ?_;clear hK K));(with_reducible refine m_nil ?_))
                go_upto_region 37 with(with_reducible (first|refine wq M ?_|(refine wS M ?_;clear M;intro w M)|(refine wV M ?_;clear M;intro z w M)|(refine wR M ?_;clear M;intro q w M)))
                ((refine wp_region_first [0,1,2,3,4,5,6,7,8,9,10,11,12,13,14,15,16,17,18] [(true,0),(true,1),(true,2),(true,3),(true,4),(true,5),(true,6),(true,7),(true,8),(true,9),(true,10),(true,11),(true,12),(true,13),(true,14),(true,15),(true,16),(true,17),(true,18),(false,19)] (fun _ M=>M) M (by kernel_rfl) (by kernel_rfl) (fun _ _ _ _ _ h=>h) ?_);clear M;intro w M;(repeat(first|((with_reducible refine m_read rfl M.kept fun K hK=>?_);(first|(refine r_load (l' :=?_) ⟨_,M.kept⟩ (fun w M=>?_) ?_;rotate_left;focus((first|(refine q_cellat (HF1.out _ M).1 ?_)|(refine q_cellat (HF1.out _ M).2 ?_)|(refine q_cellat (M.grow (i:=2) rfl hlr) ?_)|(refine q_cellat (M.lrow (i:=1) rfl hr4) ?_)|(refine q_cellat (M.lval (i:=1) rfl hr4 hq4) ?_));refine⟨rfl,?_⟩;with_reducible rfl))|(refine r_pure (v:=?_) rfl (fun w=>?_) ?_;rotate_left;focus(go_simp;try with_reducible rfl)));(try go_simp);with_reducible refine hK _ ?_;clear hK K)|((with_reducible refine m_last rfl rfl (by with_unfolding_all decide+kernel) fun K hK=>?_);((refine q_gput M (i:=2) rfl hlr hlq ?_;clear M;intro w M;(try simp only[List.set_cons_zero,List.set_cons_succ]at M)));(try go_simp);with_reducible refine hK _ _ ?_;clear hK K)));(with_reducible refine m_nil ?_))
                rw[←HG3.out]at M
                go_wp2_with (with_reducible (first|refine wq M ?_|(refine wS M ?_;clear M;intro w M)|(refine wV M ?_;clear M;intro z w M)|(refine wR M ?_;clear M;intro q w M)))
                go_roundg (4 - (q+1))
                case measure=>omega
                case rel=>exact⟨q+1,by omega,by go_num,by rw[HC3.out];exact M⟩
               ·have hcd:decide (at2 os r q<G2 ar aq)=false:=by simpa using hcmp
                have HG3:=Lib.hid (HGEC.out hcmp)
                ((refine wp_region_first [0,1,2,3,4,5,6,7,8,9,10,11,12,13,14,15,16,17,18,19,20] [(true,0),(true,1),(true,2),(true,3),(true,4),(true,5),(true,6),(true,7),(true,8),(true,9),(true,10),(true,11),(true,12),(true,13),(true,14),(true,15),(true,16),(true,17),(true,18),(true,19),(true,20)] (fun _ M=>M) M (by kernel_rfl) (by kernel_rfl) (fun _ _ _ _ _ h=>h) ?_);clear M;intro w M;(repeat((with_reducible refine m_read rfl M.kept fun K hK=>?_);(first|(refine r_load (l' :=?_) ⟨_,M.kept⟩ (fun w M=>?_) ?_;rotate_left;focus((first|(refine q_cellat (HF1.out _ M).1 ?_)|(refine q_cellat (HF1.out _ M).2 ?_)|(refine q_cellat (M.grow (i:=2) rfl hlr) ?_)|(refine q_cellat (M.gval (i:=2) rfl hlr hlq) ?_)|(refine q_cellat (M.lrow (i:=1) rfl hr4) ?_)|(refine q_cellat (M.lval (i:=1) rfl hr4 hq4) ?_));refine⟨rfl,?_⟩;with_reducible rfl))|(refine r_pure (v:=?_) rfl (fun w=>?_) ?_;rotate_left;focus(go_simp;try with_reducible rfl)));(try go_simp);with_reducible refine hK _ ?_;clear hK K));(with_reducible refine m_nil ?_))
                rw[←HG3.out]at M
                go_wp2_with (with_reducible (first|refine wq M ?_|(refine wS M ?_;clear M;intro w M)|(refine wV M ?_;clear M;intro z w M)|(refine wR M ?_;clear M;intro q w M)))
                go_roundg (4 - (q+1))
                case measure=>omega
                case rel=>exact⟨q+1,by omega,by go_num,by rw[HC3.out];exact M⟩
              ·have e:q=4:=by omega
               subst e
               rw[←HNR.out]at M
               go_wp2_with (with_reducible (first|refine wq M ?_|(refine wS M ?_;clear M;intro w M)|(refine wV M ?_;clear M;intro z w M)|(refine wR M ?_;clear M;intro q w M)))
               go_roundg (4 - (r+1))
               case measure=>omega
               case rel=>exact⟨r+1,by omega,by go_num,M⟩
            ·have e:r=4:=by omega
             subst e
             rw[HE.out]at M
             go_wp2_with (with_reducible (first|refine wq M ?_|(refine wS M ?_;clear M;intro w M)|(refine wV M ?_;clear M;intro z w M)|(refine wR M ?_;clear M;intro q w M)))
             go_roundg (ln - (j+1))
             case measure=>omega
             case rel=>exact⟨j+1,_,_,by omega,by go_num,M.drop.drop,Lib.hid ⟨HSF.out,HEL.out⟩⟩
          ·have HSN:Hid (wholeF x nots=none):=whole_stuck HLE.out (j:=j+1) (by rw[HNX.out,HS.out.1];unfold stepF;simp only;rw[if_pos hpp,if_neg hc]) HJ.out
           have hcq:(codeO k.opts (listO k.opts)==0)=false:=by simpa using hc
           unfold OptsPost2 at HOP
           clear hva hvb hpp hc HNX HOK HS
           generalize codeO k.opts (listO k.opts)=qc at HOP hcq
           generalize patI l k.left=pa at HPA hpa
           generalize patI l k.right=pb at HPB hpb
           go_wp2_with (first|(go_at_call 59;have hd:=M.dat_ (i:=2) rfl;(first|with_reducible refine(HPA.out _ _ (Nat.lt_of_lt_of_le M.lt M.but.size) M.new hd).mono ?_|with_reducible refine(HPB.out _ _ (Nat.lt_of_lt_of_le M.lt M.but.size) M.new hd).mono ?_);clear hd;rintro e w5 ⟨rfl,hb5⟩;replace M:=M.below hb5;clear hb5)|(go_at_call 60;have hq:=HOP.out _ M.new;with_reducible refine hq.mono ?_;clear hq;rintro e w5 ⟨ao5,n5,cap5,rfl,hb5,hS5⟩;replace M:=M.below hb5;clear hb5 hS5)|(with_reducible (first|refine wC (HK.out _ M.new).1 ?_|refine wC (HK.out _ M.new).2.1 ?_|refine wC (HK.out _ M.new).2.2 ?_|refine wq M ?_)))
           go_ret2
           exact⟨M.new,.inl ⟨HSN.out,_,rfl⟩⟩
         ·have HSF:Hid (linkF x l (j+1)=some gj):=by
           show _=_
           rw[HNX.out,HS.out.1]
           unfold stepF
           simp only
           rw[if_neg hpp]
          obtain⟨va,hva⟩: ∃ v,placeV (patI l k.left) l.length=v:=⟨_,rfl⟩
          obtain⟨vb,hvb⟩: ∃ v,placeV (patI l k.right) l.length=v:=⟨_,rfl⟩
          have hneg:va= -1∨(0≤va∧vb= -1):=by
           unfold placeV at hva hvb
           by_cases h1:patI l k.left<l.length
           ·right
            rw[if_pos h1]at hva
            rw[if_neg (fun q=>hpp ⟨h1,q⟩)]at hvb
            omega
           ·left
            rw[if_neg h1]at hva
            omega
          rw[hva]at HPA
          rw[hvb]at HPB
          clear hva hvb hpp HNX HOK HOP
          rcases hneg with e|⟨hge,e⟩
          ·subst e
           go_wp2_with (first|(go_at_call 59;have hd:=M.dat_ (i:=2) rfl;(first|with_reducible refine(HPA.out _ _ (Nat.lt_of_lt_of_le M.lt M.but.size) M.new hd).mono ?_|with_reducible refine(HPB.out _ _ (Nat.lt_of_lt_of_le M.lt M.but.size) M.new hd).mono ?_);clear hd;rintro e w5 ⟨rfl,hb5⟩;replace M:=M.below hb5;clear hb5)|(with_reducible (first|refine wC (HK.out _ M.new).1 ?_|refine wC (HK.out _ M.new).2.2 ?_|refine wq M ?_)))
           go_roundg (ln - (j+1))
           case measure=>omega
           case rel=>exact⟨j+1,_,_,by omega,by go_num,M,Lib.hid ⟨HSF.out,HS.out.2⟩⟩
          ·subst e
           have hged:decide (va<0)=false:=by simpa using hge
           go_wp2_with (first|(go_at_call 59;have hd:=M.dat_ (i:=2) rfl;(first|with_reducible refine(HPA.out _ _ (Nat.lt_of_lt_of_le M.lt M.but.size) M.new hd).mono ?_|with_reducible refine(HPB.out _ _ (Nat.lt_of_lt_of_le M.lt M.but.size) M.new hd).mono ?_);clear hd;rintro e w5 ⟨rfl,hb5⟩;replace M:=M.below hb5;clear hb5)|(with_reducible (first|refine wC (HK.out _ M.new).1 ?_|refine wC (HK.out _ M.new).2.2 ?_|refine wq M ?_)))
           go_roundg (ln - (j+1))
           case measure=>omega
           case rel=>exact⟨j+1,_,_,by omega,by go_num,M,Lib.hid ⟨HSF.out,HS.out.2⟩⟩
        ·have e:j=ln:=by omega
         have HF:Hid (linkF x l x.links.length=some gj):=by show _=_;rw[←NL.out,←e];exact HS.out.1
         have HSM:Hid (Small (2*N) gj):=by have h:=link_small HR.out l _ (Nat.le_refl _) gj HF.out;rw[HN.out]at h;exact h
         have HWI:=Lib.hid (whole_is HLE.out HN.out HF.out)
         have hn:npts x nots=2*N:=by unfold npts;rw[HLE.out,HN.out]
         subst e
         rcases tight_whole (n:=2*N) (by omega) HSM.out HS.out.2 with⟨hok,d,hd,hde⟩|⟨hok,hd⟩
         ·have HW:=Lib.hid (HWI.out.1 hok)
          have HTP:Hid (∀ (wx:World) (F' :Nat→Prop),SlF F' wx 1 lineF (some ⟨A,0,none⟩) (2*N) cap (gridL (2*N) G)→Calls Tryz.prog 61 #[.slice (some ⟨A,0,none⟩) (2*N) cap] wx fun e w' => ∃ ao cap2,e= .returned (.tuple #[.slice ao (2*N) cap2,.bool true])∧Below wx.heap.size wx w' ∧MatD ao (2*N) cap2 (shutF (2*N) gj) (from_ wx.heap.size) w'):=fun wx F' h=>by
           refine(tightened_any F' _ (2*N) cap _ wx h (by omega) (fun i hi=>by rw[gridL_len]at hi ⊢;exact gridL_row hi)).mono ?_
           rintro e w' (⟨h1, -⟩|⟨d2,ao,cap2,gs2,h1,rfl,h3,h4⟩)
           ·rw[hd]at h1;cases h1
           ·rw[hd]at h1
            injection h1 with h1
            subst h1
            exact⟨ao,cap2,rfl,h3,h4.matD (by omega) (by omega) hde⟩
          clear hd hde HWI HS HF
          go_wp2_with (first|(go_at_call 61;have hq:=HTP.out _ _ ((M.grid_ (i:=0) rfl).grid.toF (by omega));with_reducible refine hq.mono ?_;clear hq;go_loud (rintro e w5 ⟨ao5,cap5,rfl,hb5,hD5⟩;replace M:=M.mpush hb5 hD5;clear hb5 hD5))|(with_reducible refine wq M ?_))
          go_ret2
          refine⟨M.new,.inr ⟨_,ao5,cap5,HW.out,by rw[hn];rfl,?_⟩⟩
          rw[hn]
          exact matD_firm _ _ _ _ (Same.wide fun k hk _=>hk.1) (M.dat_ (i:=0) rfl)
         ·have HW:=Lib.hid (HWI.out.2 hok)
          have HTP:Hid (∀ (wx:World) (F' :Nat→Prop),SlF F' wx 1 lineF (some ⟨A,0,none⟩) (2*N) cap (gridL (2*N) G)→Calls Tryz.prog 61 #[.slice (some ⟨A,0,none⟩) (2*N) cap] wx fun e w' =>e= .returned (.tuple #[.slice none 0 0,.bool false])∧Below wx.heap.size wx w'):=fun wx F' h=>by
           refine(tightened_any F' _ (2*N) cap _ wx h (by omega) (fun i hi=>by rw[gridL_len]at hi ⊢;exact gridL_row hi)).mono ?_
           rintro e w' (⟨-,h2,h3⟩|⟨d2,ao,cap2,gs2,h1, -⟩)
           ·exact⟨h2,h3⟩
           ·rw[hd]at h1;cases h1
          clear hd HWI HS HF
          go_wp2_with (first|(go_at_call 61;have hq:=HTP.out _ _ ((M.grid_ (i:=0) rfl).grid.toF (by omega));with_reducible refine hq.mono ?_;clear hq;rintro e w5 ⟨rfl,hb5⟩;replace M:=M.below hb5;clear hb5)|(with_reducible refine wq M ?_))
          go_ret2
          exact⟨M.new,.inl ⟨HW.out,_,rfl⟩⟩
end
end Go.Proofs.YtncmghnhfipklaaGreatDoor
