/-
  The walks of bound.Close and its reference.
-/
import Derived.Test.YtncmghnhfipklaaGreatDoorPu07
import Derived.Test.YtncmghnhfipklaaGreatDoorPu03
import Derived.Test.YtncmghnhfipklaaGreatDoorPw07
import Derived.Test.YtncmghnhfipklaaGreatDoorPu01
import Derived.Deep.Quiet
namespace Go.Proofs.YtncmghnhfipklaaGreatDoor
open Go.RowKit
set_option linter.unusedVariables false
set_option linter.unusedSimpArgs false
def bndE(x:Int):Int:=if x≠NOB∧(x< -2147483648∨2147483648<x)then 2 else 0
def rowE(m:List (List Int))(n i:Nat):Int:=if at2 m i i=0 then firstN (fun j=>bndE (at2 m i j)) n else 4
def closE(m:List (List Int)):Int:=if matE m=0 then firstN (rowE m m.length) m.length else matE m
def closC(m:List (List Int)):Int:=if closE m=0 then(if okb m.length (shutF m.length (at2 m))=true then 0 else 16)else closE m
def closM(m:List (List Int)):List (List Int):=if closC m=0 then gridL m.length (shutF m.length (at2 m))else []
def ClosPost(m:List (List Int))(w:World)(x:Ending)(w' :World):Prop:=
 ∃ ao' n' cap',x= .returned (.tuple #[.slice ao' n' cap',.int .i64 (closC m)])∧Below w.heap.size w w' ∧SlF (from_ w.heap.size) w' 1 lineF ao' n' cap' (closM m)
theorem closE_row{m:List (List Int)}{q:Nat}{c:Int}(hE:matE m=0)(hA:AllZ (rowE m m.length) q)(hq:q<m.length)(h:rowE m m.length q=c)(hc:c≠0):closE m=c:=by
 unfold closE
 rw[if_pos hE,firstN_at hA hq (by rw[h];exact hc),h]
set_option maxHeartbeats 4000000 in
set_option maxRecDepth 100000 in
theorem close_any(F:Nat→Prop)(ao:Option Addr)(n cap:Nat)(m:List (List Int))(w:World)(hM:SlF F w 1 lineF ao n cap m):Calls Tryz.prog 49 #[.slice ao n cap] w (ClosPost m w):=by
 have NL:Hid (n=m.length):=hM.len
 have hle:=hM.le
 have HC:=Lib.hid (matCheck_any ao n cap m w (mat_old hM))
 have HM:=Lib.hid hM
 clear hM
 by_cases hE:matE m=0
 ·have ME:=Lib.hid hE
  obtain⟨h12,hsq⟩:=matE_square hE
  have SQ:=Lib.hid hsq
  rw[hE]at HC
  have hn12:n≤12:=by have:=NL.out;omega
  clear hE hsq h12
  go_enter Tryz.func49,Tryz.ntmps49
  go_wp2_with fail
  refine HC.out.mono ?_
  rintro e w1 ⟨rfl,hb1⟩
  go_wp2_with fail
  go_loopw [16] (fun i wr=> ∃ q:Nat,q≤n∧i= .int .i64 q∧Below w.heap.size w wr∧Hid (AllZ (rowE m m.length) q)) (fun i _=>n - (intOf i).toNat)
  case atStart=>exact⟨0,by omega,rfl,hb1,allZ_zero _⟩
  case round=>
   obtain⟨q,hq,rfl,hbr,AR⟩:=hrel
   by_cases hqn:q<n
   ·have hq1:(q:Int)<n:=by omega
    have hql:q<m.length:=by have:=NL.out;omega
    obtain⟨Aa,oa,ra,rca,hAa,hixa,hca,hra⟩:=line_at HM.out SQ.out hqn
    obtain⟨Ba,pa,hBa,hea,hixa2⟩:=hra q hqn
    have RA:=Lib.hid hra
    have CA:=Lib.hid hca
    have ca:wr.cell? ⟨Aa,oa+q,none⟩=some (.slice ra n rca):=(hbr.cell (p:=⟨Aa,oa+q,none⟩) hAa).trans hca
    have ea:wr.cell? ⟨Ba,pa+q,none⟩=some (.int .i64 (at2 m q q)):=(hbr.cell (p:=⟨Ba,pa+q,none⟩) hBa).trans hea
    have lA:Aa<wr.heap.size:=Nat.lt_of_lt_of_le hAa hbr.size
    have lB:Ba<wr.heap.size:=Nat.lt_of_lt_of_le hBa hbr.size
    clear hra hca hea
    by_cases hd:at2 m q q=0
    ·have hd1:(at2 m q q !=0)=false:=by simpa using hd
     go_wp2_with fail
     go_loopw [32] (fun j wr=> ∃ p:Nat,p≤n∧j= .int .i64 p∧Below w.heap.size w wr∧Hid (AllZ (fun j=>bndE (at2 m q j)) p)) (fun j _=>n - (intOf j).toNat)
     case atStart=>exact⟨0,by omega,rfl,hbr,allZ_zero _⟩
     case round=>
      obtain⟨p,hp,rfl,hbj,AZ⟩:=hrel
      clear ca ea lA lB
      have ca:wr.cell? ⟨Aa,oa+q,none⟩=some (.slice ra n rca):=(hbj.cell (p:=⟨Aa,oa+q,none⟩) hAa).trans CA.out
      have lA:Aa<wr.heap.size:=Nat.lt_of_lt_of_le hAa hbj.size
      by_cases hpn:p<n
      ·have hp1:(p:Int)<n:=by omega
       have hpl:p<m.length:=by have:=NL.out;omega
       obtain⟨Bb,pb,hBb,heb0,hixb⟩:=RA.out p hpn
       have heb:wr.cell? ⟨Bb,pb+p,none⟩=some (.int .i64 (at2 m q p)):=(hbj.cell (p:=⟨Bb,pb+p,none⟩) hBb).trans heb0
       have lb:Bb<wr.heap.size:=Nat.lt_of_lt_of_le hBb hbj.size
       clear heb0
       generalize hx:at2 m q p=x at heb
       by_cases hN:x=NOB
       ·have BZ:Hid (AllZ (fun j=>bndE (at2 m q j)) (p+1)):=allZ_succ AZ.out (by show bndE (at2 m q p)=0;rw[hx];unfold bndE;rw[if_neg (fun h=>h.1 hN)])
        have hN1:(x !=1152921504606846976)=false:=by rw[hN];rfl
        clear hN hx
        go_wp2
        go_roundw
        case rel=>exact⟨p+1,by omega,by go_num,hbj,BZ⟩
        case measure=>simp[intOf];omega
       ·have hN1:(x !=1152921504606846976)=true:=by unfold NOB at hN;simpa using hN
        by_cases hlo:x< -2147483648
        ·have hb2:bndE (at2 m q p)≠0:=by rw[hx];unfold bndE;rw[if_pos ⟨hN,Or.inl hlo⟩];decide
         have hb3:bndE (at2 m q p)=2:=by rw[hx];unfold bndE;rw[if_pos ⟨hN,Or.inl hlo⟩]
         have hin:inB x (-2147483648) 2147483648=false:=inB_false.2 (by omega)
         have C0:Hid (closE m=2):=closE_row ME.out AR.out hql (by unfold rowE;rw[if_pos hd];exact(firstN_at AZ.out hpl hb2).trans hb3) (by decide)
         have C:Hid (closC m=2):=by show _=_;unfold closC;rw[C0.out];rfl
         have M0:Hid (closM m=[]):=by show _=_;unfold closM;rw[C.out];rfl
         go_wp2
         go_ret2
         exact⟨none,0,0,by rw[C.out];rfl,hbj,by rw[M0.out];exact SlF.nil⟩
        ·by_cases hhi:2147483648<x
         ·have hb2:bndE (at2 m q p)≠0:=by rw[hx];unfold bndE;rw[if_pos ⟨hN,Or.inr hhi⟩];decide
          have hb3:bndE (at2 m q p)=2:=by rw[hx];unfold bndE;rw[if_pos ⟨hN,Or.inr hhi⟩]
          have hin:inB x (-2147483648) 2147483648=false:=inB_false.2 (by omega)
          have C0:Hid (closE m=2):=closE_row ME.out AR.out hql (by unfold rowE;rw[if_pos hd];exact(firstN_at AZ.out hpl hb2).trans hb3) (by decide)
          have C:Hid (closC m=2):=by show _=_;unfold closC;rw[C0.out];rfl
          have M0:Hid (closM m=[]):=by show _=_;unfold closM;rw[C.out];rfl
          go_wp2
          go_ret2
          exact⟨none,0,0,by rw[C.out];rfl,hbj,by rw[M0.out];exact SlF.nil⟩
         ·have BZ:Hid (AllZ (fun j=>bndE (at2 m q j)) (p+1)):=allZ_succ AZ.out (by show bndE (at2 m q p)=0;rw[hx];unfold bndE;rw[if_neg (by omega)])
          have hin:inB x (-2147483648) 2147483648=true:=inB_true.2 (by omega)
          clear hx
          go_wp2
          go_roundw
          case rel=>exact⟨p+1,by omega,by go_num,hbj,BZ⟩
          case measure=>simp[intOf];omega
      ·obtain rfl:p=n:=by omega
       have RZ:Hid (AllZ (rowE m m.length) (q+1)):=allZ_succ AR.out (by unfold rowE;rw[if_pos hd,←NL.out];exact firstN_zero AZ.out)
       go_wp2
       go_roundw
       case rel=>exact⟨q+1,by omega,by go_num,hbj,RZ⟩
       case measure=>simp[intOf];omega
    ·have hd1:(at2 m q q !=0)=true:=by simpa using hd
     have C0:Hid (closE m=4):=closE_row ME.out AR.out hql (by unfold rowE;rw[if_neg hd]) (by decide)
     have C:Hid (closC m=4):=by show _=_;unfold closC;rw[C0.out];rfl
     have M0:Hid (closM m=[]):=by show _=_;unfold closM;rw[C.out];rfl
     clear hd
     go_wp2
     go_ret2
     exact⟨none,0,0,by rw[C.out];rfl,(by repeat(assumption)),by rw[M0.out];exact SlF.nil⟩
   ·obtain rfl:q=n:=by omega
    have C0:Hid (closE m=0):=by show _=_;unfold closE;rw[if_pos ME.out];exact firstN_zero (fun j hj=>AR.out j (by have:=NL.out;omega))
    go_wp2_with fail
    refine(own_any F ao q cap m _ (HM.out.below lineF_firm hbr) hn12 SQ.out).mono ?_
    rintro e w2 ⟨ao2,cap2,gs,rfl,hb2,hG2⟩
    have hs2:=hb2.size
    have hs1:=hbr.size
    go_wp2_with fail
    refine(shut_any wr.heap.size ao2 q cap2 gs (at2 m) _ hs2 hG2).mono ?_
    rintro e w3 ⟨rfl,hb3,hG3⟩
    cases hok:okb q (shutF q (at2 m))with
    |false=>
     have C:Hid (closC m=16):=by show _=_;unfold closC;rw[if_pos C0.out,←NL.out,hok];rfl
     have M0:Hid (closM m=[]):=by show _=_;unfold closM;rw[C.out];rfl
     go_wp2
     go_ret2
     exact⟨none,0,0,by rw[C.out];rfl,(hbr.trans (hb2.mono hs1)).trans (hb3.mono hs1),by rw[M0.out];exact SlF.nil⟩
    |true=>
     have C:Hid (closC m=0):=by show _=_;unfold closC;rw[if_pos C0.out,←NL.out,hok];rfl
     have M0:Hid (closM m=gridL q (shutF q (at2 m))):=by show _=_;unfold closM;rw[if_pos C.out,←NL.out]
     have hS3:=hG3.toF (by omega)
     have HS3:=Lib.hid hS3
     clear hS3 hG3 hG2
     go_wp2
     go_ret2
     exact⟨ao2,q,cap2,by rw[C.out];rfl,(hbr.trans (hb2.mono hs1)).trans (hb3.mono hs1),by rw[M0.out];exact HS3.out.wide lineF_firm (fun b hb _=>Nat.le_trans hs1 hb)⟩
 ·have C:Hid (closC m=matE m):=by show _=_;unfold closC closE;rw[if_neg hE,if_neg hE]
  have M0:Hid (closM m=[]):=by show _=_;unfold closM;rw[C.out,if_neg hE]
  have hq:(matE m !=0)=true:=by simpa using hE
  clear hE
  go_enter Tryz.func49,Tryz.ntmps49
  go_wp2_with fail
  refine HC.out.mono ?_
  rintro e w1 ⟨rfl,hb1⟩
  go_wp2
  go_ret2
  exact⟨none,0,0,by rw[C.out];rfl,hb1,by rw[M0.out];exact SlF.nil⟩
theorem small_mat{n:Nat}{g:Mx}(hn:n≤12)(h:Small n g):matE (gridL n g)=0:=by
 unfold matE
 rw[gridL_len,if_neg (by omega)]
 refine allZ_first fun i hi=>?_
 unfold lineE
 rw[gridL_row hi,if_pos rfl]
 refine allZ_first fun k hk=>?_
 have e:((gridL n g).getD i []).getD k 0=g i k:=by
  have:=at2_gridL (g:=g) hi hk
  exact this
 unfold cellE
 rw[e]
 have:=h.1 i k hi hk
 unfold NOB at this
 rw[if_pos (by omega)]
theorem small_clos{n:Nat}{g:Mx}(hn:n≤12)(h:Small n g):closE (gridL n g)=0:=by
 unfold closE
 rw[if_pos (small_mat hn h),gridL_len]
 refine allZ_first fun i hi=>?_
 unfold rowE
 rw[at2_gridL hi hi,if_pos (h.2 i hi)]
 refine allZ_first fun j hj=>?_
 unfold bndE
 rw[at2_gridL hi hj]
 have:=h.1 i j hi hj
 rw[if_neg (by unfold NOB at *;omega)]
theorem fold_par{σ τ:Type}(f:σ→Nat→σ)(f' :τ→Nat→τ)(P:σ→τ→Prop)(n:Nat)(s:σ)(s' :τ)(h0:P s s')(hs: ∀ k t t',k<n→P t t' →P (f t k) (f' t' k)):P ((List.range n).foldl f s) ((List.range n).foldl f' s'):=by
 induction n with
 |zero=>exact h0
 |succ n ih=>
  rw[List.range_succ,List.foldl_append,List.foldl_append]
  exact hs n _ _ (Nat.lt_succ_self n) (ih (fun k t t' hk=>hs k t t' (by omega)))
def EqM(n:Nat)(g g' :Mx):Prop:= ∀ a b,a<n→b<n→g a b=g' a b
theorem shut_congr{n:Nat}{g g' :Mx}(h:EqM n g g'):EqM n (shutF n g) (shutF n g'):=
 fold_par (layF n) (layF n) (EqM n) n g g' h fun k t t' hk T=>
  fold_par (rowF n k) (rowF n k) (EqM n) n t t' T fun i t t' hi T=>
   fold_par (cellF k i) (cellF k i) (EqM n) n t t' T fun j t t' hj T a b ha hb=>by
    unfold cellF setB
    rw[T i j hi hj,T i k hi hk,T k j hk hj,T a b ha hb]
theorem okb_congr{n:Nat}{g g' :Mx}(h:EqM n g g'):okb n g=okb n g' :=by
 have key: ∀ {g g' :Mx},EqM n g g' →okM n g→okM n g' :=fun h k i hi=>by rw[←h i i hi hi];exact k i hi
 rw[Bool.eq_iff_iff,okb_iff,okb_iff]
 exact⟨key h,key fun a b ha hb=>(h a b ha hb).symm⟩
theorem eq_grid(n:Nat)(g:Mx):EqM n (at2 (gridL n g)) g:=fun a b ha hb=>at2_gridL ha hb
theorem clos_small{n:Nat}{g:Mx}(hn:n≤12)(h:Small n g):closC (gridL n g)=(if okb n (shutF n g)=true then 0 else 16)∧(okb n (shutF n g)=true→closM (gridL n g)=gridL n (shutF n g)):=by
 have hS:=shut_congr (eq_grid n g)
 have e1:closC (gridL n g)=(if okb n (shutF n g)=true then 0 else 16):=by
  unfold closC
  rw[if_pos (small_clos hn h),gridL_len,okb_congr hS]
 refine⟨e1,fun hk=>?_⟩
 unfold closM
 rw[e1,if_pos hk,if_pos rfl,gridL_len]
 exact gridL_congr fun r c hr hc=>hS r c hr hc
def gblk(A n:Nat)(gs:Nat→Nat):Nat→Prop:=fun y=>0<n∧(y=A∨ ∃ r,r<n∧y=gs r)
structure GridX (w:World) (A n cap:Nat) (gs rcs:Nat→Nat) (g:Mx):Prop where
 grid:Grid (gblk A n gs) w (some ⟨A,0,none⟩) n cap gs g
 row: ∀ r,r<n→w.cell? ⟨A,r,none⟩=some (.slice (some ⟨gs r,0,none⟩) n (rcs r))∧n≤rcs r∧rcs r≤9223372036854775807
def grd(A n cap:Nat)(gs rcs:Nat→Nat)(g:Mx):Ent:=⟨gblk A n gs,fun _ w=>GridX w A n cap gs rcs g⟩
section
variable {ao:Option Addr} {A n cap:Nat} {gs rcs:Nat→Nat} {g:Mx} {w w' :World} {F:Nat→Prop}
theorem GridX.in_(h:GridX w A n cap gs rcs g){y:Nat}(hy:gblk A n gs y):y<w.heap.size:=by
 obtain⟨hn,hy⟩:=hy
 rcases hy with rfl|⟨r,hr,rfl⟩
 ·obtain⟨A',rc,cur,e',hA,hne,hlt, -⟩:=h.grid.row 0 hn
  injection e' with e'
  injection e' with e'
  subst e'
  exact hlt
 ·obtain⟨A',rc,cur,e,hA,hne,hlt,hc,h1,h2,hh,hcur,hF⟩:=h.grid.row r hr
  exact(Array.getElem?_eq_some_iff.1 hh).1
theorem GridX.same(h:GridX w A n cap gs rcs g)(hs:Same (gblk A n gs) (gblk A n gs) w w'):GridX w' A n cap gs rcs g:=by
 refine⟨h.grid.same hs,fun r hr=>⟨?_,(h.row r hr).2⟩⟩
 have hm:gblk A n gs A:=⟨by omega,.inl rfl⟩
 exact(World.cell?_of_block (w:=w) (a:=⟨A,r,none⟩) (hs.2 A hm (h.in_ hm)).2).trans (h.row r hr).1
theorem Grid.fix(h:Grid F w ao n cap gs g)(hn:0<n): ∃ A rcs,ao=some ⟨A,0,none⟩∧GridX w A n cap gs rcs g∧ ∀ y,gblk A n gs y→F y∧y<w.heap.size:=by
 obtain⟨A,rc0,cur0,e,hA0,hne0,hlt0, -⟩:=h.row 0 hn
 subst e
 have key: ∀ r,∃ rc,r<n→F (gs r)∧gs r<w.heap.size∧w.cell? ⟨A,r,none⟩=some (.slice (some ⟨gs r,0,none⟩) n rc)∧n≤rc∧rc≤maxLen:=fun r=>by
  by_cases hr:r<n
  ·obtain⟨A',rc,cur,e,hA,hne,hlt,hc,h1,h2,hh,hcur,hF⟩:=h.row r hr
   injection e with e
   injection e with e
   subst e
   exact⟨rc,fun _=>⟨hF,(Array.getElem?_eq_some_iff.1 hh).1,hc,h1,h2⟩⟩
  ·exact⟨0,fun h=>absurd h hr⟩
 obtain⟨rcs,hk⟩:=Classical.axiomOfChoice key
 refine⟨A,rcs,rfl,⟨⟨h.le,h.max,h.nil,fun r hr=>?_,h.apart⟩,fun r hr=>⟨(hk r hr).2.2.1,(hk r hr).2.2.2.1,(hk r hr).2.2.2.2⟩⟩,fun y hy=>?_⟩
 ·obtain⟨A',rc,cur,e,hA,hne,hlt,hc,h1,h2,hh,hcur,hF⟩:=h.row r hr
  injection e with e
  injection e with e
  subst e
  exact⟨A,rc,cur,rfl,⟨hn,.inl rfl⟩,hne,hlt,hc,h1,h2,hh,hcur,⟨hn,.inr ⟨r,hr,rfl⟩⟩⟩
 ·rcases hy.2 with rfl|⟨r,hr,rfl⟩
  ·exact⟨hA0,hlt0⟩
  ·exact⟨(hk r hr).1,(hk r hr).2.1⟩
theorem grd_firm:(grd A n cap gs rcs g).firm:=fun F G w w' hsz _ hz hlt h=>GridX.same h ⟨hsz,fun k hk hkl=>⟨hk,hz k hk hkl⟩⟩
theorem GridX.ixA(h:GridX w A n cap gs rcs g){i:Nat}(hi:i<n)(wx:World):(Instr.indexAt 78 (.slice (some ⟨A,0,none⟩) n cap) (.int .i64 i)).run Tryz.prog wx= .ok (.pointer (some ⟨A,i,none⟩)) wx:=by
 have hle:=h.grid.le
 simp[Instr.indexAt,run_underlying Tryz.underlying78,asIntOf,size_ints wx,Addr.add]
 rw[if_pos (by omega)]
 by_cases e0:i=0
 ·rw[if_pos e0,e0]
 ·rw[if_neg e0]
theorem GridX.ixR(h:GridX w A n cap gs rcs g){i j:Nat}(hi:i<n)(hj:j<n)(wx:World):(Instr.indexAt 26 (.slice (some ⟨gs i,0,none⟩) n (rcs i)) (.int .i64 j)).run Tryz.prog wx= .ok (.pointer (some ⟨gs i,j,none⟩)) wx:=by
 have hle:=(h.row i hi).2.1
 simp[Instr.indexAt,run_underlying Tryz.underlying26,asIntOf,size_int wx,Addr.add]
 rw[if_pos (by omega)]
 by_cases e0:j=0
 ·rw[if_pos e0,e0]
 ·rw[if_neg e0]
theorem GridX.val(h:GridX w A n cap gs rcs g){i j:Nat}(hi:i<n)(hj:j<n):w.cell? ⟨gs i,j,none⟩=some (.int .i64 (g i j)):=by
 obtain⟨A',rc,cur,e,hA,hne,hlt,hc,h1,h2,hh,hcur,hF⟩:=h.grid.row i hi
 simp only[World.cell?,hh]
 simpa using hcur j hj
theorem GridX.frz(h:GridX w A n cap gs rcs g){i:Nat}(hi:i<n)(j:Nat):w.frozen? ⟨gs i,j,none⟩=false:=by
 obtain⟨A',rc,cur,e,hA,hne,hlt,hc,h1,h2,hh,hcur,hF⟩:=h.grid.row i hi
 exact Lib.frozen_of_heap hh j
theorem GridX.ne(h:GridX w A n cap gs rcs g){i:Nat}(hi:i<n):gs i≠A:=by
 obtain⟨A',rc,cur,e,hA,hne,hlt,hc,h1,h2,hh,hcur,hF⟩:=h.grid.row i hi
 injection e with e
 injection e with e
 subst e
 exact hne
theorem GridX.store(h:GridX w A n cap gs rcs g){i j:Nat}(hi:i<n)(hj:j<n)(v:Int):GridX (w.setCell ⟨gs i,j,none⟩ (.int .i64 v)) A n cap gs rcs (setB g i j v):=
 ⟨h.grid.store hi hj v,fun r hr=>⟨by rw[World.cell?_setCell_other _ _ _ _ (by intro e;injection e with e1;exact h.ne hi e1)];exact(h.row r hr).1,(h.row r hr).2⟩⟩
end
section
variable {At:PS→World→Prop} {b:Nat} {u w w' :World} {s:PS} {L:List Ent} {ao:Option Addr} {A n cap:Nat} {gs rcs:Nat→Nat} {g:Mx}
theorem Mem.grid(M:Mem At b u w s L)(hb:Below w.heap.size w w')(h:GridX w' A n cap gs rcs g)(hf: ∀ y,gblk A n gs y→w.heap.size≤y∧y<w'.heap.size):Mem At b u w' s (grd A n cap gs rcs g::L):=
 M.push hb grd_firm (fun z hz=>hf z hz) (fun G _=>h)
theorem Mem.grid_{i:Nat}(M:Mem At b u w s L)(hi:L[i]?=some (grd A n cap gs rcs g)):GridX w A n cap gs rcs g:=M.say _ (Mem.of_get hi)
theorem Mem.grow{i r:Nat}(M:Mem At b u w s L)(hi:L[i]?=some (grd A n cap gs rcs g))(hr:r<n):w.cell? ⟨A,r,none⟩=some (.slice (some ⟨gs r,0,none⟩) n (rcs r)):=((M.grid_ hi).row r hr).1
theorem Mem.gval{i r c:Nat}(M:Mem At b u w s L)(hi:L[i]?=some (grd A n cap gs rcs g))(hr:r<n)(hc:c<n):w.cell? ⟨gs r,c,none⟩=some (.int .i64 (g r c)):=(M.grid_ hi).val hr hc
theorem Mem.gput{i r c:Nat}(M:Mem At b u w s L)(hi:L[i]?=some (grd A n cap gs rcs g))(hr:r<n)(hc:c<n)(v:Int):Mem At b u (w.setCell ⟨gs r,c,none⟩ (.int .i64 v)) s (L.set i (grd A n cap gs rcs (setB g r c v))):=by
 have G:=M.grid_ hi
 have hmem:gblk A n gs (gs r):=⟨by omega,.inr ⟨r,hr,rfl⟩⟩
 have hlow:=M.low _ (Mem.of_get hi) (gs r) hmem
 have hbl:=M.lt
 have hrest: ∀ k,k≠gs r→(w.setCell ⟨gs r,c,none⟩ (.int .i64 v)).heap[k]?=w.heap[k]?:=fun k hk=>Below.heap_setCell _ _ _ _ hk
 refine M.setAt hi (M.stay s w _ (hrest b (by omega)) M.at_) (M.but.put hlow.1 hbl _) (by simp) (fun k _ _ hk=>hrest k (fun e=>hk (by rw[e];exact hmem))) grd_firm (fun z hz=>?_) (fun z hz=> .inr hz) (fun F _ _=>(G.store hr hc v))
 have:=M.low _ (Mem.of_get hi) z hz
 exact⟨this.1,by simpa using this.2⟩
end
section
variable {P:Program} {dst:Option Tmp} {oty:TypeId} {pos:String} {after:Array Edge} {gu:Option (Nat×Bool)} {l l' :List Value} {ds:List Deferred} {Q:Exit→Act→World→Prop} {K:Act→World→Prop}
variable {At:PS→World→Prop} {b:Nat} {u w:World} {s:PS} {L:List Ent} {ty A n cap i j:Nat} {gs rcs:Nat→Nat} {g:Mx} {y:Operand}
theorem q_gput{r c:Nat}{v:Int}(M:Mem At b u w s L)(hi:L[i]?=some (grd A n cap gs rcs g))(hr:r<n)(hc:c<n)[hx:Nth l j (.pointer (some ⟨gs r,c,none⟩))][hy:EvI l y (.int .i64 v)][hT:OneI P ty][hd:PutI l dst undef l'](h: ∀ w',Mem At b u w' s (L.set i (grd A n cap gs rcs (setB g r c v)))→K ⟨l'.toArray,ds⟩ w'):OWP P ⟨dst,.store ty (.tmp j) y,oty,pos,after,gu⟩ ⟨l.toArray,ds⟩ w K Q:=by
 have G:=M.grid_ hi
 have hrun:=run_store_one (b:=gs r) (p:=c) (v:=Value.int .i64 v) hT.one (by rw[G.val hr hc];rfl) (G.frz hr c) rfl
 refine owp_of ?_
 unfold Oper.wp execOp
 simp only[eval_tmp hx.nth,hy.ev,Instr.storeAt,Instr.sureAddr,Sem.run_bind,Sem.run_pure,Result.andThen_ok,hrun]
 have:=h _ (M.gput hi hr hc v)
 simp only[Oper.upon]
 rw[hd.put]
 exact this
end
section
variable {At:PS→World→Prop} {b g:Nat} {u w w' :World} {s s' :PS} {L L' :List Ent}
theorem Mem.graft(M:Mem At b u w s L)(M' :Mem (StaysB g w) g w w' s' L'):Mem At b u w' s (L' ++L):=by
 have M1:=M.below M'.new
 have hsz:=M.size
 have hin: ∀ e∈L,∀ k,e.blk k→k<w.heap.size:=fun e he k hk=>(M.low e he k hk).2
 have hout: ∀ e∈L',∀ k,e.blk k→w.heap.size≤k∧k<w'.heap.size:=fun e he k hk=>M'.low e he k hk
 have hfree: ∀ k,free_ w w' L' k→free_ u w' (L' ++L) k:=fun k hk=>⟨Nat.le_trans hsz hk.1,hk.2.1,fun e he hek=>by
  rcases List.mem_append.1 he with h|h
  ·exact hk.2.2 e h hek
  ·have:=hin e h k hek;have:=hk.1;omega⟩
 have hfree2: ∀ k,k<w.heap.size→free_ u w L k→free_ u w' (L' ++L) k:=fun k hkl hk=>⟨hk.1,Nat.lt_of_lt_of_le hk.2.1 M'.new.size,fun e he hek=>by
  rcases List.mem_append.1 he with h|h
  ·have:=(hout e h k hek).1;omega
  ·exact hk.2.2 e h hek⟩
 refine⟨M1.at_,M1.stay,M1.but,M1.lt,fun e he=>?_,fun e he=>?_,fun e he z hz=>?_,?_⟩
 ·rcases List.mem_append.1 he with h|h
  ·exact M'.firm e h _ _ w' w' (Nat.le_refl _) (fun k _ hk=>⟨hfree k hk,rfl⟩) (fun z _ _=>rfl) (fun z hz=>(hout e h z hz).2) (M'.say e h)
  ·exact M.firm e h _ _ w w' M'.new.size (fun k hkl hk=>⟨hfree2 k hkl hk,M'.new.block k hkl⟩) (fun z hz hlt=>M'.new.block z hlt) (fun z hz=>hin e h z hz) (M.say e h)
 ·rcases List.mem_append.1 he with h|h
  ·exact M'.firm e h
  ·exact M.firm e h
 ·rcases List.mem_append.1 he with h|h
  ·exact⟨Nat.le_trans hsz (hout e h z hz).1,(hout e h z hz).2⟩
  ·exact M1.low e h z hz
 ·refine List.pairwise_append.2 ⟨M'.apart,M.apart,fun e he f hf z hz hfz=>?_⟩
  have h1:=(hout e he z hz).1
  have h2:=hin f hf z hfz
  omega
end
@[irreducible] def QSP (P:Program) (o:Oper) (a:Act) (C:World→Prop) (K:Act→Prop):Prop:=o.quiet P a C K
theorem qsp_eq{P:Program}{o:Oper}{a:Act}{C:World→Prop}{K:Act→Prop}:QSP P o a C K=o.quiet P a C K:=by unfold QSP;rfl
theorem qsp_of{P:Program}{o:Oper}{a:Act}{C:World→Prop}{K:Act→Prop}(h:o.quiet P a C K):QSP P o a C K:=qsp_eq▸h
theorem qsp_out{P:Program}{o:Oper}{a:Act}{C:World→Prop}{K:Act→Prop}(h:QSP P o a C K):o.quiet P a C K:=qsp_eq▸h
section
variable {P:Program} {ops:Array Oper} {opsl rest:List Oper} {o:Oper} {a:Act} {C:World→Prop} {Q:Act→Prop} {K:Act→Prop} {dst:Option Tmp} {op:Op} {oty:TypeId} {pos:String} {after:Array Edge} {g:Option (Nat×Bool)} {gi:Nat} {want:Bool} {t:Tmp} {l l' :List Value} {ds:List Deferred}
theorem c_load{d:Nat}{ty:TypeId}{x:Operand}{x0:Value}[h0:Nth l d x0](hi: ∃ w,C w)(h: ∀ w,C w→OWP P ⟨some d,.load ty x,oty,pos,after,g⟩ ⟨l.toArray,ds⟩ w (fun a' w' =>w' =w∧a' =⟨l'.toArray,ds⟩) (fun _ _ _=>False))(hk:K ⟨l'.toArray,ds⟩):QSP P ⟨some d,.load ty x,oty,pos,after,g⟩ ⟨l.toArray,ds⟩ C K:=by
 have hl:d<l.length:=(List.getElem?_eq_some_iff.1 h0.nth).1
 have key: ∀ w,C w→ ∃ y,(Instr.loadAt ty (Act.eval ⟨l.toArray,ds⟩ x)).run P w= .ok y w∧l' =l.set d y:=fun w hw=>by
  have h2:=owp_out (h w hw)
  unfold Oper.wp execOp at h2
  simp only[Sem.run_bind]at h2
  cases hr:(Instr.loadAt ty (Act.eval ⟨l.toArray,ds⟩ x)).run P w with
  |ok y w' =>
   rw[hr]at h2
   simp only[Result.andThen_ok,Sem.run_pure]at h2
   obtain⟨e1,e2⟩:=h2
   refine⟨y,by rw[e1],?_⟩
   simp only[Act.put,Act.mk.injEq,and_true]at e2
   have e3:=congrArg Array.toList e2
   simpa using e3.symm
  |halt e w' =>
   rw[hr]at h2
   revert h2
   cases e<;>(intro h2;exact absurd h2 (by simp[Result.andThen,Oper.upon]))
 obtain⟨w0,hw0⟩:=hi
 obtain⟨y0, -,e0⟩:=key w0 hw0
 refine qsp_of ⟨y0,fun w hw=>?_,by rw[put_set,←e0];exact hk⟩
 obtain⟨y,hr,e⟩:=key w hw
 unfold Oper.quietAt execOp
 simp only[Sem.run_bind,hr,Result.andThen_ok,Sem.run_pure]
 refine⟨rfl,?_⟩
 have e3:=congrArg (fun x:List Value=>x[d]?) (e.symm.trans e0)
 simpa[hl]using e3
end
section
variable {P:Program} {At:PS→World→Prop} {b:Nat} {u w:World} {s:PS} {L:List Ent}
end
def LinesAt(w0:World)(ao:Option Addr)(n cap:Nat)(g:Mx):Prop:=
 ∀ i,i<n→ ∃ A off ra rc,(∀ wx,(Instr.indexAt 78 (.slice ao n cap) (.int .i64 i)).run Tryz.prog wx= .ok (.pointer (some ⟨A,off+i,none⟩)) wx)∧
  (∀ wx,Below w0.heap.size w0 wx→wx.cell? ⟨A,off+i,none⟩=some (.slice ra n rc))∧ ∀ j,j<n→ ∃ B o,(∀ wx,(Instr.indexAt 26 (.slice ra n rc) (.int .i64 j)).run Tryz.prog wx= .ok (.pointer (some ⟨B,o+j,none⟩)) wx)∧
   ∀ wx,Below w0.heap.size w0 wx→wx.cell? ⟨B,o+j,none⟩=some (.int .i64 (g i j))
theorem LinesAt.below{w0 w1:World}{ao:Option Addr}{n cap:Nat}{g:Mx}(h:LinesAt w0 ao n cap g)(hb:Below w0.heap.size w0 w1):LinesAt w1 ao n cap g:=fun i hi=>by
 obtain⟨A,off,ra,rc,h1,h2,h3⟩:=h i hi
 refine⟨A,off,ra,rc,h1,fun wx hx=>h2 wx (hb.trans (hx.mono hb.size)),fun j hj=>?_⟩
 obtain⟨B,o,h4,h5⟩:=h3 j hj
 exact⟨B,o,h4,fun wx hx=>h5 wx (hb.trans (hx.mono hb.size))⟩
theorem pstart_any(n:Nat)(hn:n≤1000)(w:World):Calls Tryz.prog 77 #[.int .i64 n] w fun e w' =>e= .returned (.int .i64 ((2*n:Nat):Int))∧Below w.heap.size w w' :=by
 go_enter Tryz.func77,Tryz.ntmps77
 go_wp2
 go_ret
 exact⟨rfl,Below.refl _ _⟩
theorem pend_any(n:Nat)(hn:n≤1000)(w:World):Calls Tryz.prog 26 #[.int .i64 n] w fun e w' =>e= .returned (.int .i64 ((2*n+1:Nat):Int))∧Below w.heap.size w w' :=by
 go_enter Tryz.func26,Tryz.ntmps26
 go_wp2
 go_ret
 exact⟨rfl,Below.refl _ _⟩
theorem later_any(b n:Int)(hb: -4611686018427387904≤b∧b≤NOB)(hn:0≤n∧n≤NOB)(w:World):Calls Tryz.prog 24 #[.int .i64 b,.int .i64 n] w fun e w' =>e= .returned (.int .i64 (plusF b n))∧Below w.heap.size w w' :=by
 unfold NOB at hb hn
 unfold plusF NOB
 by_cases h:b=1152921504606846976
 ·subst h
  go_enter Tryz.func24,Tryz.ntmps24
  go_wp2
  go_ret
  exact⟨rfl,Below.refl _ _⟩
 ·rw[if_neg h]
  have hq:(b==1152921504606846976)=false:=by simpa using h
  go_enter Tryz.func24,Tryz.ntmps24
  go_wp2
  all_goals(go_ret;exact⟨ret_int (by omega),Below.refl _ _⟩)
theorem rplus_any(b n:Int)(hb: -4611686018427387904≤b∧b≤NOB)(hn:0≤n∧n≤NOB)(w:World):Calls Tryz.prog 33 #[.int .i64 b,.int .i64 n] w fun e w' =>e= .returned (.int .i64 (plusF b n))∧Below w.heap.size w w' :=by
 unfold NOB at hb hn
 unfold plusF NOB
 by_cases h:b=1152921504606846976
 ·subst h
  go_enter Tryz.func33,Tryz.ntmps33
  go_wp2
  go_ret
  exact⟨rfl,Below.refl _ _⟩
 ·rw[if_neg h]
  have hq:(b==1152921504606846976)=false:=by simpa using h
  by_cases h0:b+n<0
  ·go_enter Tryz.func33,Tryz.ntmps33
   go_wp2
   go_ret
   exact⟨ret_int (by omega),Below.refl _ _⟩
  ·go_enter Tryz.func33,Tryz.ntmps33
   go_wp2
   go_ret
   exact⟨ret_int (by omega),Below.refl _ _⟩
end Go.Proofs.YtncmghnhfipklaaGreatDoor
