/-
  The walk of the reference's tightened: a matrix of the call's own is tightened in rounds.
-/
import Derived.Test.YtncmghnhfipklaaGreatDoorPu02
import Derived.Test.YtncmghnhfipklaaGreatDoorPu04
import Derived.Test.YtncmghnhfipklaaGreatDoorPu06
namespace Go.Proofs.YtncmghnhfipklaaGreatDoor
open Go.RowKit
set_option linter.unusedVariables false
set_option linter.unusedSimpArgs false
def TightPost(n:Nat)(T:Option Mx)(w:World)(x:Ending)(w' :World):Prop:=
 (T=none∧x= .returned (.tuple #[.slice none 0 0,.bool false])∧Below w.heap.size w w')∨
 (∃ d ao cap gs,T=some d∧x= .returned (.tuple #[.slice ao n cap,.bool true])∧Below w.heap.size w w' ∧Grid (from_ w.heap.size) w' ao n cap gs d)
theorem negB_yes{n:Nat}{d:Mx}{i:Nat}(hi:i<n)(h:d i i<0):negB n d=true:=by
 unfold negB
 rw[List.any_eq_true]
 exact⟨i,List.mem_range.2 hi,by simpa using h⟩
theorem negB_no{n:Nat}{d:Mx}(h: ∀ i,i<n→0≤d i i):negB n d=false:=by
 unfold negB
 rw[List.any_eq_false]
 intro i hi
 have:=h i (List.mem_range.1 hi)
 simp;omega
set_option maxHeartbeats 8000000 in
set_option maxRecDepth 100000 in
theorem tightened_any(F:Nat→Prop)(ao:Option Addr)(n cap:Nat)(m:List (List Int))(w:World)(hM:SlF F w 1 lineF ao n cap m)(h12:n≤12)(hsq: ∀ i,i<m.length→(m.getD i []).length=m.length):
  Calls Tryz.prog 61 #[.slice ao n cap] w (TightPost n (tight n (n+1) (at2 m)) w):=by
 have HC:=Lib.hid (matGrid_any F ao n cap m w hM h12 hsq)
 generalize hT:tight n (n+1) (at2 m)=T
 have HT:=Lib.hid hT
 clear hT hM hsq
 generalize at2 m=g at HC HT
 go_enter Tryz.func61,Tryz.ntmps61
 go_wp2_with fail
 refine HC.out.mono ?_
 rintro e w1 ⟨ao1,cap1,gs,rfl,hb1,hG1⟩
 have hle:=hG1.le
 have hmax:=hG1.max
 unfold maxLen at hmax
 have HG:=Lib.hid hG1
 clear HC hG1
 go_wp2_with fail
 go_loopw [5,6,7,8,9,10] (fun ch r u7 u8 u9 u10 wr=> ∃ (q:Nat) (c:Bool) (d:Mx),q≤n+1∧r= .int .i64 q∧ch= .bool c∧Below w.heap.size w wr∧Hid (Grid (from_ w.heap.size) wr ao1 n cap1 gs d)∧Hid ((if c=true then tight n (n+1 - q) d else some d)=T)) (fun _ r _ _ _ _ _=>n+1 - (intOf r).toNat)
 case atStart=>exact⟨0,true,g,by omega,rfl,rfl,hb1,HG,HT⟩
 case round=>
  obtain⟨q,c,d,hq,rfl,rfl,hbr,GR,TT⟩:=hrel
  clear HG hb1
  cases c with
  |false=>
   have E:Hid (some d=T):=by have:=TT.out;show _=_;simpa using this
   by_cases hqn:q≤n
   ·have hq1:(q:Int)≤n:=by omega
    go_wp2
    go_ret2
    exact Or.inr ⟨d,ao1,cap1,gs,E.out.symm,rfl,hbr,GR.out⟩
   ·have hq1: ¬ (q:Int)≤n:=by omega
    go_wp2
    go_ret2
    exact Or.inr ⟨d,ao1,cap1,gs,E.out.symm,rfl,hbr,GR.out⟩
  |true=>
   by_cases hqn:q≤n
   ·have hq1:(q:Int)≤n:=by omega
    have T1:Hid ((if negB n (passT n d).1=true then none else if(passT n d).2=true then tight n (n - q) (passT n d).1 else some (passT n d).1)=T):=by
     have h:=TT.out
     rw[if_pos rfl,show n+1 - q=(n - q)+1 by omega]at h
     exact h
    clear TT
    go_wp2_with fail
    go_loopw [5,7,8,9] (fun ch i u8 u9 wr=> ∃ (p:Nat) (s:Mx×Bool),p≤n∧i= .int .i64 p∧ch= .bool s.2∧Below w.heap.size w wr∧Hid (Grid (from_ w.heap.size) wr ao1 n cap1 gs s.1)∧Hid (s=(List.range p).foldl (rowT n) (d,false))) (fun _ i _ _ _=>n - (intOf i).toNat)
    case atStart=>exact⟨0,(d,false),by omega,rfl,rfl,hbr,GR,rfl⟩
    case round=>
     obtain⟨i,si,hi,rfl,rfl,hbi,GI,SI⟩:=hrel
     clear GR hbr
     by_cases hin:i<n
     ·have hi1:(i:Int)<n:=by omega
      go_wp2_with fail
      go_loopw [5,8,9] (fun ch k u9 wr=> ∃ (p:Nat) (s:Mx×Bool),p≤n∧k= .int .i64 p∧ch= .bool s.2∧Below w.heap.size w wr∧Hid (Grid (from_ w.heap.size) wr ao1 n cap1 gs s.1)∧Hid (s=(List.range p).foldl (stepT n i) si)) (fun _ k _ _=>n - (intOf k).toNat)
      case atStart=>exact⟨0,si,by omega,rfl,rfl,hbi,GI,rfl⟩
      case round=>
       obtain⟨k,sk,hk,rfl,rfl,hbk,GK,SK⟩:=hrel
       clear GI hbi
       by_cases hkn:k<n
       ·have hk1:(k:Int)<n:=by omega
        go_wp2_with fail
        go_loopw [5,9] (fun ch j wr=> ∃ (p:Nat) (s:Mx×Bool),p≤n∧j= .int .i64 p∧ch= .bool s.2∧Below w.heap.size w wr∧Hid (Grid (from_ w.heap.size) wr ao1 n cap1 gs s.1)∧Hid (s=(List.range p).foldl (cellT k i) sk)) (fun _ j _=>n - (intOf j).toNat)
        case atStart=>exact⟨0,sk,by omega,rfl,rfl,hbk,GK,rfl⟩
        case round=>
         obtain⟨j,sj,hj,rfl,rfl,hbj,GJ,SJ⟩:=hrel
         clear GK hbk
         obtain⟨dj,cj⟩:=sj
         simp only at GJ
         by_cases hjn:j<n
         ·have hj1:(j:Int)<n:=by omega
          obtain⟨Ai,rci,hAlt,hglt,hF,hne,h1,h2,hix,hcell,hent⟩:=GJ.out.at hin
          obtain⟨Ak,rck,hAlt',hglt',hF',hne',h1',h2',hix',hcell',hent'⟩:=GJ.out.at hkn
          obtain⟨e1,e2,e3⟩:=hent j hjn
          obtain⟨e4,e5,e6⟩:=hent k hkn
          obtain⟨e7,e8,e9⟩:=hent' j hjn
          clear hent hent'
          by_cases hx:dj i k=NOB
          ·have SN:Hid ((dj,cj)=(List.range (j+1)).foldl (cellT k i) sk):=by
            show _=_
            rw[fold_more,←SJ.out]
            unfold cellT
            rw[if_pos (Or.inl hx)]
           have hx1:(dj i k==1152921504606846976)=true:=by rw[hx];rfl
           clear hx
           go_wp2
           go_roundw
           case rel=>exact⟨j+1,(dj,cj),by omega,by go_num,rfl,hbj,GJ,SN⟩
           case measure=>simp[intOf];omega
          ·have hx1:(dj i k==1152921504606846976)=false:=by unfold NOB at hx;simpa using hx
           by_cases hy:dj k j=NOB
           ·have SN:Hid ((dj,cj)=(List.range (j+1)).foldl (cellT k i) sk):=by
             show _=_
             rw[fold_more,←SJ.out]
             unfold cellT
             rw[if_pos (Or.inr hy)]
            have hy1:(dj k j==1152921504606846976)=true:=by rw[hy];rfl
            clear hx hy
            go_wp2
            go_roundw
            case rel=>exact⟨j+1,(dj,cj),by omega,by go_num,rfl,hbj,GJ,SN⟩
            case measure=>simp[intOf];omega
           ·have hy1:(dj k j==1152921504606846976)=false:=by unfold NOB at hy;simpa using hy
            have hxy: ¬ (dj i k=NOB∨dj k j=NOB):=by intro h;rcases h with h|h;exact hx h;exact hy h
            have XY:=Lib.hid hxy
            clear hx hy hxy
            by_cases hl:wrap64 (dj i k+dj k j)<dj i j
            ·have SN:Hid ((setB dj i j (wrap64 (dj i k+dj k j)),true)=(List.range (j+1)).foldl (cellT k i) sk):=by
              show _=_
              rw[fold_more,←SJ.out]
              unfold cellT
              rw[if_neg XY.out,if_pos hl]
             go_wp2_with fail
             go_quiet (fail)
             go_upto_region 18 with fail
             have hbq:Below w.heap.size w (wr.drewN nq):=hbj.trans ((Joins.below_draws _ _ _).mono hbj.size)
             have GQ:=Lib.hid (GJ.out.below (Joins.below_draws wr.heap.size wr nq))
             generalize wr.drewN nq=wq at *
             clear hAlt hglt hF hne h1 h2 hix hcell hAlt' hglt' hF' hne' h1' h2' hix' hcell' e1 e2 e3 e4 e5 e6 e7 e8 e9
             obtain⟨Ai,rci,hAlt,hglt,hF,hne,h1,h2,hix,hcell,hent⟩:=GQ.out.at hin
             obtain⟨Ak,rck,hAlt',hglt',hF',hne',h1',h2',hix',hcell',hent'⟩:=GQ.out.at hkn
             obtain⟨e1,e2,e3⟩:=hent j hjn
             obtain⟨e4,e5,e6⟩:=hent k hkn
             obtain⟨e7,e8,e9⟩:=hent' j hjn
             clear hent hent'
             have GS:Hid (Grid (from_ w.heap.size) (wq.setCell ⟨gs i,j,none⟩ (.int .i64 (wrap64 (dj i k+dj k j)))).drew ao1 n cap1 gs (setB dj i j (wrap64 (dj i k+dj k j)))):=(GQ.out.store hin hjn _).same Same.drew
             have hbS:Below w.heap.size w (wq.setCell ⟨gs i,j,none⟩ (.int .i64 (wrap64 (dj i k+dj k j)))).drew:=(hbq.setCell (p:=⟨gs i,j,none⟩) hF _).drew
             go_wp2_with fail
             go_still_tail 21,(by kernel_rfl)
             repeat still_step
             change wpList _ _ _ _ _ wq.drew
             go_wp2
             go_roundw
             case rel=>exact⟨j+1,(setB dj i j (wrap64 (dj i k+dj k j)),true),by omega,by go_num,rfl,hbS,GS,SN⟩
             case measure=>simp[intOf];omega
            ·have SN:Hid ((dj,cj)=(List.range (j+1)).foldl (cellT k i) sk):=by
              show _=_
              rw[fold_more,←SJ.out]
              unfold cellT
              rw[if_neg XY.out,if_neg hl]
             go_wp2_with fail
             go_quiet (fail)
             go_wp2
             go_roundw
             case rel=>exact⟨j+1,(dj,cj),by omega,by go_num,rfl,hbj.trans ((Joins.below_draws _ _ _).mono hbj.size),GJ.out.below (Joins.below_draws _ _ _),SN⟩
             case measure=>simp[intOf];omega
         ·obtain rfl:j=n:=by omega
          have SN:Hid ((dj,cj)=(List.range (k+1)).foldl (stepT j i) si):=by
           show _=_
           rw[fold_more,←SK.out,SJ.out]
           rfl
          go_wp2
          go_roundw
          case rel=>exact⟨k+1,(dj,cj),by omega,by go_num,rfl,hbj,GJ,SN⟩
          case measure=>simp[intOf];omega
       ·obtain rfl:k=n:=by omega
        have SN:Hid (sk=(List.range (i+1)).foldl (rowT k) (d,false)):=by
         show _=_
         rw[fold_more,←SI.out,SK.out]
         rfl
        go_wp2
        go_roundw
        case rel=>exact⟨i+1,sk,by omega,by go_num,rfl,hbk,GK,SN⟩
        case measure=>simp[intOf];omega
     ·obtain rfl:i=n:=by omega
      have SP:Hid (passT i d=si):=SI.out.symm
      rw[SP.out]at T1
      obtain⟨d1,c1⟩:=si
      simp only at T1 GI
      obtain⟨wz,hwz⟩: ∃ wz:World,wz=wr:=⟨_,rfl⟩
      have WZ:=Lib.hid hwz
      clear hwz SI SP
      go_wp2_with fail
      go_loopw [10] (fun x wr=> ∃ p:Nat,p≤i∧x= .int .i64 p∧wr=wz∧Hid (∀ y,y<p→0≤d1 y y)) (fun x _=>i - (intOf x).toNat)
      case atStart=>exact⟨0,by omega,rfl,WZ.out.symm,fun x hx=>absurd hx (Nat.not_lt_zero x)⟩
      case round=>
       obtain⟨p,hp,rfl,rfl,HA⟩:=hrel
       rw[←WZ.out]at hbi GI
       by_cases hpn:p<i
       ·have hp1:(p:Int)<i:=by omega
        obtain⟨Ai,rci,hAlt,hglt,hF,hne,h1,h2,hix,hcell,hent⟩:=GI.out.at hpn
        obtain⟨e1,e2,e3⟩:=hent p hpn
        clear hent
        by_cases hneg:d1 p p<0
        ·have E:Hid (none=T):=by have:=T1.out;rw[if_pos (negB_yes hpn hneg)]at this;exact this
         go_wp2
         go_ret2
         exact Or.inl ⟨E.out.symm,rfl,hbi⟩
        ·go_wp2
         go_roundw
         case rel=>exact⟨p+1,by omega,by go_num,by first|rfl|trivial,fun x hx=>by
          by_cases e:x=p
          ·rw[e];omega
          ·exact HA.out x (by omega)⟩
         case measure=>simp[intOf];omega
       ·have hp1: ¬ (p:Int)<i:=by omega
        have E:Hid ((if c1=true then tight i (i+1 - (q+1)) d1 else some d1)=T):=by
         have:=T1.out
         rw[negB_no (fun y hy=>HA.out y (by omega)),if_neg (by decide),show i - q=i+1 - (q+1)by omega]at this
         exact this
        go_wp2
        go_roundw
        case rel=>exact⟨q+1,c1,d1,by omega,by go_num,rfl,hbi,GI,E⟩
        case measure=>simp[intOf];omega
   ·have hq1: ¬ (q:Int)≤n:=by omega
    have E:Hid (some d=T):=by have:=TT.out;show _=_;rw[if_pos rfl,show n+1 - q=0 by omega]at this;exact this
    go_wp2
    go_ret2
    exact Or.inr ⟨d,ao1,cap1,gs,E.out.symm,rfl,hbr,GR.out⟩
end Go.Proofs.YtncmghnhfipklaaGreatDoor
/-
  An option's bounds in plain Lean: tightened in rounds, with the points of the two spans exchanged or not, they are the ones that are closed in place.
-/
namespace Go.Proofs.YtncmghnhfipklaaGreatDoor
open Go.RowKit
set_option linter.unusedVariables false
set_option linter.unusedSimpArgs false
def sgR(r:Int)(a:Nat):Nat:=if backR r=true then sw a else a
theorem Turned.less{σ:Nat→Nat}{g g' :Mx}(h:Turned 4 σ g g'){x y:Nat}(hx:x<4)(hy:y<4)(n:Int):Turned 4 σ (lessG g x y n) (lessG g' (σ x) (σ y) n):=by
 refine⟨h.lt,h.twice,fun a b ha hb=>?_⟩
 unfold lessG setB
 have e:(σ a=σ x∧σ b=σ y)↔(a=x∧b=y):=by
  constructor
  ·rintro⟨e1,e2⟩
   exact⟨by rw[←h.twice a ha,e1,h.twice x hx],by rw[←h.twice b hb,e2,h.twice y hy]⟩
  ·rintro⟨rfl,rfl⟩;exact⟨rfl,rfl⟩
 simp only[e,h.same x y hx hy,h.same a b ha hb]
theorem Turned.far{σ:Nat→Nat}{g g' :Mx}(h:Turned 4 σ g g'){x y:Nat}(hx:x<4)(hy:y<4)(lo hi:Int):Turned 4 σ (farG g x y lo hi) (farG g' (σ x) (σ y) lo hi):=by
 unfold farG
 have hl:=h.less hx hy lo
 split
 ·refine⟨h.lt,h.twice,fun a b ha hb=>?_⟩
  unfold setB
  have e:(σ a=σ y∧σ b=σ x)↔(a=y∧b=x):=by
   constructor
   ·rintro⟨e1,e2⟩
    exact⟨by rw[←h.twice a ha,e1,h.twice y hy],by rw[←h.twice b hb,e2,h.twice x hx]⟩
   ·rintro⟨rfl,rfl⟩;exact⟨rfl,rfl⟩
  simp only[e,hl.same y x hy hx,hl.same a b ha hb]
 ·exact hl
theorem turned_free:Turned 4 sw freeG freeG:=⟨fun a _=>sw_lt a,fun a ha=>sw_sw ha,fun a b ha hb=>by
 unfold freeG
 have:sw a=sw b↔a=b:=⟨fun e=>by rw[←sw_sw ha,e,sw_sw hb],fun e=>by rw[e]⟩
 simp only[this]⟩
theorem straight_free:Turned 4 id freeG freeG:=⟨fun a h=>h,fun a ha=>rfl,fun a b ha hb=>rfl⟩
theorem Turned.grid{σ:Nat→Nat}{g g' :Mx}(h:Turned 4 σ g g'):Turned 4 σ g (at2 (gridL 4 g')):=⟨h.lt,h.twice,fun a b ha hb=>by
 rw[←h.same a b ha hb]
 have h1:=h.lt a ha
 have h2:=h.lt b hb
 simp[at2,gridL,List.getD,List.getElem?_eq_getElem,h1,h2]⟩
def Okay(g:Mx):Prop:=RB 4 0 g∧ ∀ x,x<4→g x x=0
theorem okay_free:Okay freeG:=⟨fun a b _ _=>by unfold freeG;split;(right;omega);(left;rfl),fun x _=>by unfold freeG;rw[if_pos rfl]⟩
theorem Okay.set{g:Mx}(h:Okay g){x y:Nat}(hxy:x≠y){v:Int}(hv: -2147483648≤v∧v≤2147483648)(hx:x<4)(hy:y<4):Okay (setB g x y (min (g x y) v)):=by
 refine⟨fun a b ha hb=>?_,fun a ha=>?_⟩
 ·unfold setB
  split
  ·right
   rcases h.1 x y hx hy with e|e
   ·rw[e]
    have:min NOB v=v:=Int.min_eq_right (by unfold NOB;omega)
    rw[this];omega
   ·rcases Int.le_total (g x y) v with h' |h'
    ·rw[Int.min_eq_left h'];exact e
    ·rw[Int.min_eq_right h'];omega
  ·exact h.1 a b ha hb
 ·unfold setB
  rw[if_neg (fun e=>hxy (by rw[←e.1,←e.2]))]
  exact h.2 a ha
theorem Okay.less{g:Mx}(h:Okay g){x y:Nat}(hxy:x≠y){n:Int}(hv:0≤n∧n≤1073741824)(hx:x<4)(hy:y<4):Okay (lessG g x y n):=h.set hxy (by omega) hx hy
theorem Okay.far{g:Mx}(h:Okay g){x y:Nat}(hxy:x≠y){lo hi:Int}(hl:0≤lo∧lo≤1073741824)(hh: -1≤hi∧hi≤1073741824)(hx:x<4)(hy:y<4):Okay (farG g x y lo hi):=by
 unfold farG
 split
 ·exact(h.less hxy hl hx hy).set (Ne.symm hxy) (by omega) hy hx
 ·exact h.less hxy hl hx hy
theorem Okay.same{g:Mx}(h:Okay g){x y:Nat}(hxy:x≠y)(hx:x<4)(hy:y<4):Okay (sameG g x y):=(h.less hxy (by omega) hx hy).less (Ne.symm hxy) (by omega) hy hx
theorem okay_shape(r:Int):Okay (shapeG baseG r):=by
 have hb:Okay baseG:=(okay_free.less (by decide) (by omega) (by omega) (by omega)).less (by decide) (by omega) (by omega) (by omega)
 unfold shapeG
 split
 ·exact hb.less (by decide) (by omega) (by omega) (by omega)
 split
 ·exact((hb.same (by decide) (by omega) (by omega)).less (by decide) (by omega) (by omega) (by omega)).less (by decide) (by omega) (by omega) (by omega)
 split
 ·exact((hb.less (by decide) (by omega) (by omega) (by omega)).less (by decide) (by omega) (by omega) (by omega)).less (by decide) (by omega) (by omega) (by omega)
 split
 ·exact(hb.same (by decide) (by omega) (by omega)).less (by decide) (by omega) (by omega) (by omega)
 split
 ·exact(hb.less (by decide) (by omega) (by omega) (by omega)).less (by decide) (by omega) (by omega) (by omega)
 split
 ·exact(hb.less (by decide) (by omega) (by omega) (by omega)).same (by decide) (by omega) (by omega)
 ·exact(hb.same (by decide) (by omega) (by omega)).same (by decide) (by omega) (by omega)
theorem shape_apart(r:Int):shapeX r≠shapeY r:=by
 unfold shapeX shapeY
 by_cases h1:r=1; · simp[h1]
 by_cases h3:r=3; · simp[h3]
 by_cases h5:r=5; · simp[h5]
 by_cases h7:r=7; · simp[h7]
 by_cases h9:r=9; · simp[h9]
 by_cases h11:r=11; · simp[h11]
 simp[h1,h3,h5,h7,h9,h11]
theorem okay_mid(r:Int){lo hi:Int}(hl:0≤lo∧lo≤1073741824)(hh: -1≤hi∧hi≤1073741824):Okay (midG r lo hi):=
 (okay_shape _).far (shape_apart _) hl hh (shapeX_lt _) (shapeY_lt _)
theorem Turned.okay{σ:Nat→Nat}{g g' :Mx}(h:Turned 4 σ g g')(ho:Okay g):Okay g' :=by
 refine⟨fun a b ha hb=>?_,fun x hx=>?_⟩
 ·have:=h.back.same a b ha hb
  rw[←this]
  exact ho.1 _ _ (h.lt a ha) (h.lt b hb)
 ·rw[←h.back.same x x hx hx]
  exact ho.2 _ (h.lt x hx)
theorem opt_tight{r lo hi:Int}{G:Mx}(hl:0≤lo∧lo≤1073741824)(hh: -1≤hi∧hi≤1073741824)(σ:Nat→Nat)(hσ: ∀ a,a<4→σ a=sgR r a)(hT:Turned 4 σ (midG r lo hi) G):
  (tight 4 5 (at2 (gridL 4 G))=none∧optL r lo hi=none)∨(∃ d,tight 4 5 (at2 (gridL 4 G))=some d∧optL r lo hi=some (gridL 4 d)):=by
 have hO:=okay_mid r hl hh
 have hT2:=hT.grid
 have hO2:=hT2.okay hO
 obtain⟨s1,s2⟩:=turned_same hT2 (by omega) hO.1 hO2.1 hO.2 hO2.2
 rcases close_same (n:=4) (by omega) hO2.1 hO2.2 with⟨c1,d,c2,c3⟩|⟨c1,c2⟩
 ·right
  refine⟨d,c2,?_⟩
  have hok:=s1.2 c1
  have key: ∀ a b,a<4→b<4→optG r lo hi a b=d a b:=fun a b ha hb=>by
   have:=s2 hok (σ a) (σ b) (hT.lt a ha) (hT.lt b hb)
   rw[hT.twice a ha,hT.twice b hb]at this
   rw[c3 a b ha hb,this]
   unfold optG
   rw[hσ a ha,hσ b hb]
   unfold sgR
   split<;>rfl
  unfold optL
  rw[if_pos (okb_iff.2 hok),gridL_congr key]
 ·left
  refine⟨c2,?_⟩
  unfold optL
  rw[if_neg fun e=>c1 (s1.1 (okb_iff.1 e))]
end Go.Proofs.YtncmghnhfipklaaGreatDoor
