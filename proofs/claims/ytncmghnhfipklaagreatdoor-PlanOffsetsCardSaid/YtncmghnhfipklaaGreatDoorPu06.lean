/-
  The walk of package bound's turned: a matrix of two spans with the spans' points exchanged.
-/
import Derived.Test.YtncmghnhfipklaaGreatDoorPu05
import Derived.Test.YtncmghnhfipklaaGreatDoorPu03
import Derived.Test.YtncmghnhfipklaaGreatDoorPu04
namespace Go.Proofs.YtncmghnhfipklaaGreatDoor
open Go.RowKit
set_option linter.unusedVariables false
set_option linter.unusedSimpArgs false
def sw(a:Nat):Nat:=(a+2) % 4
theorem sw_lt(a:Nat):sw a<4:=Nat.mod_lt _ (by decide)
theorem sw_sw{a:Nat}(h:a<4):sw (sw a)=a:=by unfold sw;omega
def turnS(g:Mx)(i j:Nat):Mx:=fun r c=>if sw r<i∨(sw r=i∧sw c<j)then g (sw r) (sw c)else freeG r c
theorem turnS_next(g:Mx){i j:Nat}(hi:i<4)(hj:j<4)(r c:Nat)(hr:r<4)(hc:c<4):put2 (turnS g i j) (sw i) (sw j) (g i j) r c=turnS g i (j+1) r c:=by
 unfold put2 turnS
 by_cases h:r=sw i∧c=sw j
 ·rw[if_pos h,h.1,h.2,sw_sw hi,sw_sw hj,if_pos (Or.inr ⟨rfl,by omega⟩)]
 ·rw[if_neg h]
  have:(sw r<i∨sw r=i∧sw c<j)↔(sw r<i∨sw r=i∧sw c<j+1):=by
   constructor
   ·rintro(h|h)
    ·exact Or.inl h
    ·exact Or.inr ⟨h.1,by omega⟩
   ·rintro(h' |h')
    ·exact Or.inl h'
    ·refine Or.inr ⟨h'.1,?_⟩
     have:sw c≠j:=fun e=>h ⟨by rw[←h'.1,sw_sw hr],by rw[←e,sw_sw hc]⟩
     omega
  simp only[this]
theorem turnS_row(g:Mx)(i r c:Nat)(hc:c<4):turnS g i 4 r c=turnS g (i+1) 0 r c:=by
 unfold turnS
 have h4:=sw_lt c
 have:(sw r<i∨sw r=i∧sw c<4)↔(sw r<i+1∨sw r=i+1∧sw c<0):=by omega
 simp only[this]
theorem turnS_zero(g:Mx)(r c:Nat):turnS g 0 0 r c=freeG r c:=by
 unfold turnS
 rw[if_neg (by omega)]
theorem turnS_all(g:Mx)(r c:Nat):turnS g 4 0 r c=g (sw r) (sw c):=by
 unfold turnS
 have:=sw_lt r
 rw[if_pos (by omega)]
theorem four_at(z i:Nat)(hi:i<4)(wx:World):(Instr.indexAt 137 (.pointer (some ⟨z,0,none⟩)) (.int .i64 i)).run Tryz.prog wx= .ok (.pointer (some ⟨z,i,none⟩)) wx:=by
 simp[Instr.indexAt,run_underlying Tryz.underlying137,asIntOf,size_int wx,Addr.add,Instr.sureAddr]
 rw[if_pos hi]
 by_cases e0:i=0
 ·rw[if_pos e0,e0]
 ·rw[if_neg e0]
def sws:List Value:=[.int .i64 2,.int .i64 3,.int .i64 0,.int .i64 1]
theorem sws_at{i:Nat}(hi:i<4):sws.toArray[i]?=some (.int .i64 (sw i)):=by
 match i,hi with
 |0,_|1,_|2,_|3,_=>rfl
set_option maxHeartbeats 2000000 in
set_option maxRecDepth 100000 in
theorem turned_any(B:Nat)(ao:Option Addr)(cap:Nat)(gs:Nat→Nat)(g:Mx)(w:World)(hB:B≤w.heap.size)(hG:Grid (from_ B) w ao 4 cap gs g):
  Calls Tryz.prog 108 #[.slice ao 4 cap] w fun e w' => ∃ ao' cap' gs',e= .returned (.slice ao' 4 cap')∧Below w.heap.size w w' ∧Grid (from_ w.heap.size) w' ao' 4 cap' gs' (fun r c=>g (sw r) (sw c)):=by
 have HG:=Lib.hid hG
 have hle:=hG.le
 have hmax:=hG.max
 unfold maxLen at hmax
 clear hG
 have KT:Hid (∀ w1:World,Below (w.heap.size+1) (w.alloc (.cells sws.toArray 137)) w1→ ∀ i,i<4→w1.cell? ⟨w.heap.size,i,none⟩=some (.int .i64 (sw i))):=fun w1 hb i hi=>by
  rw[hb.cell (p:=⟨w.heap.size,i,none⟩) (Nat.lt_succ_self _)]
  have:=sws_at hi
  simp only[World.cell?,World.alloc]
  simpa using this
 go_enter Tryz.func108,Tryz.ntmps108
 go_wp2_with fail
 refine(free_grid 4 (by omega) _).mono ?_
 rintro e w1 ⟨ao1,cap1,gs1,rfl,hb1,hG1⟩
 have hbw:Below w.heap.size w w1:=(Joins.below_alloc1 w _).trans (hb1.mono (by simp))
 simp only[World.size_alloc]at hb1 hG1
 have KC:=Lib.hid (KT.out w1 hb1)
 have hs1:w.heap.size+1≤w1.heap.size:=by have:=hb1.size;simpa using this
 clear KT hb1
 have hle1:=hG1.le
 have hmax1:=hG1.max
 unfold maxLen at hmax1
 have G1:Hid (Grid (from_ (w.heap.size+1)) w1 ao1 4 cap1 gs1 (turnS g 0 0)):=hG1.congr fun r c _ _=>(turnS_zero g r c).symm
 clear hG1
 go_wp2_with fail
 go_loopw [15] (fun k wr=> ∃ q:Nat,q≤4∧k= .int .i64 q∧Below (w.heap.size+1) w1 wr∧Hid (Grid (from_ (w.heap.size+1)) wr ao1 4 cap1 gs1 (turnS g q 0))) (fun k _=>4 - (intOf k).toNat)
 case atStart=>exact⟨0,by omega,rfl,Below.refl _ _,G1⟩
 case round=>
  obtain⟨i,hi,rfl,hbi,GI⟩:=hrel
  clear G1
  by_cases hin:i<4
  ·have hi1:(i:Int)<4:=by omega
   go_wp2_with fail
   go_loopw [20] (fun k wr=> ∃ q:Nat,q≤4∧k= .int .i64 q∧Below (w.heap.size+1) w1 wr∧Hid (Grid (from_ (w.heap.size+1)) wr ao1 4 cap1 gs1 (turnS g i q))) (fun k _=>4 - (intOf k).toNat)
   case atStart=>exact⟨0,by omega,rfl,hbi,GI⟩
   case round=>
    obtain⟨j,hj,rfl,hbj,GC⟩:=hrel
    clear GI hbi
    by_cases hjn:j<4
    ·have hj1:(j:Int)<4:=by omega
     have hbr:Below w.heap.size w wr:=hbw.trans (hbj.mono (by omega))
     obtain⟨Ai,rci,hAlt,hglt,hF,hne,h1,h2,hix,hcell,hent⟩:=(HG.out.below (hbr.mono (Nat.le_refl _))).at hin
     obtain⟨e1,e2,e3⟩:=hent j hjn
     obtain⟨Ak,rck,hAlt',hglt',hF',hne',h1',h2',hix',hcell',hent'⟩:=GC.out.at (sw_lt i)
     obtain⟨e4,e5,e6⟩:=hent' (sw j) (sw_lt j)
     have t1:=(hbj.cell (p:=⟨w.heap.size,i,none⟩) (Nat.lt_succ_self _)).trans (KC.out i hin)
     have t2:=(hbj.cell (p:=⟨w.heap.size,j,none⟩) (Nat.lt_succ_self _)).trans (KC.out j hjn)
     have t3:=four_at w.heap.size i hin
     have t4:=four_at w.heap.size j hjn
     have GS:Hid (Grid (from_ (w.heap.size+1)) (wr.setCell ⟨gs1 (sw i),sw j,none⟩ (.int .i64 (g i j))).drew ao1 4 cap1 gs1 (turnS g i (j+1))):=
      ((GC.out.store (sw_lt i) (sw_lt j) (g i j)).same Same.drew).congr fun r c hr hc=>turnS_next g hin hjn r c hr hc
     have hbS:Below (w.heap.size+1) w1 (wr.setCell ⟨gs1 (sw i),sw j,none⟩ (.int .i64 (g i j))).drew:=(hbj.setCell (p:=⟨gs1 (sw i),sw j,none⟩) hF' _).drew
     generalize hsi:sw i=si at *
     generalize hsj:sw j=sj at *
     have hsi4:si<4:=by rw[←hsi];exact sw_lt i
     have hsj4:sj<4:=by rw[←hsj];exact sw_lt j
     clear hent hent' hsi hsj
     go_wp2_with fail
     go_still_tail 17,(by kernel_rfl)
     change wpList _ _ _ _ _ wr.drew
     go_wp2
     go_roundw
     case rel=>exact⟨j+1,by omega,by go_num,hbS,GS⟩
     case measure=>simp[intOf];omega
    ·obtain rfl:j=4:=by omega
     have GN:Hid (Grid (from_ (w.heap.size+1)) wr ao1 4 cap1 gs1 (turnS g (i+1) 0)):=GC.out.congr fun r c _ hc=>turnS_row g i r c hc
     clear GC
     go_wp2
     go_roundw
     case rel=>exact⟨i+1,by omega,by go_num,hbj,GN⟩
     case measure=>simp[intOf];omega
  ·obtain rfl:i=4:=by omega
   have GZ:Hid (Grid (from_ w.heap.size) wr ao1 4 cap1 gs1 (fun r c=>g (sw r) (sw c))):=(GI.out.congr fun r c _ _=>turnS_all g r c).same (Same.wide fun b hb _=>Nat.le_of_succ_le hb)
   clear GI
   go_wp2
   go_ret
   exact⟨ao1,cap1,gs1,rfl,hbw.trans (hbi.mono (by omega)),GZ.out⟩
end Go.Proofs.YtncmghnhfipklaaGreatDoor
/-
  Two matrices merged, the greater bounds, as the options' loops use it: nothing comes as nil.
-/
namespace Go.Proofs.YtncmghnhfipklaaGreatDoor
open Go.RowKit
set_option linter.unusedVariables false
set_option linter.unusedSimpArgs false
theorem joinM_some{a b:List (List Int)}(h:pairE a b=0)(ha:a≠[]):joinM max a b≠[]:=by
 unfold joinM
 rw[if_pos h]
 intro e
 have:=congrArg List.length e
 simp[gridL]at this
 exact ha this
theorem either_more(F G:Nat→Prop)(ao:Option Addr)(n cap:Nat)(a:List (List Int))(bo:Option Addr)(m bcap:Nat)(b:List (List Int))(w:World)(hA:SlF F w 1 lineF ao n cap a)(hB:SlF G w 1 lineF bo m bcap b)(ha:a≠[]):
  Calls Tryz.prog 98 #[.slice ao n cap,.slice bo m bcap] w fun e w' => ∃ ao' n' cap',e= .returned (.tuple #[.slice ao' n' cap',.int .i64 (pairE a b)])∧Below w.heap.size w w' ∧SlF (from_ w.heap.size) w' 1 lineF ao' n' cap' (joinM max a b)∧(joinM max a b=[]→ao' =none):=by
 by_cases h:pairE a b=0
 ·exact(either_any F G ao n cap a bo m bcap b w hA hB).mono fun e w' ⟨ao',n',cap',h1,h2,h3⟩=>⟨ao',n',cap',h1,h2,h3,fun e=>absurd e (joinM_some h ha)⟩
 ·have HJ:=Lib.hid (join_bad F G ao n cap a bo m bcap b (.func (.func 110) #[] #[]) w hA hB h)
  have H:=Lib.hid h
  clear h
  go_enter Tryz.func98,Tryz.ntmps98
  go_wp2_with (go_at_call 109;refine HJ.out.mono ?_;rintro e w1 ⟨rfl,hb1⟩)
  go_ret2
  refine⟨none,0,0,rfl,hb1,?_,fun _=>rfl⟩
  unfold joinM
  rw[if_neg H.out]
  exact SlF.nil
theorem merged_more(F G:Nat→Prop)(ao:Option Addr)(n cap:Nat)(a:List (List Int))(bo:Option Addr)(m bcap:Nat)(b:List (List Int))(w:World)(hA:SlF F w 1 lineF ao n cap a)(hB:SlF G w 1 lineF bo m bcap b)(ha:a≠[]):
  Calls Tryz.prog 89 #[.slice ao n cap,.slice bo m bcap,.bool false] w fun e w' => ∃ ao' n' cap',e= .returned (.tuple #[.slice ao' n' cap',.int .i64 (pairE a b)])∧Below w.heap.size w w' ∧SlF (from_ w.heap.size) w' 1 lineF ao' n' cap' (joinM max a b)∧(joinM max a b=[]→ao' =none):=by
 by_cases h:pairE a b=0
 ·obtain⟨h1,h2,h3,h4⟩:=pairE_good h
  have hn:=hA.len
  have hm:=hB.len
  refine(mergedMax_good F G ao n cap a bo m bcap b w hA hB h h2 h3 (by omega) (by omega)).mono fun e w' ⟨ao',cap',gs,h5,h6,h7⟩=>⟨ao',n,cap',by rw[h5,h],h6,?_,fun e=>absurd e (joinM_some h ha)⟩
  have hS:=h7.toF (by omega)
  rw[gridL_congr (mix2_end max a b n)]at hS
  unfold joinM
  rw[if_pos h,←hn]
  exact hS
 ·refine(merged_bad F G ao n cap a bo m bcap b false w hA hB h).mono fun e w' ⟨h5,h6⟩=>⟨none,0,0,h5,h6,?_,fun _=>rfl⟩
  unfold joinM
  rw[if_neg h]
  exact SlF.nil
end Go.Proofs.YtncmghnhfipklaaGreatDoor
/-
  The least bounds that come of a matrix's own, in plain Lean: they are the greatest matrix that is closed and below it; so where its points are renamed they are renamed, too.
-/
namespace Go.Proofs.YtncmghnhfipklaaGreatDoor
open Go Go.RowKit
set_option linter.unusedVariables false
set_option linter.unusedSimpArgs false
theorem smB_mono{a b c d:Int}(h1:a≤c)(h2:b≤d)(hc:c≤NOB)(hd:d≤NOB){x:Int}(hx:x≤NOB)(h:x≤smB a b):x≤smB c d:=by
 unfold smB
 split
 ·exact hx
 ·rename_i hn
  have n1:a≠NOB:=fun e=>hn (Or.inl (by omega))
  have n2:b≠NOB:=fun e=>hn (Or.inr (by omega))
  have:=smB_le h n1 n2
  omega
theorem closed_le{n:Nat}{g E:Mx}(hg:RB n 0 g)(hE: ∀ a b,a<n→b<n→E a b≤g a b)(hT:Tri n n E): ∀ k,k≤n→ ∀ a b,a<n→b<n→E a b≤Fs g k a b
 |0,_=>hE
 |k+1,hk=>fun a b ha hb=>by
  have ih:=closed_le hg hE hT k (by omega)
  show E a b≤lyr (Fs g k) k a b
  unfold lyr
  exact Int.le_min.2 ⟨ih a b ha hb,smB_mono (ih a k ha (by omega)) (ih k b (by omega) hb) (Fs_no hg k a k ha (by omega)) (Fs_no hg k k b (by omega) hb) (Int.le_trans (hE a b ha hb) (Fs_no hg 0 a b ha hb)) (hT k (by omega) a b ha hb)⟩
variable {n:Nat} {σ:Nat→Nat} {g g' :Mx}
structure Turned (n:Nat) (σ:Nat→Nat) (g g' :Mx):Prop where
 lt: ∀ a,a<n→σ a<n
 twice: ∀ a,a<n→σ (σ a)=a
 same: ∀ a b,a<n→b<n→g' (σ a) (σ b)=g a b
theorem Turned.back(h:Turned n σ g g'):Turned n σ g' g:=
 ⟨h.lt,h.twice,fun a b ha hb=>by
  have:=h.same (σ a) (σ b) (h.lt a ha) (h.lt b hb)
  rw[h.twice a ha,h.twice b hb]at this
  exact this.symm⟩
theorem Turned.low(h:Turned n σ g g')(hn:n≤12)(hg:RB n 0 g)(hG:Good g n):(∀ a b,a<n→b<n→Fs g n (σ a) (σ b)≤g' a b)∧Tri n n (fun a b=>Fs g n (σ a) (σ b)):=by
 refine⟨fun a b ha hb=>?_,fun m hm a b ha hb=>Fs_tri hn hg n (Nat.le_refl _) hG (σ m) (h.lt m hm) (σ a) (σ b) (h.lt a ha) (h.lt b hb)⟩
 rw[←h.back.same a b ha hb]
 exact Fs_anti g 0 n (Nat.zero_le _) _ _
theorem Turned.good(h:Turned n σ g g')(hn:n≤12)(hg:RB n 0 g)(hg' :RB n 0 g')(h0: ∀ x,x<n→g' x x=0)(hG:Good g n):Good g' n:=by
 rcases good_or h0 with hG' |⟨k,hk,_,hb⟩
 ·exact hG'
 ·exfalso
  obtain⟨l1,l2⟩:=h.low hn hg hG
  have this:Fs g n (σ k) (σ k)≤Fs g' k k k:=closed_le hg' l1 l2 k (by omega) k k hk hk
  have hd:=Fs_diag hn hg n (Nat.le_refl _) hG (σ k) (h.lt k hk)
  omega
theorem Turned.Fs_same(h:Turned n σ g g')(hn:n≤12)(hg:RB n 0 g)(hg' :RB n 0 g')(hG:Good g n)(hG' :Good g' n): ∀ a b,a<n→b<n→Fs g' n (σ a) (σ b)=Fs g n a b:=by
 intro a b ha hb
 have x1:Fs g' n (σ a) (σ b)≤Fs g n a b:=by
  obtain⟨l1,l2⟩:=h.back.low hn hg' hG'
  exact closed_le hg l1 l2 n (Nat.le_refl _) a b ha hb
 have x2:Fs g n a b≤Fs g' n (σ a) (σ b):=by
  obtain⟨l1,l2⟩:=h.low hn hg hG
  have:=closed_le hg' l1 l2 n (Nat.le_refl _) (σ a) (σ b) (h.lt a ha) (h.lt b hb)
  simp only[h.twice a ha,h.twice b hb]at this
  exact this
 exact Int.le_antisymm x1 x2
theorem turned_same(h:Turned n σ g g')(hn:n≤12)(hg:RB n 0 g)(hg' :RB n 0 g')(h0: ∀ x,x<n→g x x=0)(h0' : ∀ x,x<n→g' x x=0):
  (okM n (shutF n g)↔okM n (shutF n g'))∧(okM n (shutF n g)→ ∀ a b,a<n→b<n→shutF n g' (σ a) (σ b)=shutF n g a b):=by
 have key: ∀ {g:Mx},RB n 0 g→(∀ x,x<n→g x x=0)→okM n (shutF n g)→Good g n:=fun hg h0 hok=>by
  rcases good_or h0 with hG|⟨k,hk,hG,hb⟩
  ·exact hG
  ·exact absurd hok (shut_bad hn hg hk hG hb)
 refine⟨⟨fun hok=>(shut_good hn hg' (h.good hn hg hg' h0' (key hg h0 hok))).1,fun hok=>(shut_good hn hg (h.back.good hn hg' hg h0 (key hg' h0' hok))).1⟩,fun hok a b ha hb=>?_⟩
 have hG:=key hg h0 hok
 have hG' :=h.good hn hg hg' h0' hG
 rw[(shut_good hn hg hG).2 a b ha hb,(shut_good hn hg' hG').2 _ _ (h.lt a ha) (h.lt b hb)]
 exact h.Fs_same hn hg hg' hG hG' a b ha hb
end Go.Proofs.YtncmghnhfipklaaGreatDoor
/-
  The walk of package bound's one: the bounds of an option. Printed by opo.py.
-/
namespace Go.Proofs.YtncmghnhfipklaaGreatDoor
open Go.RowKit
set_option linter.unusedVariables false
set_option linter.unusedSimpArgs false
def backR(r:Int):Bool:=decide (r≠13∧r % 2=0)
def oddR(r:Int):Int:=if backR r=true then r - 1 else r
def baseG:Mx:=lessG (lessG freeG 0 1 0) 2 3 0
def midG(r lo hi:Int):Mx:=farG (shapeG baseG (oddR r)) (shapeX (oddR r)) (shapeY (oddR r)) lo hi
def optG(r lo hi:Int):Mx:=fun a b=>if backR r=true then shutF 4 (midG r lo hi) (sw a) (sw b)else shutF 4 (midG r lo hi) a b
def optL(r lo hi:Int):Option (List (List Int)):=if okb 4 (shutF 4 (midG r lo hi))=true then some (gridL 4 (optG r lo hi))else none
def OnePost(m:Option (List (List Int)))(w:World)(x:Ending)(w' :World):Prop:=
 (m=none∧x= .returned (.tuple #[.slice none 0 0,.bool false])∧Below w.heap.size w w')∨
 (∃ l ao cap,m=some l∧l.length=4∧x= .returned (.tuple #[.slice ao 4 cap,.bool true])∧Below w.heap.size w w' ∧SlF (from_ w.heap.size) w' 1 lineF ao 4 cap l)
theorem shapeX_lt(r:Int):shapeX r<4:=by unfold shapeX;(repeat' split)<;>decide
theorem shapeY_lt(r:Int):shapeY r<4:=by unfold shapeY;(repeat' split)<;>decide
theorem thirteen{r:Int}(h:1≤r∧r≤13):r=1∨r=2∨r=3∨r=4∨r=5∨r=6∨r=7∨r=8∨r=9∨r=10∨r=11∨r=12∨r=13:=by omega
set_option maxHeartbeats 2000000 in
set_option maxRecDepth 100000 in
theorem one_odd(r lo hi:Int)(w:World)(hr:1≤r∧r≤13)(hl:0≤lo∧lo≤1073741824)(h13: ¬ r=13)(hb:backR r=false):
  Calls Tryz.prog 97 #[.agg #[.int .i64 r,.int .i64 lo,.int .i64 hi]] w (OnePost (optL r lo hi) w):=by
 have ho:oddR r=r:=by unfold oddR;rw[hb];rfl
 have HM:Hid (midG r lo hi=farG (shapeG baseG (r)) (shapeX (r)) (shapeY (r)) lo hi):=by show _=_;unfold midG;rw[ho]
 have HB:=Lib.hid hb
 have hx:=shapeX_lt (r)
 have hy:=shapeY_lt (r)
 clear hb ho
 have q1:(r !=13)=true:=by simpa using h13
 have q2:(r % 2==0)=false:=by have:=HB.out;unfold backR at this;simp at this;have:=this h13;simp;omega
 go_enter Tryz.func97,Tryz.ntmps97
 go_wp2_with fail
 refine(free_grid 4 (by omega) _).mono ?_
 rintro e w1 ⟨ao1,cap1,gs,rfl,hb1,hG1⟩
 have c1:=hb1.cell (p:=⟨w.heap.size,1,none⟩) (by simp)
 have c2:=hb1.cell (p:=⟨w.heap.size,2,none⟩) (by simp)
 simp at c1 c2
 have hs1:=hb1.size
 have hbw:Below w.heap.size w w1:=(Joins.below_alloc1 w _).trans (hb1.mono (by simp))
 simp only[World.size_alloc]at hs1 hG1
 have G1:=Lib.hid hG1
 clear hb1 hG1
 go_wp2_with fail
 refine(less_any (w.heap.size+1) ao1 4 cap1 gs _ 0 1 0 w1 (by omega) G1.out (by omega) (by omega) (by omega)).mono ?_
 rintro e w2 ⟨rfl,hb2,hG2⟩
 have hs2:=hb2.size
 have c3:=(hb2.cell (p:=⟨w.heap.size,1,none⟩) (by simp)).trans c1
 have c4:=(hb2.cell (p:=⟨w.heap.size,2,none⟩) (by simp)).trans c2
 have G2:=Lib.hid hG2
 clear hG2 c1 c2 G1
 go_wp2_with fail
 refine(less_any (w.heap.size+1) ao1 4 cap1 gs _ 2 3 0 w2 (by omega) G2.out (by omega) (by omega) (by omega)).mono ?_
 rintro e w3 ⟨rfl,hb3,hG3⟩
 have hs3:=hb3.size
 have c1:=(hb3.cell (p:=⟨w.heap.size,1,none⟩) (by simp)).trans c3
 have c2:=(hb3.cell (p:=⟨w.heap.size,2,none⟩) (by simp)).trans c4
 have G3:Hid (Grid (from_ (w.heap.size+1)) w3 ao1 4 cap1 gs baseG):=hG3
 clear hG3 c3 c4 G2
 go_wp2_with fail
 refine(shape_any (w.heap.size+1) ao1 cap1 gs _ (r) w3 (by omega) G3.out).mono ?_
 rintro e w4 ⟨rfl,hb4,hG4⟩
 have hs4:=hb4.size
 have c3:=(hb4.cell (p:=⟨w.heap.size,1,none⟩) (by simp)).trans c1
 have c4:=(hb4.cell (p:=⟨w.heap.size,2,none⟩) (by simp)).trans c2
 have G4:=Lib.hid hG4
 clear hG4 c1 c2 G3
 have HM2:=HM
 generalize shapeX (r)=px at *
 generalize shapeY (r)=py at *
 generalize shapeG baseG (r)=gq at *
 go_wp2_with fail
 refine(far_any (w.heap.size+1) ao1 4 cap1 gs _ px py lo hi w4 (by omega) G4.out hx hy (by omega)).mono ?_
 rintro e w5 ⟨rfl,hb5,hG5⟩
 have hs5:=hb5.size
 have GM:Hid (Grid (from_ (w.heap.size+1)) w5 ao1 4 cap1 gs (midG r lo hi)):=by show Grid _ _ _ _ _ _ _;rw[HM2.out];exact hG5
 clear hG5 HM HM2 G4 c3 c4
 have hbz:Below w.heap.size w w5:=hbw.trans ((((hb2.trans hb3).trans hb4).trans hb5).mono (by omega))
 clear hbw hb2 hb3 hb4 hb5
 generalize hmid:midG r lo hi=mm at *
 have HMM:=Lib.hid hmid
 clear hmid
 go_wp2_with fail
 refine(shut_any (w.heap.size+1) ao1 4 cap1 gs mm w5 (by omega) GM.out).mono ?_
 rintro e w6 ⟨rfl,hb6,hG6⟩
 have hs6:=hb6.size
 have G6:=Lib.hid hG6
 clear hG6 GM
 cases hok:okb 4 (shutF 4 mm)with
 |false=>
  have HOK:=Lib.hid hok
  clear hok
  go_wp2
  go_ret2
  refine Or.inl ⟨?_,rfl,hbz.trans (hb6.mono (by omega))⟩
  unfold optL
  rw[HMM.out,HOK.out]
  rfl
 |true=>
  have HOK:=Lib.hid hok
  clear hok
  go_wp2
  go_ret2
  refine Or.inr ⟨gridL 4 (optG r lo hi),ao1,cap1,?_,by simp[gridL],rfl,hbz.trans (hb6.mono (by omega)),?_⟩
  ·unfold optL
   rw[HMM.out,HOK.out]
   rfl
  ·refine((G6.out.congr fun a b _ _=>?_).same (Same.wide fun b hb _=>Nat.le_of_succ_le hb)).toF (by omega)
   unfold optG
   rw[HB.out,HMM.out]
   rfl
set_option maxHeartbeats 2000000 in
set_option maxRecDepth 100000 in
theorem one_thirteen(lo hi:Int)(w:World)(hl:0≤lo∧lo≤1073741824)(hb:backR 13=false):
  Calls Tryz.prog 97 #[.agg #[.int .i64 13,.int .i64 lo,.int .i64 hi]] w (OnePost (optL 13 lo hi) w):=by
 have ho:oddR 13=13:=by unfold oddR;rw[hb];rfl
 have HM:Hid (midG 13 lo hi=farG (shapeG baseG (13)) (shapeX (13)) (shapeY (13)) lo hi):=by show _=_;unfold midG;rw[ho]
 have HB:=Lib.hid hb
 have hx:=shapeX_lt (13)
 have hy:=shapeY_lt (13)
 clear hb ho
 go_enter Tryz.func97,Tryz.ntmps97
 go_wp2_with fail
 refine(free_grid 4 (by omega) _).mono ?_
 rintro e w1 ⟨ao1,cap1,gs,rfl,hb1,hG1⟩
 have c1:=hb1.cell (p:=⟨w.heap.size,1,none⟩) (by simp)
 have c2:=hb1.cell (p:=⟨w.heap.size,2,none⟩) (by simp)
 simp at c1 c2
 have hs1:=hb1.size
 have hbw:Below w.heap.size w w1:=(Joins.below_alloc1 w _).trans (hb1.mono (by simp))
 simp only[World.size_alloc]at hs1 hG1
 have G1:=Lib.hid hG1
 clear hb1 hG1
 go_wp2_with fail
 refine(less_any (w.heap.size+1) ao1 4 cap1 gs _ 0 1 0 w1 (by omega) G1.out (by omega) (by omega) (by omega)).mono ?_
 rintro e w2 ⟨rfl,hb2,hG2⟩
 have hs2:=hb2.size
 have c3:=(hb2.cell (p:=⟨w.heap.size,1,none⟩) (by simp)).trans c1
 have c4:=(hb2.cell (p:=⟨w.heap.size,2,none⟩) (by simp)).trans c2
 have G2:=Lib.hid hG2
 clear hG2 c1 c2 G1
 go_wp2_with fail
 refine(less_any (w.heap.size+1) ao1 4 cap1 gs _ 2 3 0 w2 (by omega) G2.out (by omega) (by omega) (by omega)).mono ?_
 rintro e w3 ⟨rfl,hb3,hG3⟩
 have hs3:=hb3.size
 have c1:=(hb3.cell (p:=⟨w.heap.size,1,none⟩) (by simp)).trans c3
 have c2:=(hb3.cell (p:=⟨w.heap.size,2,none⟩) (by simp)).trans c4
 have G3:Hid (Grid (from_ (w.heap.size+1)) w3 ao1 4 cap1 gs baseG):=hG3
 clear hG3 c3 c4 G2
 go_wp2_with fail
 refine(shape_any (w.heap.size+1) ao1 cap1 gs _ (13) w3 (by omega) G3.out).mono ?_
 rintro e w4 ⟨rfl,hb4,hG4⟩
 have hs4:=hb4.size
 have c3:=(hb4.cell (p:=⟨w.heap.size,1,none⟩) (by simp)).trans c1
 have c4:=(hb4.cell (p:=⟨w.heap.size,2,none⟩) (by simp)).trans c2
 have G4:=Lib.hid hG4
 clear hG4 c1 c2 G3
 have HM2:=HM
 generalize shapeX (13)=px at *
 generalize shapeY (13)=py at *
 generalize shapeG baseG (13)=gq at *
 go_wp2_with fail
 refine(far_any (w.heap.size+1) ao1 4 cap1 gs _ px py lo hi w4 (by omega) G4.out hx hy (by omega)).mono ?_
 rintro e w5 ⟨rfl,hb5,hG5⟩
 have hs5:=hb5.size
 have GM:Hid (Grid (from_ (w.heap.size+1)) w5 ao1 4 cap1 gs (midG 13 lo hi)):=by show Grid _ _ _ _ _ _ _;rw[HM2.out];exact hG5
 clear hG5 HM HM2 G4 c3 c4
 have hbz:Below w.heap.size w w5:=hbw.trans ((((hb2.trans hb3).trans hb4).trans hb5).mono (by omega))
 clear hbw hb2 hb3 hb4 hb5
 generalize hmid:midG 13 lo hi=mm at *
 have HMM:=Lib.hid hmid
 clear hmid
 go_wp2_with fail
 refine(shut_any (w.heap.size+1) ao1 4 cap1 gs mm w5 (by omega) GM.out).mono ?_
 rintro e w6 ⟨rfl,hb6,hG6⟩
 have hs6:=hb6.size
 have G6:=Lib.hid hG6
 clear hG6 GM
 cases hok:okb 4 (shutF 4 mm)with
 |false=>
  have HOK:=Lib.hid hok
  clear hok
  go_wp2
  go_ret2
  refine Or.inl ⟨?_,rfl,hbz.trans (hb6.mono (by omega))⟩
  unfold optL
  rw[HMM.out,HOK.out]
  rfl
 |true=>
  have HOK:=Lib.hid hok
  clear hok
  go_wp2
  go_ret2
  refine Or.inr ⟨gridL 4 (optG 13 lo hi),ao1,cap1,?_,by simp[gridL],rfl,hbz.trans (hb6.mono (by omega)),?_⟩
  ·unfold optL
   rw[HMM.out,HOK.out]
   rfl
  ·refine((G6.out.congr fun a b _ _=>?_).same (Same.wide fun b hb _=>Nat.le_of_succ_le hb)).toF (by omega)
   unfold optG
   rw[HB.out,HMM.out]
   rfl
set_option maxHeartbeats 2000000 in
set_option maxRecDepth 100000 in
theorem one_even(r lo hi:Int)(w:World)(hr:1≤r∧r≤13)(hl:0≤lo∧lo≤1073741824)(h13: ¬ r=13)(hb:backR r=true):
  Calls Tryz.prog 97 #[.agg #[.int .i64 r,.int .i64 lo,.int .i64 hi]] w (OnePost (optL r lo hi) w):=by
 have ho:oddR r=r - 1:=by unfold oddR;rw[hb];rfl
 have HM:Hid (midG r lo hi=farG (shapeG baseG (r - 1)) (shapeX (r - 1)) (shapeY (r - 1)) lo hi):=by show _=_;unfold midG;rw[ho]
 have HB:=Lib.hid hb
 have hx:=shapeX_lt (r - 1)
 have hy:=shapeY_lt (r - 1)
 clear hb ho
 have q1:(r !=13)=true:=by simpa using h13
 have q2:(r % 2==0)=true:=by have:=HB.out;unfold backR at this;simp at this;simp;omega
 have q3:IntKind.i64.wrap (r - 1)=r - 1:=IntWalk.i64_in _ (by omega)
 go_enter Tryz.func97,Tryz.ntmps97
 go_wp2_with fail
 refine(free_grid 4 (by omega) _).mono ?_
 rintro e w1 ⟨ao1,cap1,gs,rfl,hb1,hG1⟩
 have c1:=hb1.cell (p:=⟨w.heap.size,1,none⟩) (by simp)
 have c2:=hb1.cell (p:=⟨w.heap.size,2,none⟩) (by simp)
 simp at c1 c2
 have hs1:=hb1.size
 have hbw:Below w.heap.size w w1:=(Joins.below_alloc1 w _).trans (hb1.mono (by simp))
 simp only[World.size_alloc]at hs1 hG1
 have G1:=Lib.hid hG1
 clear hb1 hG1
 go_wp2_with fail
 refine(less_any (w.heap.size+1) ao1 4 cap1 gs _ 0 1 0 w1 (by omega) G1.out (by omega) (by omega) (by omega)).mono ?_
 rintro e w2 ⟨rfl,hb2,hG2⟩
 have hs2:=hb2.size
 have c3:=(hb2.cell (p:=⟨w.heap.size,1,none⟩) (by simp)).trans c1
 have c4:=(hb2.cell (p:=⟨w.heap.size,2,none⟩) (by simp)).trans c2
 have G2:=Lib.hid hG2
 clear hG2 c1 c2 G1
 go_wp2_with fail
 refine(less_any (w.heap.size+1) ao1 4 cap1 gs _ 2 3 0 w2 (by omega) G2.out (by omega) (by omega) (by omega)).mono ?_
 rintro e w3 ⟨rfl,hb3,hG3⟩
 have hs3:=hb3.size
 have c1:=(hb3.cell (p:=⟨w.heap.size,1,none⟩) (by simp)).trans c3
 have c2:=(hb3.cell (p:=⟨w.heap.size,2,none⟩) (by simp)).trans c4
 have G3:Hid (Grid (from_ (w.heap.size+1)) w3 ao1 4 cap1 gs baseG):=hG3
 clear hG3 c3 c4 G2
 go_wp2_with fail
 refine(shape_any (w.heap.size+1) ao1 cap1 gs _ (r - 1) w3 (by omega) G3.out).mono ?_
 rintro e w4 ⟨rfl,hb4,hG4⟩
 have hs4:=hb4.size
 have c3:=(hb4.cell (p:=⟨w.heap.size,1,none⟩) (by simp)).trans c1
 have c4:=(hb4.cell (p:=⟨w.heap.size,2,none⟩) (by simp)).trans c2
 have G4:=Lib.hid hG4
 clear hG4 c1 c2 G3
 have HM2:=HM
 generalize shapeX (r - 1)=px at *
 generalize shapeY (r - 1)=py at *
 generalize shapeG baseG (r - 1)=gq at *
 go_wp2_with fail
 refine(far_any (w.heap.size+1) ao1 4 cap1 gs _ px py lo hi w4 (by omega) G4.out hx hy (by omega)).mono ?_
 rintro e w5 ⟨rfl,hb5,hG5⟩
 have hs5:=hb5.size
 have GM:Hid (Grid (from_ (w.heap.size+1)) w5 ao1 4 cap1 gs (midG r lo hi)):=by show Grid _ _ _ _ _ _ _;rw[HM2.out];exact hG5
 clear hG5 HM HM2 G4 c3 c4
 have hbz:Below w.heap.size w w5:=hbw.trans ((((hb2.trans hb3).trans hb4).trans hb5).mono (by omega))
 clear hbw hb2 hb3 hb4 hb5
 generalize hmid:midG r lo hi=mm at *
 have HMM:=Lib.hid hmid
 clear hmid
 go_wp2_with fail
 refine(shut_any (w.heap.size+1) ao1 4 cap1 gs mm w5 (by omega) GM.out).mono ?_
 rintro e w6 ⟨rfl,hb6,hG6⟩
 have hs6:=hb6.size
 have G6:=Lib.hid hG6
 clear hG6 GM
 cases hok:okb 4 (shutF 4 mm)with
 |false=>
  have HOK:=Lib.hid hok
  clear hok
  go_wp2
  go_ret2
  refine Or.inl ⟨?_,rfl,hbz.trans (hb6.mono (by omega))⟩
  unfold optL
  rw[HMM.out,HOK.out]
  rfl
 |true=>
  have HOK:=Lib.hid hok
  clear hok
  go_wp2_with fail
  refine(turned_any (w.heap.size+1) ao1 cap1 gs _ w6 (by omega) G6.out).mono ?_
  rintro e w7 ⟨ao7,cap7,gs7,rfl,hb7,hG7⟩
  have G7:=Lib.hid hG7
  clear hG7
  go_wp2
  go_ret2
  refine Or.inr ⟨gridL 4 (optG r lo hi),ao7,cap7,?_,by simp[gridL],rfl,(hbz.trans (hb6.mono (by omega))).trans (hb7.mono (by omega)),?_⟩
  ·unfold optL
   rw[HMM.out,HOK.out]
   rfl
  ·refine((G7.out.congr fun a b _ _=>?_).same (Same.wide fun b hb _=>by unfold from_ at *;omega)).toF (by omega)
   unfold optG
   rw[HB.out,HMM.out]
   rfl
theorem one_any(r lo hi:Int)(w:World)(hr:1≤r∧r≤13)(hl:0≤lo∧lo≤1073741824):
  Calls Tryz.prog 97 #[.agg #[.int .i64 r,.int .i64 lo,.int .i64 hi]] w (OnePost (optL r lo hi) w):=by
 cases hb:backR r with
 |true=>
  refine one_even r lo hi w hr hl (fun e=>?_) hb
  unfold backR at hb
  simp at hb
  exact hb.1 e
 |false=>
  by_cases h13:r=13
  ·subst h13
   exact one_thirteen lo hi w hl hb
  ·exact one_odd r lo hi w hr hl h13 hb
end Go.Proofs.YtncmghnhfipklaaGreatDoor
