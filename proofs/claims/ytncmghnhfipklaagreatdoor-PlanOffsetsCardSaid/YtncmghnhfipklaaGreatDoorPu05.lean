/-
  The walk of package bound's shape: the bounds of a relation's points.
-/
import Derived.Test.YtncmghnhfipklaaGreatDoorPu04
import Derived.Test.YtncmghnhfipklaaGreatDoorPu01
import Derived.Handy
import Derived.Test.YtncmghnhfipklaaGreatDoorPu02
import Derived.Test.YtncmghnhfipklaaGreatDoorPu03
namespace Go.Proofs.YtncmghnhfipklaaGreatDoor
open Go.RowKit
set_option linter.unusedVariables false
set_option linter.unusedSimpArgs false
def shapeG(g:Mx)(r:Int):Mx:=if r=1 then(lessG g 1 2 1)else if r=3 then(lessG (lessG (sameG g 1 2) 0 2 1) 1 3 1)else if r=5 then(lessG (lessG (lessG g 0 2 1) 2 1 1) 1 3 1)else if r=7 then(lessG (sameG g 0 2) 1 3 1)else if r=9 then(lessG (lessG g 2 0 1) 1 3 1)else if r=11 then(sameG (lessG g 2 0 1) 1 3)else(sameG (sameG g 0 2) 1 3)
def shapeX(r:Int):Nat:=if r=1 then 1 else if r=3 then 1 else if r=5 then 2 else if r=7 then 1 else if r=9 then 2 else if r=11 then 2 else 0
def shapeY(r:Int):Nat:=if r=1 then 2 else if r=3 then 2 else if r=5 then 1 else if r=7 then 3 else if r=9 then 0 else if r=11 then 0 else 2
set_option maxHeartbeats 1000000 in
theorem shape_1(B:Nat)(ao:Option Addr)(cap:Nat)(gs:Nat→Nat)(g:Mx)(w:World)(hB:B≤w.heap.size)(hG:Grid (from_ B) w ao 4 cap gs g):
  Calls Tryz.prog 106 #[.slice ao 4 cap,.int .i64 1] w fun e w' =>e= .returned (.tuple #[.int .i64 1,.int .i64 2])∧Below B w w' ∧Grid (from_ B) w' ao 4 cap gs (lessG g 1 2 1):=by
 have HG0:=Lib.hid hG
 clear hG
 go_enter Tryz.func106,Tryz.ntmps106
 go_wp2_with fail
 refine(less_any B ao 4 cap gs g 1 2 1 w (by omega) HG0.out (by omega) (by omega) (by omega)).mono ?_
 rintro e w1 ⟨rfl,hb1,hG1⟩
 have hs1:=hb1.size
 have HG1:=Lib.hid hG1
 clear hG1
 go_wp2
 go_ret2
 exact⟨rfl,hb1,HG1.out⟩
set_option maxHeartbeats 1000000 in
theorem shape_3(B:Nat)(ao:Option Addr)(cap:Nat)(gs:Nat→Nat)(g:Mx)(w:World)(hB:B≤w.heap.size)(hG:Grid (from_ B) w ao 4 cap gs g):
  Calls Tryz.prog 106 #[.slice ao 4 cap,.int .i64 3] w fun e w' =>e= .returned (.tuple #[.int .i64 1,.int .i64 2])∧Below B w w' ∧Grid (from_ B) w' ao 4 cap gs (lessG (lessG (sameG g 1 2) 0 2 1) 1 3 1):=by
 have HG0:=Lib.hid hG
 clear hG
 go_enter Tryz.func106,Tryz.ntmps106
 go_wp2_with fail
 refine(same_any B ao 4 cap gs g 1 2 w (by omega) HG0.out (by omega) (by omega)).mono ?_
 rintro e w1 ⟨rfl,hb1,hG1⟩
 have hs1:=hb1.size
 have HG1:=Lib.hid hG1
 clear hG1
 go_wp2_with fail
 refine(less_any B ao 4 cap gs (sameG g 1 2) 0 2 1 w1 (by omega) HG1.out (by omega) (by omega) (by omega)).mono ?_
 rintro e w2 ⟨rfl,hb2,hG2⟩
 have hs2:=hb2.size
 have HG2:=Lib.hid hG2
 clear hG2
 go_wp2_with fail
 refine(less_any B ao 4 cap gs (lessG (sameG g 1 2) 0 2 1) 1 3 1 w2 (by omega) HG2.out (by omega) (by omega) (by omega)).mono ?_
 rintro e w3 ⟨rfl,hb3,hG3⟩
 have hs3:=hb3.size
 have HG3:=Lib.hid hG3
 clear hG3
 go_wp2
 go_ret2
 exact⟨rfl,((hb1).trans hb2).trans hb3,HG3.out⟩
set_option maxHeartbeats 1000000 in
theorem shape_5(B:Nat)(ao:Option Addr)(cap:Nat)(gs:Nat→Nat)(g:Mx)(w:World)(hB:B≤w.heap.size)(hG:Grid (from_ B) w ao 4 cap gs g):
  Calls Tryz.prog 106 #[.slice ao 4 cap,.int .i64 5] w fun e w' =>e= .returned (.tuple #[.int .i64 2,.int .i64 1])∧Below B w w' ∧Grid (from_ B) w' ao 4 cap gs (lessG (lessG (lessG g 0 2 1) 2 1 1) 1 3 1):=by
 have HG0:=Lib.hid hG
 clear hG
 go_enter Tryz.func106,Tryz.ntmps106
 go_wp2_with fail
 refine(less_any B ao 4 cap gs g 0 2 1 w (by omega) HG0.out (by omega) (by omega) (by omega)).mono ?_
 rintro e w1 ⟨rfl,hb1,hG1⟩
 have hs1:=hb1.size
 have HG1:=Lib.hid hG1
 clear hG1
 go_wp2_with fail
 refine(less_any B ao 4 cap gs (lessG g 0 2 1) 2 1 1 w1 (by omega) HG1.out (by omega) (by omega) (by omega)).mono ?_
 rintro e w2 ⟨rfl,hb2,hG2⟩
 have hs2:=hb2.size
 have HG2:=Lib.hid hG2
 clear hG2
 go_wp2_with fail
 refine(less_any B ao 4 cap gs (lessG (lessG g 0 2 1) 2 1 1) 1 3 1 w2 (by omega) HG2.out (by omega) (by omega) (by omega)).mono ?_
 rintro e w3 ⟨rfl,hb3,hG3⟩
 have hs3:=hb3.size
 have HG3:=Lib.hid hG3
 clear hG3
 go_wp2
 go_ret2
 exact⟨rfl,((hb1).trans hb2).trans hb3,HG3.out⟩
set_option maxHeartbeats 1000000 in
theorem shape_7(B:Nat)(ao:Option Addr)(cap:Nat)(gs:Nat→Nat)(g:Mx)(w:World)(hB:B≤w.heap.size)(hG:Grid (from_ B) w ao 4 cap gs g):
  Calls Tryz.prog 106 #[.slice ao 4 cap,.int .i64 7] w fun e w' =>e= .returned (.tuple #[.int .i64 1,.int .i64 3])∧Below B w w' ∧Grid (from_ B) w' ao 4 cap gs (lessG (sameG g 0 2) 1 3 1):=by
 have HG0:=Lib.hid hG
 clear hG
 go_enter Tryz.func106,Tryz.ntmps106
 go_wp2_with fail
 refine(same_any B ao 4 cap gs g 0 2 w (by omega) HG0.out (by omega) (by omega)).mono ?_
 rintro e w1 ⟨rfl,hb1,hG1⟩
 have hs1:=hb1.size
 have HG1:=Lib.hid hG1
 clear hG1
 go_wp2_with fail
 refine(less_any B ao 4 cap gs (sameG g 0 2) 1 3 1 w1 (by omega) HG1.out (by omega) (by omega) (by omega)).mono ?_
 rintro e w2 ⟨rfl,hb2,hG2⟩
 have hs2:=hb2.size
 have HG2:=Lib.hid hG2
 clear hG2
 go_wp2
 go_ret2
 exact⟨rfl,(hb1).trans hb2,HG2.out⟩
set_option maxHeartbeats 1000000 in
theorem shape_9(B:Nat)(ao:Option Addr)(cap:Nat)(gs:Nat→Nat)(g:Mx)(w:World)(hB:B≤w.heap.size)(hG:Grid (from_ B) w ao 4 cap gs g):
  Calls Tryz.prog 106 #[.slice ao 4 cap,.int .i64 9] w fun e w' =>e= .returned (.tuple #[.int .i64 2,.int .i64 0])∧Below B w w' ∧Grid (from_ B) w' ao 4 cap gs (lessG (lessG g 2 0 1) 1 3 1):=by
 have HG0:=Lib.hid hG
 clear hG
 go_enter Tryz.func106,Tryz.ntmps106
 go_wp2_with fail
 refine(less_any B ao 4 cap gs g 2 0 1 w (by omega) HG0.out (by omega) (by omega) (by omega)).mono ?_
 rintro e w1 ⟨rfl,hb1,hG1⟩
 have hs1:=hb1.size
 have HG1:=Lib.hid hG1
 clear hG1
 go_wp2_with fail
 refine(less_any B ao 4 cap gs (lessG g 2 0 1) 1 3 1 w1 (by omega) HG1.out (by omega) (by omega) (by omega)).mono ?_
 rintro e w2 ⟨rfl,hb2,hG2⟩
 have hs2:=hb2.size
 have HG2:=Lib.hid hG2
 clear hG2
 go_wp2
 go_ret2
 exact⟨rfl,(hb1).trans hb2,HG2.out⟩
set_option maxHeartbeats 1000000 in
theorem shape_11(B:Nat)(ao:Option Addr)(cap:Nat)(gs:Nat→Nat)(g:Mx)(w:World)(hB:B≤w.heap.size)(hG:Grid (from_ B) w ao 4 cap gs g):
  Calls Tryz.prog 106 #[.slice ao 4 cap,.int .i64 11] w fun e w' =>e= .returned (.tuple #[.int .i64 2,.int .i64 0])∧Below B w w' ∧Grid (from_ B) w' ao 4 cap gs (sameG (lessG g 2 0 1) 1 3):=by
 have HG0:=Lib.hid hG
 clear hG
 go_enter Tryz.func106,Tryz.ntmps106
 go_wp2_with fail
 refine(less_any B ao 4 cap gs g 2 0 1 w (by omega) HG0.out (by omega) (by omega) (by omega)).mono ?_
 rintro e w1 ⟨rfl,hb1,hG1⟩
 have hs1:=hb1.size
 have HG1:=Lib.hid hG1
 clear hG1
 go_wp2_with fail
 refine(same_any B ao 4 cap gs (lessG g 2 0 1) 1 3 w1 (by omega) HG1.out (by omega) (by omega)).mono ?_
 rintro e w2 ⟨rfl,hb2,hG2⟩
 have hs2:=hb2.size
 have HG2:=Lib.hid hG2
 clear hG2
 go_wp2
 go_ret2
 exact⟨rfl,(hb1).trans hb2,HG2.out⟩
set_option maxHeartbeats 1000000 in
theorem shape_13(B:Nat)(ao:Option Addr)(cap:Nat)(gs:Nat→Nat)(g:Mx)(r:Int)(w:World)(hB:B≤w.heap.size)(hG:Grid (from_ B) w ao 4 cap gs g)(h1: ¬ r=1)(h3: ¬ r=3)(h5: ¬ r=5)(h7: ¬ r=7)(h9: ¬ r=9)(h11: ¬ r=11):
  Calls Tryz.prog 106 #[.slice ao 4 cap,.int .i64 r] w fun e w' =>e= .returned (.tuple #[.int .i64 0,.int .i64 2])∧Below B w w' ∧Grid (from_ B) w' ao 4 cap gs (sameG (sameG g 0 2) 1 3):=by
 have q1:(r==1)=false:=by simpa using h1
 have q3:(r==3)=false:=by simpa using h3
 have q5:(r==5)=false:=by simpa using h5
 have q7:(r==7)=false:=by simpa using h7
 have q9:(r==9)=false:=by simpa using h9
 have q11:(r==11)=false:=by simpa using h11
 clear h1 h3 h5 h7 h9 h11
 have HG0:=Lib.hid hG
 clear hG
 go_enter Tryz.func106,Tryz.ntmps106
 go_wp2_with fail
 refine(same_any B ao 4 cap gs g 0 2 w (by omega) HG0.out (by omega) (by omega)).mono ?_
 rintro e w1 ⟨rfl,hb1,hG1⟩
 have hs1:=hb1.size
 have HG1:=Lib.hid hG1
 clear hG1
 go_wp2_with fail
 refine(same_any B ao 4 cap gs (sameG g 0 2) 1 3 w1 (by omega) HG1.out (by omega) (by omega)).mono ?_
 rintro e w2 ⟨rfl,hb2,hG2⟩
 have hs2:=hb2.size
 have HG2:=Lib.hid hG2
 clear hG2
 go_wp2
 go_ret2
 exact⟨rfl,(hb1).trans hb2,HG2.out⟩
theorem shape_any(B:Nat)(ao:Option Addr)(cap:Nat)(gs:Nat→Nat)(g:Mx)(r:Int)(w:World)(hB:B≤w.heap.size)(hG:Grid (from_ B) w ao 4 cap gs g):
  Calls Tryz.prog 106 #[.slice ao 4 cap,.int .i64 r] w fun e w' =>e= .returned (.tuple #[.int .i64 (shapeX r),.int .i64 (shapeY r)])∧Below B w w' ∧Grid (from_ B) w' ao 4 cap gs (shapeG g r):=by
 by_cases h1:r=1
 ·subst h1;exact shape_1 B ao cap gs g w hB hG
 by_cases h3:r=3
 ·subst h3;exact shape_3 B ao cap gs g w hB hG
 by_cases h5:r=5
 ·subst h5;exact shape_5 B ao cap gs g w hB hG
 by_cases h7:r=7
 ·subst h7;exact shape_7 B ao cap gs g w hB hG
 by_cases h9:r=9
 ·subst h9;exact shape_9 B ao cap gs g w hB hG
 by_cases h11:r=11
 ·subst h11;exact shape_11 B ao cap gs g w hB hG
 have hg:shapeG g r=(sameG (sameG g 0 2) 1 3):=by unfold shapeG;rw[if_neg h1,if_neg h3,if_neg h5,if_neg h7,if_neg h9,if_neg h11]
 have hx:shapeX r=0:=by unfold shapeX;rw[if_neg h1,if_neg h3,if_neg h5,if_neg h7,if_neg h9,if_neg h11]
 have hy:shapeY r=2:=by unfold shapeY;rw[if_neg h1,if_neg h3,if_neg h5,if_neg h7,if_neg h9,if_neg h11]
 rw[hg,hx,hy]
 exact shape_13 B ao cap gs g r w hB hG h1 h3 h5 h7 h9 h11
end Go.Proofs.YtncmghnhfipklaaGreatDoor
/-
  The walk of the reference's ahead: a bound laid into a matrix of the call's own.
-/
namespace Go.Proofs.YtncmghnhfipklaaGreatDoor
open Go.RowKit
set_option linter.unusedVariables false
set_option linter.unusedSimpArgs false
set_option maxHeartbeats 1000000 in
set_option maxRecDepth 100000 in
theorem ahead_any(B:Nat)(ao:Option Addr)(k cap:Nat)(gs:Nat→Nat)(g:Mx)(x y:Nat)(n:Int)(w:World)(hB:B≤w.heap.size)(hG:Grid (from_ B) w ao k cap gs g)(hx:x<k)(hy:y<k)(hn: -4611686018427387904≤n∧n≤4611686018427387904):
  Calls Tryz.prog 102 #[.slice ao k cap,.int .i64 x,.int .i64 y,.int .i64 n] w fun e w' =>e= .returned (.tuple #[])∧Below B w w' ∧Grid (from_ B) w' ao k cap gs (lessG g x y n):=by
 have HG:=Lib.hid hG
 obtain⟨Ai,rci,hAlt,hglt,hF,hne,h1,h2,hix,hcell,hent⟩:=hG.at hx
 obtain⟨e1,e2,e3⟩:=hent y hy
 have hneg:IntKind.i64.wrap (-n)= -n:=IntWalk.i64_in _ (by omega)
 obtain⟨hn1,hn2⟩:=hn
 have hle:=hG.le
 clear hG hent
 by_cases hl: -n<g x y
 ·have KG:Hid (Below B w (w.setCell ⟨gs x,y,none⟩ (.int .i64 (-n)))∧Grid (from_ B) (w.setCell ⟨gs x,y,none⟩ (.int .i64 (-n))) ao k cap gs (lessG g x y n)):=by
   show _∧_
   have hm:min (g x y) (-n)= -n:=Int.min_eq_right (by omega)
   refine⟨(Below.refl B w).setCell (p:=⟨gs x,y,none⟩) hF _,?_⟩
   unfold lessG
   rw[hm]
   exact HG.out.store hx hy (-n)
  go_enter Tryz.func102,Tryz.ntmps102
  go_wp2
  go_end0
  exact⟨rfl,KG.out⟩
 ·have KG:Hid (Grid (from_ B) w ao k cap gs (lessG g x y n)):=by
   show Grid _ _ _ _ _ _ _
   have hm:min (g x y) (-n)=g x y:=Int.min_eq_left (by omega)
   refine HG.out.congr fun r c hr hc=>?_
   unfold lessG setB
   rw[hm]
   split
   ·rename_i e;rw[e.1,e.2]
   ·rfl
  go_enter Tryz.func102,Tryz.ntmps102
  go_wp2
  go_end0
  exact⟨rfl,Below.refl _ _,KG.out⟩
end Go.Proofs.YtncmghnhfipklaaGreatDoor
/-
  The walks of package bound and its reference, fourth part: the free matrix.
-/
namespace Go.Proofs.YtncmghnhfipklaaGreatDoor
open Go.RowKit
set_option linter.unusedVariables false
set_option linter.unusedSimpArgs false
theorem upto12{n:Nat}(h:n≤12):n=0∨n=1∨n=2∨n=3∨n=4∨n=5∨n=6∨n=7∨n=8∨n=9∨n=10∨n=11∨n=12:=by omega
set_option maxHeartbeats 1000000 in
theorem mul_one(n:Nat)(hn:n≤12)(w:World):
  Calls Tryz.prog 104 #[.int .u64 1,.int .u64 n] w fun e w' =>e= .returned (.tuple #[.int .u64 0,.int .u64 n])∧w=w' :=by
 rcases upto12 hn with rfl|rfl|rfl|rfl|rfl|rfl|rfl|rfl|rfl|rfl|rfl|rfl|rfl
 all_goals
  go_enter Tryz.func104,Tryz.ntmps104
  go_wp2
  go_ret2
  exact⟨by kernel_rfl,rfl⟩
def noneI:Int:=1152921504606846976
def filled(n q:Nat):List Value:=List.replicate q (Value.int .i64 noneI)++List.replicate (n - q) (Value.int .i64 0)
theorem filled_len{n q:Nat}(h:q≤n):(filled n q).length=n:=by simp[filled];omega
theorem filled_all(n:Nat):filled n n=List.replicate n (Value.int .i64 noneI):=by simp[filled]
theorem filled_none(n:Nat):(madeCells (Value.int .i64 0).cells (n*1)).toList=filled n 0:=by
 apply List.ext_getElem
 ·simp[madeCells,filled]
 ·intro i h1 h2
  simp only[filled,List.replicate_zero,List.nil_append,Nat.sub_zero,List.getElem_replicate]
  simp[madeCells,Value.cells,Nat.mod_one]
theorem filled_more{n q c:Nat}(h:q+c≤n):splice (filled n q) q (List.replicate c (Value.int .i64 noneI))=filled n (q+c):=by
 unfold splice filled
 have e1:(List.replicate q (Value.int .i64 noneI)++List.replicate (n - q) (Value.int .i64 0)).take q=List.replicate q (Value.int .i64 noneI):=by
  rw[List.take_left' (by simp)]
 have e2:(List.replicate q (Value.int .i64 noneI)++List.replicate (n - q) (Value.int .i64 0)).drop (q+(List.replicate c (Value.int .i64 noneI)).length)=List.replicate (n - (q+c)) (Value.int .i64 0):=by
  rw[List.drop_append,List.drop_of_length_le (by simp),List.nil_append,List.drop_replicate]
  congr 1
  simp;omega
 rw[e1,e2,←List.append_assoc,List.replicate_append_replicate]
theorem filled_at{n q j:Nat}(h:j<q):(filled n q)[j]?=some (.int .i64 noneI):=by
 unfold filled
 rw[List.getElem?_append_left (by simpa using h),List.getElem?_replicate,if_pos h]
theorem rep_one(c:Nat): ∀ u∈List.replicate c (Value.int .i64 noneI),u.oneCell' =true:=fun u hu=>by rw[(List.mem_replicate.1 hu).2];rfl
theorem own_block{w:World}{B g n:Nat}{e:TypeId}{xs:List Value}(h:w.ownsRow B e 1 (.slice (some ⟨g,0,none⟩) n n) n xs):w.heap[g]?=some (.cells xs.toArray e (0,0)):=by
 rcases h.2 with⟨e1,_⟩|⟨g',cap,cur,e1,_,hh,_,_,hs,ht⟩
 ·cases e1
 ·simp at e1
  obtain⟨rfl,rfl⟩:=e1
  rw[hh,←ht,List.take_of_length_le (by simp;omega)]
set_option maxHeartbeats 4000000 in
set_option maxRecDepth 100000 in
theorem repeat_any(n:Nat)(hn:n≤12)(b:Nat)(w:World)(hb:w.cell? ⟨b,0,none⟩=some (.int .i64 1152921504606846976)):
  Calls Tryz.prog 96 #[.slice (some ⟨b,0,none⟩) 1 1,.int .i64 n] w fun e w' => ∃ g,e= .returned (.slice (some ⟨g,0,none⟩) n n)∧Below w.heap.size w w' ∧w.heap.size≤g∧Hid (w'.heap[g]?=some (.cells (filled n n).toArray 3 (0,0))):=by
 obtain⟨i0,hi,hz0,hz1,hz2⟩:=info_parts info_int
 have hisz:(Tryz.prog.info? 3).map (·.size)=some 1:=by kernel_rfl
 have hblt:b<w.heap.size:=block_of_cell hb
 have HB:Hid (w.cell? ⟨b,0,none⟩=some (.int .i64 noneI)):=hb
 have hb8:i0.bytes*n≤281474976710656:=by rw[hz2];omega
 have hn' :(n:Int)≤12:=by omega
 have hgt:decide ((9223372036854775807:Int)<n)=false:=by simp;omega
 have Z2:Hid (i0.bytes=8):=hz2
 clear hz2 hb
 rcases Nat.eq_zero_or_pos n with h0|hpos
 ·subst h0
  have M0:Hid (∀ wx,Calls Tryz.prog 104 #[.int .u64 1,.int .u64 0] wx fun e w' =>e= .returned (.tuple #[.int .u64 0,.int .u64 0])∧wx=w'):=fun wx=>mul_one 0 (by omega) wx
  go_enter Tryz.func96,Tryz.ntmps96
  go_wp2_with (first
   |(go_at_call 104;(with_reducible refine(M0.out _).mono ?_);rintro e w' ⟨rfl,rfl⟩)
   |(at_make;refine wpList_make_full _ rfl _ _ 26 rfl w.heap.size 3 i0 (.int .i64 0) 1 Tryz.underlying26 hi hz0 hz1 .i64 .i64 0 0 0 rfl rfl rfl rfl hb8 (by unfold maxLen;omega) (Nat.le_refl _) ?_;intro w1 hown1 hgrow1)
   |((with_reducible refine wpList_copy_nothing rfl _ _ 26 26 rfl 3 Tryz.underlying26 hisz _ _ _ _ _ _ rfl rfl rfl ?_))
   |fail)
  go_rounds 1
  go_ret
  have G1:=own_block hown1
  rw[filled_none]at G1
  exact⟨w.heap.size,rfl,(Below.refl _ _).grown hgrow1 (Nat.le_refl _) (fun k h=>by cases h),Nat.le_refl _,G1⟩
 ·have hpos' :0<(n:Int):=by omega
  have HM:Hid ((List.replicate 1 (Value.int .i64 noneI)).length=Nat.min 1 n):=by show _=_;rw[List.length_replicate];exact(Nat.min_eq_left hpos).symm
  go_enter Tryz.func96,Tryz.ntmps96
  go_wp2_with (first
   |(go_at_call 104;(with_reducible refine(mul_one n hn _).mono ?_);rintro e w' ⟨rfl,rfl⟩)
   |(at_make;refine wpList_make_full _ rfl _ _ 26 rfl w.heap.size 3 i0 (.int .i64 0) 1 Tryz.underlying26 hi hz0 hz1 .i64 .i64 n n n rfl rfl rfl rfl hb8 (by unfold maxLen;omega) (Nat.le_refl _) ?_;intro w1 hown1 hgrow1;have G1:Hid (w1.heap[w.heap.size]?=some (.cells (filled n 0).toArray 3 (0,0))):=(by rw[←filled_none];exact own_block hown1);have hb1:Below w.heap.size w w1:=(Below.refl _ _).grown hgrow1 (Nat.le_refl _) (fun k h=>by cases h);clear hown1 hgrow1;have SC:Hid (∀ j v,(List.replicate 1 (Value.int .i64 noneI))[j]?=some v→w1.cell? ((⟨b,0,none⟩:Addr).add j)=some v):=(fun j v h=>by(obtain⟨h2,rfl⟩:=List.getElem?_eq_some_iff.1 h;simp at h2;subst h2;simpa[Addr.add]using(hb1.cell (p:=⟨b,0,none⟩) hblt).trans HB.out)))
   |((with_reducible refine wpList_copy_splice rfl _ _ 26 26 rfl 3 Tryz.underlying26 hisz _ _ _ _ _ _ rfl rfl w.heap.size 0 (filled n 0) 3 G1.out (List.replicate 1 (Value.int .i64 noneI)) HM.out (fun _=>⟨rfl,_,rfl,SC.out⟩) (by rw[filled_len (by omega)];simp;omega) (rep_one 1) w.heap.size w hb1 (Nat.le_refl _) ?_;intro w2 G2 hb2))
   |fail)
  have G3:Hid (w2.heap[w.heap.size]?=some (.cells (filled n 1).toArray 3 (0,0))):=by
   have:=G2.out
   rw[filled_more (by omega)]at this
   exact this
  clear G2 G1 SC
  go_loopw [8] (fun i wr=> ∃ q:Nat,1≤q∧q≤n∧i= .int .i64 q∧Below w.heap.size w wr∧Hid (wr.heap[w.heap.size]?=some (.cells (filled n q).toArray 3 (0,0)))) (fun i _=>n - (intOf i).toNat)
  case atStart=>exact⟨1,by omega,by omega,rfl,hb2,G3⟩
  case round=>
   clear G3 hb2
   obtain⟨q,hq1,hq,rfl,hbr,GR⟩:=hrel
   by_cases hqn:q<n
   ·have HM2:Hid ((List.replicate (min q (n - q)) (Value.int .i64 noneI)).length=Nat.min q (n - q)):=by show _=_;rw[List.length_replicate]
    have hqn' :(q:Int)<n:=by omega
    have hcap: ¬ n=q:=by omega
    have SC:Hid (∀ j v,(List.replicate (min q (n - q)) (Value.int .i64 noneI))[j]?=some v→wr.cell? ((⟨w.heap.size,0,none⟩:Addr).add j)=some v):=fun j v h=>by
     obtain⟨h2,rfl⟩:=List.getElem?_eq_some_iff.1 h
     simp at h2
     have:=@filled_at n q j (by omega)
     have g:=GR.out
     rw[Go.WideShapes.add_plain,Nat.zero_add,List.getElem_replicate]
     simp only[World.cell?,g]
     simpa using this
    have HF:Hid (q+(List.replicate (min q (n - q)) (Value.int .i64 noneI)).length≤(filled n q).length):=by show _≤_;rw[filled_len hq,List.length_replicate];omega
    go_wp2_with fail
    go_region_law (refine step_copy_splice rfl (.tmp 41) (.tmp 44) 26 26 rfl 3 Tryz.underlying26 hisz (some ⟨w.heap.size,q,none⟩) (some ⟨w.heap.size,0,none⟩) (n - q) (n - q) q n (by simp[Act.eval,Act.put]) (by simp[Act.eval,Act.put]) w.heap.size q (filled n q) 3 GR.out (List.replicate (min q (n - q)) (Value.int .i64 noneI)) HM2.out (fun _=>⟨rfl,_,rfl,SC.out⟩) HF.out (rep_one _) w.heap.size w hbr.drew (Nat.le_refl _) ?_;intro w4 G4 hb4)
    have G5:Hid (w4.heap[w.heap.size]?=some (.cells (filled n (q+min q (n - q))).toArray 3 (0,0))):=by
     have:=G4.out
     rw[filled_more (by omega)]at this
     exact this
    clear G4 SC HF GR
    have hwrap:IntKind.i64.wrap ((q:Int)+((min q (n - q):Nat):Int))=((q+min q (n - q):Nat):Int):=by rw[IntWalk.i64_in _ (by omega)];push_cast;rfl
    go_frame
    simp only[List.length_replicate,hwrap]
    go_roundw
    case rel=>((repeat apply Exists.intro);exact⟨⟨q+min q (n - q),by omega,by omega,rfl,hb4,G5⟩,rfl⟩)
    case measure=>simp[intOf];omega
   ·obtain rfl:q=n:=by omega
    go_wp2
    go_ret
    exact⟨w.heap.size,rfl,hbr,Nat.le_refl _,GR⟩
def freeRow(n i:Nat):List Int:=(List.range n).map fun k=>if i=k then 0 else noneI
theorem freeRow_len(n i:Nat):(freeRow n i).length=n:=by simp[freeRow]
theorem freeRow_cells(n i:Nat)(hi:i<n):(filled n n).set i (.int .i64 0)=(freeRow n i).map (Value.int .i64):=by
 apply List.ext_getElem
 ·simp[filled,freeRow]
 ·intro j h1 h2
  simp only[List.getElem_set,filled_all,freeRow,List.getElem_map,List.getElem_range,List.getElem_replicate]
  split<;>simp[*]
end Go.Proofs.YtncmghnhfipklaaGreatDoor
/-
  The free matrix as a matrix of the call's own that can be written in place: bound.Free and the reference's freeMatrix.
-/
namespace Go.Proofs.YtncmghnhfipklaaGreatDoor
open Go.RowKit
set_option linter.unusedVariables false
set_option linter.unusedSimpArgs false
def freeG:Mx:=fun r c=>if r=c then 0 else NOB
theorem block_put{w:World}{g i:Nat}{e:TypeId}{cs:List Value}{fr:Nat×Nat}(h:w.heap[g]?=some (.cells cs.toArray e fr))(u:Value):(w.setCell ⟨g,i,none⟩ u).heap[g]?=some (.cells (cs.set i u).toArray e fr):=by
 simp only[World.setCell,Array.getElem?_modify,if_true,h,Option.map_some]
 simp[Array.setIfInBounds]
 intro h;rw[List.set_eq_of_length_le h]
theorem freeRow_cell(n k c:Nat)(hc:c<n):((freeRow n k).map (Value.int .i64)).toArray[c]?=some (.int .i64 (freeG k c)):=by
 simp[freeRow,freeG,List.getElem?_eq_getElem,hc,noneI,NOB]
theorem grid_end{n k:Nat}{w:World}{u:Value}{B:Nat}{xs:List (Nat×(Nat→Int))}(f:Nat→Nat→Int)(h:OwnF (from_ B) B w 26 1 (blkF n) u xs)(x1:xs.length=n)(x2: ∀ r (hr:r<xs.length),(xs[r]).2=f r∧(xs[r]).1<w.heap.size)(x3: ∀ r s (hr:r<xs.length) (hs:s<xs.length),r≠s→(xs[r]).1≠(xs[s]).1):
  ∃ ao cap gs,u= .slice ao n cap∧Grid (from_ B) w ao n cap gs f:=by
 obtain⟨ao',cap',rfl,hG⟩:=h.grid x1 (G:=from_ B) (fun b _ h=>h.elim id id) x3
 exact⟨ao',cap',_,rfl,hG.congr fun r c hr hc=>by
  have:xs.getD r (0,fun _=>0)=xs[r]:=by simp[List.getD,List.getElem?_eq_getElem (show r<xs.length by omega)]
  rw[this,(x2 r (by omega)).1]⟩
theorem xs_more{xs:List (Nat×(Nat→Int))}{f:Nat→Nat→Int}{k a b g:Nat}(h:xs.length=k∧(∀ r (hr:r<xs.length),(xs[r]).2=f r∧(xs[r]).1<a)∧ ∀ r s (hr:r<xs.length) (hs:s<xs.length),r≠s→(xs[r]).1≠(xs[s]).1)(hg:a≤g)(hgb:g<b)(hab:a≤b):
  (xs++[(g,f k)]).length=k+1∧(∀ r (hr:r<(xs++[(g,f k)]).length),((xs++[(g,f k)])[r]).2=f r∧((xs++[(g,f k)])[r]).1<b)∧ ∀ r s (hr:r<(xs++[(g,f k)]).length) (hs:s<(xs++[(g,f k)]).length),r≠s→((xs++[(g,f k)])[r]).1≠((xs++[(g,f k)])[s]).1:=by
 obtain⟨x1,x2,x3⟩:=h
 refine⟨by simp[x1],fun r hr=>?_,fun r s hr hs hrs=>?_⟩
 ·by_cases hrk:r<xs.length
  ·rw[List.getElem_append_left hrk]
   have:=x2 r hrk
   exact⟨this.1,by omega⟩
  ·have hr' :r=xs.length:=by simp at hr;omega
   subst hr'
   rw[List.getElem_append_right (Nat.le_refl _)]
   simp only[Nat.sub_self,List.getElem_cons_zero]
   exact⟨by rw[x1],by omega⟩
 ·by_cases hrk:r<xs.length
  ·by_cases hsk:s<xs.length
   ·rw[List.getElem_append_left hrk,List.getElem_append_left hsk]
    exact x3 r s hrk hsk hrs
   ·have hs' :s=xs.length:=by simp at hs;omega
    subst hs'
    rw[List.getElem_append_left hrk,List.getElem_append_right (Nat.le_refl _)]
    simp only[Nat.sub_self,List.getElem_cons_zero]
    have:=(x2 r hrk).2
    omega
  ·have hr' :r=xs.length:=by simp at hr;omega
   subst hr'
   have hsk:s<xs.length:=by simp at hs;omega
   rw[List.getElem_append_left hsk,List.getElem_append_right (Nat.le_refl _)]
   simp only[Nat.sub_self,List.getElem_cons_zero]
   have:=(x2 s hsk).2
   omega
set_option maxHeartbeats 2000000 in
set_option maxRecDepth 100000 in
theorem free_grid(n:Nat)(hn:n≤12)(w:World):
  Calls Tryz.prog 76 #[.int .i64 n] w fun e w' => ∃ ao' cap' gs,e= .returned (.tuple #[.slice ao' n cap',.int .i64 0])∧Below w.heap.size w w' ∧Grid (from_ w.heap.size) w' ao' n cap' gs freeG:=by
 obtain⟨i1,hi',hy0,hy1,hy2⟩:=info_parts info_ints
 have hn' :(n:Int)≤12:=by omega
 go_enter Tryz.func76,Tryz.ntmps76
 go_wp2_with fail
 go_loopw [4,14] (fun o i wr=> ∃ k:Nat,k≤n∧i= .int .i64 k∧Below w.heap.size w wr∧ ∃ xs:List (Nat×(Nat→Int)),OwnF (from_ w.heap.size) w.heap.size wr 26 1 (blkF n) o xs∧Hid (xs.length=k∧(∀ r (hr:r<xs.length),(xs[r]).2=freeG r∧(xs[r]).1<wr.heap.size)∧ ∀ r s (hr:r<xs.length) (hs:s<xs.length),r≠s→(xs[r]).1≠(xs[s]).1)) (fun _ i _=>n - (intOf i).toNat)
 case atStart=>exact⟨0,by omega,rfl,Below.refl _ _,[],OwnF.empty,rfl,fun r hr=>absurd hr (Nat.not_lt_zero r),fun r s hr=>absurd hr (Nat.not_lt_zero r)⟩
 case round=>
  obtain⟨k,hk,rfl,hbr,xs,hmd,XS⟩:=hrel
  have hwr:w.heap.size≤wr.heap.size:=hbr.size
  have MD:Hid (OwnF (from_ w.heap.size) w.heap.size wr 26 1 (blkF n) _ xs):=hmd
  clear hmd
  by_cases hlt:k<n
  ·have hcn:Hid (∀ wx:World,(wx.alloc (.cells #[.int .i64 1152921504606846976] 3)).cell? ⟨wx.heap.size,0,none⟩=some (.int .i64 1152921504606846976)):=fun wx=>by simp
   go_wp2_with fail
   refine(repeat_any n hn wr.heap.size _ (hcn.out _)).mono ?_
   rintro e w1 ⟨g,rfl,hb1,hg,G1⟩
   have hs1:wr.heap.size+1≤w1.heap.size:=by have:=hb1.size;simpa using this
   have hg' :wr.heap.size+1≤g:=by simpa using hg
   have hglt:g<w1.heap.size:=(Array.getElem?_eq_some_iff.1 G1.out).1
   have c1:w1.cell? ⟨g,k,none⟩=some (.int .i64 noneI):=by
    have:=G1.out
    simp only[World.cell?,this]
    simpa using filled_at hlt
   have f1:w1.frozen? ⟨g,k,none⟩=false:=by
    have:=G1.out
    simp only[World.frozen?,this]
    simp
   have G2:Hid ((w1.setCell ⟨g,k,none⟩ (.int .i64 0)).heap[g]?=some (.cells ((freeRow n k).map (Value.int .i64)).toArray 3 (0,0))):=by
    have:=block_put (i:=k) G1.out (.int .i64 0)
    rw[freeRow_cells n k hlt]at this
    exact this
   have hbB:Below wr.heap.size wr (w1.setCell ⟨g,k,none⟩ (.int .i64 0)):=((Joins.below_alloc1 wr _).trans (hb1.mono (by simp))).setCell (by simp;omega) _
   have M2:=(MD.out.below (blkF_firm n) hbB).alloc (blkF_firm n) (.cells #[.slice (some ⟨g,0,none⟩) n n] 26)
   have HY:Hid (blkF n (off_ (from_ w.heap.size) u4) ((w1.setCell ⟨g,k,none⟩ (.int .i64 0)).alloc (.cells #[.slice (some ⟨g,0,none⟩) n n] 26)) [.slice (some ⟨g,0,none⟩) n n] (g,freeG k)):=by
    refine(blkF_firm n) (off_ (from_ w.heap.size) u4) _ (w1.setCell ⟨g,k,none⟩ (.int .i64 0)) _ _ _ (Same.below (Joins.below_alloc1 _ _)) ⟨off_new MD.out hwr g (by show _≤_;omega),n,_,rfl,Nat.le_refl _,by unfold maxLen;omega,G2.out,fun c hcn=>freeRow_cell n k c hcn⟩
   have hk2:Hid (xs.length=k):=XS.out.1
   have HM2:=Lib.hid M2
   have hw2:w.heap.size≤w1.heap.size:=by omega
   clear M2 G1 G2
   go_wp2_with (first
    |(at_builtin;go_loud (refine wpList_append_F rfl _ _ 78 rfl w.heap.size 26 i1 (.slice none 0 0) 1 24 Tryz.underlying78 hi' hy0 hy1 hy2 rfl (by decide) _ k rfl HM2.out hk2.out (blkF_firm n) (g,freeG k) [.slice (some ⟨g,0,none⟩) n n] ⟨w1.heap.size,0,none⟩ rfl rfl (by simpa using cell_one_new (w1.setCell ⟨g,k,none⟩ (.int .i64 0)) _ _) (fun u hu=>by rw[List.mem_singleton.1 hu];rfl) HY.out (by omega) (by decide) (by simp;omega) ?_);intro ra5 rc5 w5 hown' hgrow hb5)
    |fail)
   have hs5:w1.heap.size+1≤w5.heap.size:=by have:=hb5.size;simpa using this
   exact⟨⟨k+1,by omega,by go_num,((hbr.trans (hbB.mono hwr)).alloc (by simp;omega) _).trans hb5,_,hown',xs_more XS.out (by omega) (by omega) (by omega)⟩,by simp[intOf];omega⟩
  ·obtain rfl:k=n:=by omega
   obtain⟨x1,x2,x3⟩:=XS.out
   obtain⟨ao',cap',gs,e1,hG⟩:=grid_end (k:=k) freeG MD.out x1 x2 x3
   subst e1
   have HGG:=Lib.hid hG
   clear hG x1 x2 x3
   go_wp2
   go_ret2
   exact⟨ao',cap',gs,rfl,hbr,HGG.out⟩
end Go.Proofs.YtncmghnhfipklaaGreatDoor
/-
  The reference's free matrix as a matrix of the call's own that can be written in place.
-/
namespace Go.Proofs.YtncmghnhfipklaaGreatDoor
open Go.RowKit
set_option linter.unusedVariables false
set_option linter.unusedSimpArgs false
set_option maxHeartbeats 2000000 in
set_option maxRecDepth 100000 in
theorem freeMatrix_grid(n:Nat)(hn:n≤12)(w:World):
  Calls Tryz.prog 58 #[.int .i64 n] w fun e w' => ∃ ao' cap' gs,e= .returned (.slice ao' n cap')∧Below w.heap.size w w' ∧Grid (from_ w.heap.size) w' ao' n cap' gs freeG:=by
 obtain⟨i0,hi,hz0,hz1,hz2⟩:=info_parts info_int
 obtain⟨i1,hi',hy0,hy1,hy2⟩:=info_parts info_ints
 go_enter Tryz.func58,Tryz.ntmps58
 go_wp2_with fail
 go_loopw [3,4] (fun o i wr=> ∃ k:Nat,k≤n∧i= .int .i64 k∧Below w.heap.size w wr∧ ∃ xs:List (Nat×(Nat→Int)),OwnF (from_ w.heap.size) w.heap.size wr 26 1 (blkF n) o xs∧Hid (xs.length=k∧(∀ r (hr:r<xs.length),(xs[r]).2=freeG r∧(xs[r]).1<wr.heap.size)∧ ∀ r s (hr:r<xs.length) (hs:s<xs.length),r≠s→(xs[r]).1≠(xs[s]).1)) (fun _ i _=>n - (intOf i).toNat)
 case atStart=>exact⟨0,by omega,rfl,Below.refl _ _,[],OwnF.empty,rfl,fun r hr=>absurd hr (Nat.not_lt_zero r),fun r s hr=>absurd hr (Nat.not_lt_zero r)⟩
 case round=>
  obtain⟨k,hk,rfl,hbr,xs,hown,XS⟩:=hrel
  have hwr:w.heap.size≤wr.heap.size:=hbr.size
  have OW:Hid (OwnF (from_ w.heap.size) w.heap.size wr 26 1 (blkF n) _ xs):=hown
  clear hown
  by_cases hlt:k<n
  ·obtain⟨wo,rfl⟩: ∃ wo:World,wo=wr:=⟨_,rfl⟩
   go_wp2_with fail
   go_loopw [5,6] (fun r j wi=> ∃ q:Nat,q≤n∧j= .int .i64 q∧Below wo.heap.size wo wi∧OwnF (from_ wo.heap.size) wo.heap.size wi 3 1 intF r ((freeRow n k).take q)) (fun _ j _=>n - (intOf j).toNat)
   case atStart=>exact⟨0,by omega,rfl,Below.refl _ _,OwnF.empty⟩
   case round=>
    obtain⟨q,hq,rfl,hbi,hown⟩:=hrel
    have hwi:wo.heap.size≤wr.heap.size:=hbi.size
    have hkk:Hid (((freeRow n k).take q).length=q):=by show _=_;simp[freeRow_len];omega
    by_cases hqn:q<n
    ·have hql:q<(freeRow n k).length:=by rw[freeRow_len];exact hqn
     by_cases hd:k=q
     ·have hv:Hid ((freeRow n k)[q]=0):=by show _=_;simp[freeRow,hd]
      have hdi:decide ((k:Int)=q)=true:=by simp[hd]
      have hdb:((k:Int)==(q:Int))=true:=by simp[hd]
      clear hd
      go_wp2_with (first
       |(at_builtin;refine wpList_append_F rfl _ _ 26 rfl wo.heap.size 3 i0 (.int .i64 0) 1 8 Tryz.underlying26 hi hz0 hz1 hz2 rfl (by decide) _ q rfl (hown.alloc intF_firm _) hkk.out intF_firm 0 [.int .i64 0] ⟨wr.heap.size,0,none⟩ rfl rfl (cell_one_new _ _ _) (fun u hu=>by rw[List.mem_singleton.1 hu];rfl) rfl (by omega) (by decide) (by simp;omega) ?_;intro ra rc w5 hown' hgrow hb5)
       |fail)
      rw[←hv.out,List.take_append_getElem hql]at hown'
      exact⟨⟨q+1,by omega,by go_num,(Below.alloc hbi hwi _).trans hb5,hown'⟩,by simp[intOf];omega⟩
     ·have hv:Hid ((freeRow n k)[q]=noneI):=by show _=_;simp[freeRow,hd]
      have hdi:decide ((k:Int)=q)=false:=by simp;omega
      have hdb:((k:Int)==(q:Int))=false:=by simp;omega
      go_wp2_with (first
       |(at_builtin;refine wpList_append_F rfl _ _ 26 rfl wo.heap.size 3 i0 (.int .i64 0) 1 8 Tryz.underlying26 hi hz0 hz1 hz2 rfl (by decide) _ q rfl (hown.alloc intF_firm _) hkk.out intF_firm noneI [.int .i64 noneI] ⟨wr.heap.size,0,none⟩ rfl rfl (cell_one_new _ _ _) (fun u hu=>by rw[List.mem_singleton.1 hu];rfl) rfl (by omega) (by decide) (by simp;omega) ?_;intro ra rc w5 hown' hgrow hb5)
       |fail)
      rw[←hv.out,List.take_append_getElem hql]at hown'
      exact⟨⟨q+1,by omega,by go_num,(Below.alloc hbi hwi _).trans hb5,hown'⟩,by simp[intOf];omega⟩
    ·have hown2:=hown
     rw[List.take_of_length_le (by rw[freeRow_len];omega)]at hown2
     obtain⟨g,rc,cur,hu5,hg,h1,h2,hh,hc⟩:=own_row hown2 (by rw[freeRow_len];omega)
     rw[freeRow_len]at hu5 h1 hc
     subst hu5
     clear hown2 hown
     have hw1:w.heap.size≤wr.heap.size:=by omega
     have hglt:g<wr.heap.size:=(Array.getElem?_eq_some_iff.1 hh).1
     have HM2:=Lib.hid ((OW.out.below (blkF_firm n) hbi).alloc (blkF_firm n) (.cells #[.slice (some ⟨g,0,none⟩) n rc] 26))
     have HY:Hid (blkF n (off_ (from_ w.heap.size) u3) (wr.alloc (.cells #[.slice (some ⟨g,0,none⟩) n rc] 26)) [.slice (some ⟨g,0,none⟩) n rc] (g,freeG k)):=by
      refine(blkF_firm n) (off_ (from_ w.heap.size) u3) _ wr _ _ _ (Same.below (Joins.below_alloc1 wr _)) ⟨off_new OW.out hwr g hg,rc,cur,rfl,h1,h2,hh,fun c hcn=>?_⟩
      rw[hc c hcn]
      simp[freeRow,freeG,List.getD,List.getElem?_eq_getElem,hcn,noneI,NOB]
     have hk2:Hid (xs.length=k):=XS.out.1
     have HC:=Lib.hid hc
     have HH:=Lib.hid hh
     clear hc hh
     go_wp2_with (first
      |(at_builtin;go_loud (refine wpList_append_F rfl _ _ 78 rfl w.heap.size 26 i1 (.slice none 0 0) 1 24 Tryz.underlying78 hi' hy0 hy1 hy2 rfl (by decide) _ k rfl HM2.out hk2.out (blkF_firm n) (g,freeG k) [.slice (some ⟨g,0,none⟩) n rc] ⟨wr.heap.size,0,none⟩ rfl rfl (cell_one_new _ _ _) (fun u hu=>by rw[List.mem_singleton.1 hu];rfl) HY.out (by omega) (by decide) (by simp;omega) ?_);intro ra5 rc5 w5 hown' hgrow hb5)
      |fail)
     have hs5:wr.heap.size+1≤w5.heap.size:=by have:=hb5.size;simpa using this
     exact⟨⟨k+1,by omega,by go_num,((hbr.trans (hbi.mono hwr)).alloc hw1 _).trans hb5,_,hown',blocks_snoc XS.out (by omega) (by omega) hg⟩,by simp[intOf];omega⟩
  ·obtain rfl:k=n:=by omega
   obtain⟨x1,x2,x3⟩:=XS.out
   obtain⟨ao',cap',gs,e1,hG⟩:=grid_end (k:=k) freeG OW.out x1 x2 x3
   subst e1
   have HGG:=Lib.hid hG
   clear hG x1 x2 x3
   go_wp2
   go_ret
   exact⟨ao',cap',gs,rfl,hbr,HGG.out⟩
end Go.Proofs.YtncmghnhfipklaaGreatDoor
