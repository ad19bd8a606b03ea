/-
  The walk of package bound's shape: the bounds of a relation's points.
-/
import Derived.Test.YtldbgbcabenegaaOpF
namespace Go.Proofs.Ytldbgbcabenegaa
open Go.RowKit
set_option linter.unusedVariables false
set_option linter.unusedSimpArgs false

/-- The bounds of a relation's points; the two points between which its distance lies. -/
def shapeG (g : Mx) (r : Int) : Mx := if r = 1 then (lessG g 1 2 1) else if r = 3 then (lessG (lessG (sameG g 1 2) 0 2 1) 1 3 1) else if r = 5 then (lessG (lessG (lessG g 0 2 1) 2 1 1) 1 3 1) else if r = 7 then (lessG (sameG g 0 2) 1 3 1) else if r = 9 then (lessG (lessG g 2 0 1) 1 3 1) else if r = 11 then (sameG (lessG g 2 0 1) 1 3) else (sameG (sameG g 0 2) 1 3)
def shapeX (r : Int) : Nat := if r = 1 then 1 else if r = 3 then 1 else if r = 5 then 2 else if r = 7 then 1 else if r = 9 then 2 else if r = 11 then 2 else 0
def shapeY (r : Int) : Nat := if r = 1 then 2 else if r = 3 then 2 else if r = 5 then 1 else if r = 7 then 3 else if r = 9 then 0 else if r = 11 then 0 else 2

set_option maxHeartbeats 1000000 in
theorem shape_1 (B : Nat) (ao : Option Addr) (cap : Nat) (gs : Nat → Nat) (g : Mx) (w : World) (hB : B ≤ w.heap.size) (hG : Grid (from_ B) w ao 4 cap gs g) :
    Calls Try.prog 17 #[.slice ao 4 cap, .int .i64 1] w fun e w' => e = .returned (.tuple #[.int .i64 1, .int .i64 2]) ∧ Below B w w' ∧ Grid (from_ B) w' ao 4 cap gs (lessG g 1 2 1) := by
  have HG0 := Lib.hid hG
  clear hG
  go_enter Try.func17, Try.ntmps17
  go_wp2_with fail
  refine (less_any B ao 4 cap gs g 1 2 1 w (by omega) HG0.out (by omega) (by omega) (by omega)).mono ?_
  rintro e w1 ⟨rfl, hb1, hG1⟩
  have hs1 := hb1.size
  have HG1 := Lib.hid hG1
  clear hG1
  go_wp2
  go_ret2
  exact ⟨rfl, hb1, HG1.out⟩

set_option maxHeartbeats 1000000 in
theorem shape_3 (B : Nat) (ao : Option Addr) (cap : Nat) (gs : Nat → Nat) (g : Mx) (w : World) (hB : B ≤ w.heap.size) (hG : Grid (from_ B) w ao 4 cap gs g) :
    Calls Try.prog 17 #[.slice ao 4 cap, .int .i64 3] w fun e w' => e = .returned (.tuple #[.int .i64 1, .int .i64 2]) ∧ Below B w w' ∧ Grid (from_ B) w' ao 4 cap gs (lessG (lessG (sameG g 1 2) 0 2 1) 1 3 1) := by
  have HG0 := Lib.hid hG
  clear hG
  go_enter Try.func17, Try.ntmps17
  go_wp2_with fail
  refine (same_any B ao 4 cap gs g 1 2 w (by omega) HG0.out (by omega) (by omega)).mono ?_
  rintro e w1 ⟨rfl, hb1, hG1⟩
  have hs1 := hb1.size
  have HG1 := Lib.hid hG1
  clear hG1
  go_wp2_with fail
  refine (less_any B ao 4 cap gs (sameG g 1 2) 0 2 1 w1 (by omega) HG1.out (by omega) (by omega) (by omega)).mono ?_
  rintro e w2 ⟨rfl, hb2, hG2⟩
  have hs2 := hb2.size
  have HG2 := Lib.hid hG2
  clear hG2
  go_wp2_with fail
  refine (less_any B ao 4 cap gs (lessG (sameG g 1 2) 0 2 1) 1 3 1 w2 (by omega) HG2.out (by omega) (by omega) (by omega)).mono ?_
  rintro e w3 ⟨rfl, hb3, hG3⟩
  have hs3 := hb3.size
  have HG3 := Lib.hid hG3
  clear hG3
  go_wp2
  go_ret2
  exact ⟨rfl, ((hb1).trans hb2).trans hb3, HG3.out⟩

set_option maxHeartbeats 1000000 in
theorem shape_5 (B : Nat) (ao : Option Addr) (cap : Nat) (gs : Nat → Nat) (g : Mx) (w : World) (hB : B ≤ w.heap.size) (hG : Grid (from_ B) w ao 4 cap gs g) :
    Calls Try.prog 17 #[.slice ao 4 cap, .int .i64 5] w fun e w' => e = .returned (.tuple #[.int .i64 2, .int .i64 1]) ∧ Below B w w' ∧ Grid (from_ B) w' ao 4 cap gs (lessG (lessG (lessG g 0 2 1) 2 1 1) 1 3 1) := by
  have HG0 := Lib.hid hG
  clear hG
  go_enter Try.func17, Try.ntmps17
  go_wp2_with fail
  refine (less_any B ao 4 cap gs g 0 2 1 w (by omega) HG0.out (by omega) (by omega) (by omega)).mono ?_
  rintro e w1 ⟨rfl, hb1, hG1⟩
  have hs1 := hb1.size
  have HG1 := Lib.hid hG1
  clear hG1
  go_wp2_with fail
  refine (less_any B ao 4 cap gs (lessG g 0 2 1) 2 1 1 w1 (by omega) HG1.out (by omega) (by omega) (by omega)).mono ?_
  rintro e w2 ⟨rfl, hb2, hG2⟩
  have hs2 := hb2.size
  have HG2 := Lib.hid hG2
  clear hG2
  go_wp2_with fail
  refine (less_any B ao 4 cap gs (lessG (lessG g 0 2 1) 2 1 1) 1 3 1 w2 (by omega) HG2.out (by omega) (by omega) (by omega)).mono ?_
  rintro e w3 ⟨rfl, hb3, hG3⟩
  have hs3 := hb3.size
  have HG3 := Lib.hid hG3
  clear hG3
  go_wp2
  go_ret2
  exact ⟨rfl, ((hb1).trans hb2).trans hb3, HG3.out⟩

set_option maxHeartbeats 1000000 in
theorem shape_7 (B : Nat) (ao : Option Addr) (cap : Nat) (gs : Nat → Nat) (g : Mx) (w : World) (hB : B ≤ w.heap.size) (hG : Grid (from_ B) w ao 4 cap gs g) :
    Calls Try.prog 17 #[.slice ao 4 cap, .int .i64 7] w fun e w' => e = .returned (.tuple #[.int .i64 1, .int .i64 3]) ∧ Below B w w' ∧ Grid (from_ B) w' ao 4 cap gs (lessG (sameG g 0 2) 1 3 1) := by
  have HG0 := Lib.hid hG
  clear hG
  go_enter Try.func17, Try.ntmps17
  go_wp2_with fail
  refine (same_any B ao 4 cap gs g 0 2 w (by omega) HG0.out (by omega) (by omega)).mono ?_
  rintro e w1 ⟨rfl, hb1, hG1⟩
  have hs1 := hb1.size
  have HG1 := Lib.hid hG1
  clear hG1
  go_wp2_with fail
  refine (less_any B ao 4 cap gs (sameG g 0 2) 1 3 1 w1 (by omega) HG1.out (by omega) (by omega) (by omega)).mono ?_
  rintro e w2 ⟨rfl, hb2, hG2⟩
  have hs2 := hb2.size
  have HG2 := Lib.hid hG2
  clear hG2
  go_wp2
  go_ret2
  exact ⟨rfl, (hb1).trans hb2, HG2.out⟩

set_option maxHeartbeats 1000000 in
theorem shape_9 (B : Nat) (ao : Option Addr) (cap : Nat) (gs : Nat → Nat) (g : Mx) (w : World) (hB : B ≤ w.heap.size) (hG : Grid (from_ B) w ao 4 cap gs g) :
    Calls Try.prog 17 #[.slice ao 4 cap, .int .i64 9] w fun e w' => e = .returned (.tuple #[.int .i64 2, .int .i64 0]) ∧ Below B w w' ∧ Grid (from_ B) w' ao 4 cap gs (lessG (lessG g 2 0 1) 1 3 1) := by
  have HG0 := Lib.hid hG
  clear hG
  go_enter Try.func17, Try.ntmps17
  go_wp2_with fail
  refine (less_any B ao 4 cap gs g 2 0 1 w (by omega) HG0.out (by omega) (by omega) (by omega)).mono ?_
  rintro e w1 ⟨rfl, hb1, hG1⟩
  have hs1 := hb1.size
  have HG1 := Lib.hid hG1
  clear hG1
  go_wp2_with fail
  refine (less_any B ao 4 cap gs (lessG g 2 0 1) 1 3 1 w1 (by omega) HG1.out (by omega) (by omega) (by omega)).mono ?_
  rintro e w2 ⟨rfl, hb2, hG2⟩
  have hs2 := hb2.size
  have HG2 := Lib.hid hG2
  clear hG2
  go_wp2
  go_ret2
  exact ⟨rfl, (hb1).trans hb2, HG2.out⟩

set_option maxHeartbeats 1000000 in
theorem shape_11 (B : Nat) (ao : Option Addr) (cap : Nat) (gs : Nat → Nat) (g : Mx) (w : World) (hB : B ≤ w.heap.size) (hG : Grid (from_ B) w ao 4 cap gs g) :
    Calls Try.prog 17 #[.slice ao 4 cap, .int .i64 11] w fun e w' => e = .returned (.tuple #[.int .i64 2, .int .i64 0]) ∧ Below B w w' ∧ Grid (from_ B) w' ao 4 cap gs (sameG (lessG g 2 0 1) 1 3) := by
  have HG0 := Lib.hid hG
  clear hG
  go_enter Try.func17, Try.ntmps17
  go_wp2_with fail
  refine (less_any B ao 4 cap gs g 2 0 1 w (by omega) HG0.out (by omega) (by omega) (by omega)).mono ?_
  rintro e w1 ⟨rfl, hb1, hG1⟩
  have hs1 := hb1.size
  have HG1 := Lib.hid hG1
  clear hG1
  go_wp2_with fail
  refine (same_any B ao 4 cap gs (lessG g 2 0 1) 1 3 w1 (by omega) HG1.out (by omega) (by omega)).mono ?_
  rintro e w2 ⟨rfl, hb2, hG2⟩
  have hs2 := hb2.size
  have HG2 := Lib.hid hG2
  clear hG2
  go_wp2
  go_ret2
  exact ⟨rfl, (hb1).trans hb2, HG2.out⟩

set_option maxHeartbeats 1000000 in
theorem shape_13 (B : Nat) (ao : Option Addr) (cap : Nat) (gs : Nat → Nat) (g : Mx) (r : Int) (w : World) (hB : B ≤ w.heap.size) (hG : Grid (from_ B) w ao 4 cap gs g) (h1 : ¬ r = 1) (h3 : ¬ r = 3) (h5 : ¬ r = 5) (h7 : ¬ r = 7) (h9 : ¬ r = 9) (h11 : ¬ r = 11) :
    Calls Try.prog 17 #[.slice ao 4 cap, .int .i64 r] w fun e w' => e = .returned (.tuple #[.int .i64 0, .int .i64 2]) ∧ Below B w w' ∧ Grid (from_ B) w' ao 4 cap gs (sameG (sameG g 0 2) 1 3) := by
  have q1 : (r == 1) = false := by simpa using h1
  have q3 : (r == 3) = false := by simpa using h3
  have q5 : (r == 5) = false := by simpa using h5
  have q7 : (r == 7) = false := by simpa using h7
  have q9 : (r == 9) = false := by simpa using h9
  have q11 : (r == 11) = false := by simpa using h11
  clear h1 h3 h5 h7 h9 h11
  have HG0 := Lib.hid hG
  clear hG
  go_enter Try.func17, Try.ntmps17
  go_wp2_with fail
  refine (same_any B ao 4 cap gs g 0 2 w (by omega) HG0.out (by omega) (by omega)).mono ?_
  rintro e w1 ⟨rfl, hb1, hG1⟩
  have hs1 := hb1.size
  have HG1 := Lib.hid hG1
  clear hG1
  go_wp2_with fail
  refine (same_any B ao 4 cap gs (sameG g 0 2) 1 3 w1 (by omega) HG1.out (by omega) (by omega)).mono ?_
  rintro e w2 ⟨rfl, hb2, hG2⟩
  have hs2 := hb2.size
  have HG2 := Lib.hid hG2
  clear hG2
  go_wp2
  go_ret2
  exact ⟨rfl, (hb1).trans hb2, HG2.out⟩

theorem shape_any (B : Nat) (ao : Option Addr) (cap : Nat) (gs : Nat → Nat) (g : Mx) (r : Int) (w : World) (hB : B ≤ w.heap.size) (hG : Grid (from_ B) w ao 4 cap gs g) :
    Calls Try.prog 17 #[.slice ao 4 cap, .int .i64 r] w fun e w' => e = .returned (.tuple #[.int .i64 (shapeX r), .int .i64 (shapeY r)]) ∧ Below B w w' ∧ Grid (from_ B) w' ao 4 cap gs (shapeG g r) := by
  by_cases h1 : r = 1
  · subst h1; exact shape_1 B ao cap gs g w hB hG
  by_cases h3 : r = 3
  · subst h3; exact shape_3 B ao cap gs g w hB hG
  by_cases h5 : r = 5
  · subst h5; exact shape_5 B ao cap gs g w hB hG
  by_cases h7 : r = 7
  · subst h7; exact shape_7 B ao cap gs g w hB hG
  by_cases h9 : r = 9
  · subst h9; exact shape_9 B ao cap gs g w hB hG
  by_cases h11 : r = 11
  · subst h11; exact shape_11 B ao cap gs g w hB hG
  have hg : shapeG g r = (sameG (sameG g 0 2) 1 3) := by unfold shapeG; rw [if_neg h1, if_neg h3, if_neg h5, if_neg h7, if_neg h9, if_neg h11]
  have hx : shapeX r = 0 := by unfold shapeX; rw [if_neg h1, if_neg h3, if_neg h5, if_neg h7, if_neg h9, if_neg h11]
  have hy : shapeY r = 2 := by unfold shapeY; rw [if_neg h1, if_neg h3, if_neg h5, if_neg h7, if_neg h9, if_neg h11]
  rw [hg, hx, hy]
  exact shape_13 B ao cap gs g r w hB hG h1 h3 h5 h7 h9 h11
end Go.Proofs.Ytldbgbcabenegaa
