/-
  The walk of package bound's one: the bounds of an option. Printed by opo.py.
-/
import Derived.Test.YtldbgbcabenegaaOpE
import Derived.Test.YtldbgbcabenegaaFwD
namespace Go.Proofs.Ytldbgbcabenegaa
open Go.RowKit
set_option linter.unusedVariables false
set_option linter.unusedSimpArgs false

def backR (r : Int) : Bool := decide (r ≠ 13 ∧ r % 2 = 0)
def oddR (r : Int) : Int := if backR r = true then r - 1 else r
def baseG : Mx := lessG (lessG freeG 0 1 0) 2 3 0
def midG (r lo hi : Int) : Mx := farG (shapeG baseG (oddR r)) (shapeX (oddR r)) (shapeY (oddR r)) lo hi
def optG (r lo hi : Int) : Mx := fun a b => if backR r = true then shutF 4 (midG r lo hi) (sw a) (sw b) else shutF 4 (midG r lo hi) a b
/-- The bounds of an option; none: it can never be. -/
def optL (r lo hi : Int) : Option (List (List Int)) := if okb 4 (shutF 4 (midG r lo hi)) = true then some (gridL 4 (optG r lo hi)) else none
def OnePost (m : Option (List (List Int))) (w : World) (x : Ending) (w' : World) : Prop :=
  (m = none ∧ x = .returned (.tuple #[.slice none 0 0, .bool false]) ∧ Below w.heap.size w w') ∨
  (∃ l ao cap, m = some l ∧ l.length = 4 ∧ x = .returned (.tuple #[.slice ao 4 cap, .bool true]) ∧ Below w.heap.size w w' ∧ SlF (from_ w.heap.size) w' 1 lineF ao 4 cap l)
theorem shapeX_lt (r : Int) : shapeX r < 4 := by unfold shapeX; (repeat' split) <;> decide
theorem shapeY_lt (r : Int) : shapeY r < 4 := by unfold shapeY; (repeat' split) <;> decide
theorem thirteen {r : Int} (h : 1 ≤ r ∧ r ≤ 13) : r = 1 ∨ r = 2 ∨ r = 3 ∨ r = 4 ∨ r = 5 ∨ r = 6 ∨ r = 7 ∨ r = 8 ∨ r = 9 ∨ r = 10 ∨ r = 11 ∨ r = 12 ∨ r = 13 := by omega

set_option maxHeartbeats 2000000 in
set_option maxRecDepth 100000 in
theorem one_odd (r lo hi : Int) (w : World) (hr : 1 ≤ r ∧ r ≤ 13) (hl : 0 ≤ lo ∧ lo ≤ 1073741824) (h13 : ¬ r = 13) (hb : backR r = false) :
    Calls Try.prog 8 #[.agg #[.int .i64 r, .int .i64 lo, .int .i64 hi]] w (OnePost (optL r lo hi) w) := by
  have ho : oddR r = r := by unfold oddR; rw [hb]; rfl
  have HM : Hid (midG r lo hi = farG (shapeG baseG (r)) (shapeX (r)) (shapeY (r)) lo hi) := by show _ = _; unfold midG; rw [ho]
  have HB := Lib.hid hb
  have hx := shapeX_lt (r)
  have hy := shapeY_lt (r)
  clear hb ho
  have q1 : (r != 13) = true := by simpa using h13
  have q2 : (r % 2 == 0) = false := by have := HB.out; unfold backR at this; simp at this; have := this h13; simp; omega
  go_enter Try.func8, Try.ntmps8
  go_wp2_with fail
  refine (free_grid 4 (by omega) _).mono ?_
  rintro e w1 ⟨ao1, cap1, gs, rfl, hb1, hG1⟩
  have c1 := hb1.cell (p := ⟨w.heap.size, 1, none⟩) (by simp)
  have c2 := hb1.cell (p := ⟨w.heap.size, 2, none⟩) (by simp)
  simp at c1 c2
  have hs1 := hb1.size
  have hbw : Below w.heap.size w w1 := (Joins.below_alloc1 w _).trans (hb1.mono (by simp))
  simp only [World.size_alloc] at hs1 hG1
  have G1 := Lib.hid hG1
  clear hb1 hG1
  go_wp2_with fail
  refine (less_any (w.heap.size + 1) ao1 4 cap1 gs _ 0 1 0 w1 (by omega) G1.out (by omega) (by omega) (by omega)).mono ?_
  rintro e w2 ⟨rfl, hb2, hG2⟩
  have hs2 := hb2.size
  have c3 := (hb2.cell (p := ⟨w.heap.size, 1, none⟩) (by simp)).trans c1
  have c4 := (hb2.cell (p := ⟨w.heap.size, 2, none⟩) (by simp)).trans c2
  have G2 := Lib.hid hG2
  clear hG2 c1 c2 G1
  go_wp2_with fail
  refine (less_any (w.heap.size + 1) ao1 4 cap1 gs _ 2 3 0 w2 (by omega) G2.out (by omega) (by omega) (by omega)).mono ?_
  rintro e w3 ⟨rfl, hb3, hG3⟩
  have hs3 := hb3.size
  have c1 := (hb3.cell (p := ⟨w.heap.size, 1, none⟩) (by simp)).trans c3
  have c2 := (hb3.cell (p := ⟨w.heap.size, 2, none⟩) (by simp)).trans c4
  have G3 : Hid (Grid (from_ (w.heap.size + 1)) w3 ao1 4 cap1 gs baseG) := hG3
  clear hG3 c3 c4 G2
  go_wp2_with fail
  refine (shape_any (w.heap.size + 1) ao1 cap1 gs _ (r) w3 (by omega) G3.out).mono ?_
  rintro e w4 ⟨rfl, hb4, hG4⟩
  have hs4 := hb4.size
  have c3 := (hb4.cell (p := ⟨w.heap.size, 1, none⟩) (by simp)).trans c1
  have c4 := (hb4.cell (p := ⟨w.heap.size, 2, none⟩) (by simp)).trans c2
  have G4 := Lib.hid hG4
  clear hG4 c1 c2 G3
  have HM2 := HM
  generalize shapeX (r) = px at *
  generalize shapeY (r) = py at *
  generalize shapeG baseG (r) = gq at *
  go_wp2_with fail
  refine (far_any (w.heap.size + 1) ao1 4 cap1 gs _ px py lo hi w4 (by omega) G4.out hx hy (by omega)).mono ?_
  rintro e w5 ⟨rfl, hb5, hG5⟩
  have hs5 := hb5.size
  have GM : Hid (Grid (from_ (w.heap.size + 1)) w5 ao1 4 cap1 gs (midG r lo hi)) := by show Grid _ _ _ _ _ _ _; rw [HM2.out]; exact hG5
  clear hG5 HM HM2 G4 c3 c4
  have hbz : Below w.heap.size w w5 := hbw.trans ((((hb2.trans hb3).trans hb4).trans hb5).mono (by omega))
  clear hbw hb2 hb3 hb4 hb5
  generalize hmid : midG r lo hi = mm at *
  have HMM := Lib.hid hmid
  clear hmid
  go_wp2_with fail
  refine (shut_any (w.heap.size + 1) ao1 4 cap1 gs mm w5 (by omega) GM.out).mono ?_
  rintro e w6 ⟨rfl, hb6, hG6⟩
  have hs6 := hb6.size
  have G6 := Lib.hid hG6
  clear hG6 GM
  cases hok : okb 4 (shutF 4 mm) with
  | false =>
    have HOK := Lib.hid hok
    clear hok
    go_wp2
    go_ret2
    refine Or.inl ⟨?_, rfl, hbz.trans (hb6.mono (by omega))⟩
    unfold optL
    rw [HMM.out, HOK.out]
    rfl
  | true =>
    have HOK := Lib.hid hok
    clear hok
    go_wp2
    go_ret2
    refine Or.inr ⟨gridL 4 (optG r lo hi), ao1, cap1, ?_, by simp [gridL], rfl, hbz.trans (hb6.mono (by omega)), ?_⟩
    · unfold optL
      rw [HMM.out, HOK.out]
      rfl
    · refine ((G6.out.congr fun a b _ _ => ?_).same (Same.wide fun b hb _ => Nat.le_of_succ_le hb)).toF (by omega)
      unfold optG
      rw [HB.out, HMM.out]
      rfl

set_option maxHeartbeats 2000000 in
set_option maxRecDepth 100000 in
theorem one_thirteen (lo hi : Int) (w : World) (hl : 0 ≤ lo ∧ lo ≤ 1073741824)  (hb : backR 13 = false) :
    Calls Try.prog 8 #[.agg #[.int .i64 13, .int .i64 lo, .int .i64 hi]] w (OnePost (optL 13 lo hi) w) := by
  have ho : oddR 13 = 13 := by unfold oddR; rw [hb]; rfl
  have HM : Hid (midG 13 lo hi = farG (shapeG baseG (13)) (shapeX (13)) (shapeY (13)) lo hi) := by show _ = _; unfold midG; rw [ho]
  have HB := Lib.hid hb
  have hx := shapeX_lt (13)
  have hy := shapeY_lt (13)
  clear hb ho
  go_enter Try.func8, Try.ntmps8
  go_wp2_with fail
  refine (free_grid 4 (by omega) _).mono ?_
  rintro e w1 ⟨ao1, cap1, gs, rfl, hb1, hG1⟩
  have c1 := hb1.cell (p := ⟨w.heap.size, 1, none⟩) (by simp)
  have c2 := hb1.cell (p := ⟨w.heap.size, 2, none⟩) (by simp)
  simp at c1 c2
  have hs1 := hb1.size
  have hbw : Below w.heap.size w w1 := (Joins.below_alloc1 w _).trans (hb1.mono (by simp))
  simp only [World.size_alloc] at hs1 hG1
  have G1 := Lib.hid hG1
  clear hb1 hG1
  go_wp2_with fail
  refine (less_any (w.heap.size + 1) ao1 4 cap1 gs _ 0 1 0 w1 (by omega) G1.out (by omega) (by omega) (by omega)).mono ?_
  rintro e w2 ⟨rfl, hb2, hG2⟩
  have hs2 := hb2.size
  have c3 := (hb2.cell (p := ⟨w.heap.size, 1, none⟩) (by simp)).trans c1
  have c4 := (hb2.cell (p := ⟨w.heap.size, 2, none⟩) (by simp)).trans c2
  have G2 := Lib.hid hG2
  clear hG2 c1 c2 G1
  go_wp2_with fail
  refine (less_any (w.heap.size + 1) ao1 4 cap1 gs _ 2 3 0 w2 (by omega) G2.out (by omega) (by omega) (by omega)).mono ?_
  rintro e w3 ⟨rfl, hb3, hG3⟩
  have hs3 := hb3.size
  have c1 := (hb3.cell (p := ⟨w.heap.size, 1, none⟩) (by simp)).trans c3
  have c2 := (hb3.cell (p := ⟨w.heap.size, 2, none⟩) (by simp)).trans c4
  have G3 : Hid (Grid (from_ (w.heap.size + 1)) w3 ao1 4 cap1 gs baseG) := hG3
  clear hG3 c3 c4 G2
  go_wp2_with fail
  refine (shape_any (w.heap.size + 1) ao1 cap1 gs _ (13) w3 (by omega) G3.out).mono ?_
  rintro e w4 ⟨rfl, hb4, hG4⟩
  have hs4 := hb4.size
  have c3 := (hb4.cell (p := ⟨w.heap.size, 1, none⟩) (by simp)).trans c1
  have c4 := (hb4.cell (p := ⟨w.heap.size, 2, none⟩) (by simp)).trans c2
  have G4 := Lib.hid hG4
  clear hG4 c1 c2 G3
  have HM2 := HM
  generalize shapeX (13) = px at *
  generalize shapeY (13) = py at *
  generalize shapeG baseG (13) = gq at *
  go_wp2_with fail
  refine (far_any (w.heap.size + 1) ao1 4 cap1 gs _ px py lo hi w4 (by omega) G4.out hx hy (by omega)).mono ?_
  rintro e w5 ⟨rfl, hb5, hG5⟩
  have hs5 := hb5.size
  have GM : Hid (Grid (from_ (w.heap.size + 1)) w5 ao1 4 cap1 gs (midG 13 lo hi)) := by show Grid _ _ _ _ _ _ _; rw [HM2.out]; exact hG5
  clear hG5 HM HM2 G4 c3 c4
  have hbz : Below w.heap.size w w5 := hbw.trans ((((hb2.trans hb3).trans hb4).trans hb5).mono (by omega))
  clear hbw hb2 hb3 hb4 hb5
  generalize hmid : midG 13 lo hi = mm at *
  have HMM := Lib.hid hmid
  clear hmid
  go_wp2_with fail
  refine (shut_any (w.heap.size + 1) ao1 4 cap1 gs mm w5 (by omega) GM.out).mono ?_
  rintro e w6 ⟨rfl, hb6, hG6⟩
  have hs6 := hb6.size
  have G6 := Lib.hid hG6
  clear hG6 GM
  cases hok : okb 4 (shutF 4 mm) with
  | false =>
    have HOK := Lib.hid hok
    clear hok
    go_wp2
    go_ret2
    refine Or.inl ⟨?_, rfl, hbz.trans (hb6.mono (by omega))⟩
    unfold optL
    rw [HMM.out, HOK.out]
    rfl
  | true =>
    have HOK := Lib.hid hok
    clear hok
    go_wp2
    go_ret2
    refine Or.inr ⟨gridL 4 (optG 13 lo hi), ao1, cap1, ?_, by simp [gridL], rfl, hbz.trans (hb6.mono (by omega)), ?_⟩
    · unfold optL
      rw [HMM.out, HOK.out]
      rfl
    · refine ((G6.out.congr fun a b _ _ => ?_).same (Same.wide fun b hb _ => Nat.le_of_succ_le hb)).toF (by omega)
      unfold optG
      rw [HB.out, HMM.out]
      rfl

set_option maxHeartbeats 2000000 in
set_option maxRecDepth 100000 in
theorem one_even (r lo hi : Int) (w : World) (hr : 1 ≤ r ∧ r ≤ 13) (hl : 0 ≤ lo ∧ lo ≤ 1073741824) (h13 : ¬ r = 13) (hb : backR r = true) :
    Calls Try.prog 8 #[.agg #[.int .i64 r, .int .i64 lo, .int .i64 hi]] w (OnePost (optL r lo hi) w) := by
  have ho : oddR r = r - 1 := by unfold oddR; rw [hb]; rfl
  have HM : Hid (midG r lo hi = farG (shapeG baseG (r - 1)) (shapeX (r - 1)) (shapeY (r - 1)) lo hi) := by show _ = _; unfold midG; rw [ho]
  have HB := Lib.hid hb
  have hx := shapeX_lt (r - 1)
  have hy := shapeY_lt (r - 1)
  clear hb ho
  have q1 : (r != 13) = true := by simpa using h13
  have q2 : (r % 2 == 0) = true := by have := HB.out; unfold backR at this; simp at this; simp; omega
  have q3 : IntKind.i64.wrap (r - 1) = r - 1 := IntWalk.i64_in _ (by omega)
  go_enter Try.func8, Try.ntmps8
  go_wp2_with fail
  refine (free_grid 4 (by omega) _).mono ?_
  rintro e w1 ⟨ao1, cap1, gs, rfl, hb1, hG1⟩
  have c1 := hb1.cell (p := ⟨w.heap.size, 1, none⟩) (by simp)
  have c2 := hb1.cell (p := ⟨w.heap.size, 2, none⟩) (by simp)
  simp at c1 c2
  have hs1 := hb1.size
  have hbw : Below w.heap.size w w1 := (Joins.below_alloc1 w _).trans (hb1.mono (by simp))
  simp only [World.size_alloc] at hs1 hG1
  have G1 := Lib.hid hG1
  clear hb1 hG1
  go_wp2_with fail
  refine (less_any (w.heap.size + 1) ao1 4 cap1 gs _ 0 1 0 w1 (by omega) G1.out (by omega) (by omega) (by omega)).mono ?_
  rintro e w2 ⟨rfl, hb2, hG2⟩
  have hs2 := hb2.size
  have c3 := (hb2.cell (p := ⟨w.heap.size, 1, none⟩) (by simp)).trans c1
  have c4 := (hb2.cell (p := ⟨w.heap.size, 2, none⟩) (by simp)).trans c2
  have G2 := Lib.hid hG2
  clear hG2 c1 c2 G1
  go_wp2_with fail
  refine (less_any (w.heap.size + 1) ao1 4 cap1 gs _ 2 3 0 w2 (by omega) G2.out (by omega) (by omega) (by omega)).mono ?_
  rintro e w3 ⟨rfl, hb3, hG3⟩
  have hs3 := hb3.size
  have c1 := (hb3.cell (p := ⟨w.heap.size, 1, none⟩) (by simp)).trans c3
  have c2 := (hb3.cell (p := ⟨w.heap.size, 2, none⟩) (by simp)).trans c4
  have G3 : Hid (Grid (from_ (w.heap.size + 1)) w3 ao1 4 cap1 gs baseG) := hG3
  clear hG3 c3 c4 G2
  go_wp2_with fail
  refine (shape_any (w.heap.size + 1) ao1 cap1 gs _ (r - 1) w3 (by omega) G3.out).mono ?_
  rintro e w4 ⟨rfl, hb4, hG4⟩
  have hs4 := hb4.size
  have c3 := (hb4.cell (p := ⟨w.heap.size, 1, none⟩) (by simp)).trans c1
  have c4 := (hb4.cell (p := ⟨w.heap.size, 2, none⟩) (by simp)).trans c2
  have G4 := Lib.hid hG4
  clear hG4 c1 c2 G3
  have HM2 := HM
  generalize shapeX (r - 1) = px at *
  generalize shapeY (r - 1) = py at *
  generalize shapeG baseG (r - 1) = gq at *
  go_wp2_with fail
  refine (far_any (w.heap.size + 1) ao1 4 cap1 gs _ px py lo hi w4 (by omega) G4.out hx hy (by omega)).mono ?_
  rintro e w5 ⟨rfl, hb5, hG5⟩
  have hs5 := hb5.size
  have GM : Hid (Grid (from_ (w.heap.size + 1)) w5 ao1 4 cap1 gs (midG r lo hi)) := by show Grid _ _ _ _ _ _ _; rw [HM2.out]; exact hG5
  clear hG5 HM HM2 G4 c3 c4
  have hbz : Below w.heap.size w w5 := hbw.trans ((((hb2.trans hb3).trans hb4).trans hb5).mono (by omega))
  clear hbw hb2 hb3 hb4 hb5
  generalize hmid : midG r lo hi = mm at *
  have HMM := Lib.hid hmid
  clear hmid
  go_wp2_with fail
  refine (shut_any (w.heap.size + 1) ao1 4 cap1 gs mm w5 (by omega) GM.out).mono ?_
  rintro e w6 ⟨rfl, hb6, hG6⟩
  have hs6 := hb6.size
  have G6 := Lib.hid hG6
  clear hG6 GM
  cases hok : okb 4 (shutF 4 mm) with
  | false =>
    have HOK := Lib.hid hok
    clear hok
    go_wp2
    go_ret2
    refine Or.inl ⟨?_, rfl, hbz.trans (hb6.mono (by omega))⟩
    unfold optL
    rw [HMM.out, HOK.out]
    rfl
  | true =>
    have HOK := Lib.hid hok
    clear hok
    go_wp2_with fail
    refine (turned_any (w.heap.size + 1) ao1 cap1 gs _ w6 (by omega) G6.out).mono ?_
    rintro e w7 ⟨ao7, cap7, gs7, rfl, hb7, hG7⟩
    have G7 := Lib.hid hG7
    clear hG7
    go_wp2
    go_ret2
    refine Or.inr ⟨gridL 4 (optG r lo hi), ao7, cap7, ?_, by simp [gridL], rfl, (hbz.trans (hb6.mono (by omega))).trans (hb7.mono (by omega)), ?_⟩
    · unfold optL
      rw [HMM.out, HOK.out]
      rfl
    · refine ((G7.out.congr fun a b _ _ => ?_).same (Same.wide fun b hb _ => by unfold from_ at *; omega)).toF (by omega)
      unfold optG
      rw [HB.out, HMM.out]
      rfl

theorem one_any (r lo hi : Int) (w : World) (hr : 1 ≤ r ∧ r ≤ 13) (hl : 0 ≤ lo ∧ lo ≤ 1073741824) :
    Calls Try.prog 8 #[.agg #[.int .i64 r, .int .i64 lo, .int .i64 hi]] w (OnePost (optL r lo hi) w) := by
  cases hb : backR r with
  | true =>
    refine one_even r lo hi w hr hl (fun e => ?_) hb
    unfold backR at hb
    simp at hb
    exact hb.1 e
  | false =>
    by_cases h13 : r = 13
    · subst h13
      exact one_thirteen lo hi w hl hb
    · exact one_odd r lo hi w hr hl h13 hb
end Go.Proofs.Ytldbgbcabenegaa
