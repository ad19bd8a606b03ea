/-
  The walks of package tick and of its reference: each function answers what the plain functions below say, and leaves what was there as it was.
-/
import Derived.Test.YtbambidojppklaaProg
import Derived.WalkKit
import Derived.WalkSpells
import Derived.WalkLawsBesides
import Derived.Deep.Light
import Derived.Deep.QuietTactic
import Derived.BigQuiet
import Derived.Lib.SmallJoins
namespace Go.Proofs.Ytbambidojppklaa
open Go.RowKit
set_option linter.unusedVariables false
set_option linter.unusedSimpArgs false

theorem ret_int {k : IntKind} {a b : Int} (h : a = b) : Ending.returned (.int k a) = .returned (.int k b) := by rw [h]
/-- What a span is refused for (0: nothing). -/
def spanE (a b : Int) : Int := if (0 ≤ a ∧ a ≤ 1099511627776) ∧ (0 ≤ b ∧ b ≤ 1099511627776) then (if b < a then 11 else 0) else 2
/-- What two spans are refused for. -/
def bothE (a b c d : Int) : Int := if spanE a b = 0 then spanE c d else spanE a b
/-- What an option is refused for. -/
def optE (r l h : Int) : Int := if 1 ≤ r ∧ r ≤ 13 then (if (0 ≤ l ∧ l ≤ 1073741824) ∧ (-1 ≤ h ∧ h ≤ 1073741824) then (if h ≠ -1 ∧ h < l then 11 else 0) else 2) else 3
/-- Does a relation hold? -/
def relB (r a b c d : Int) : Bool :=
  if r = 1 then decide (b < c) else if r = 2 then decide (d < a)
  else if r = 3 then decide (b = c ∧ a < c ∧ b < d) else if r = 4 then decide (d = a ∧ c < a ∧ d < b)
  else if r = 5 then decide (a < c ∧ c < b ∧ b < d) else if r = 6 then decide (c < a ∧ a < d ∧ d < b)
  else if r = 7 then decide (a = c ∧ b < d) else if r = 8 then decide (c = a ∧ d < b)
  else if r = 9 then decide (c < a ∧ b < d) else if r = 10 then decide (a < c ∧ d < b)
  else if r = 11 then decide (c < a ∧ b = d) else if r = 12 then decide (a < c ∧ d = b)
  else decide (a = c ∧ b = d)

/-- Is a number from low to high? -/
def inB (n lo hi : Int) : Bool := decide (lo ≤ n ∧ n ≤ hi)
theorem inB_true {n lo hi : Int} : inB n lo hi = true ↔ lo ≤ n ∧ n ≤ hi := by simp [inB]
theorem inB_false {n lo hi : Int} : inB n lo hi = false ↔ ¬ (lo ≤ n ∧ n ≤ hi) := by simp [inB]
theorem ret_bool {a b : Bool} (h : a = b) : Ending.returned (.bool a) = .returned (.bool b) := by rw [h]
set_option maxHeartbeats 400000 in
theorem in_any (n lo hi : Int) (w : World) :
    Calls Try.prog 31 #[.int .i64 n, .int .i64 lo, .int .i64 hi] w fun e w' => e = .returned (.bool (inB n lo hi)) ∧ w = w' := by
  go_enter Try.func31, Try.ntmps31
  go_wp2
  all_goals (go_ret; refine ⟨?_, rfl⟩; exact ret_bool (by go_light; unfold inB; first | (simp; done) | (rw [Bool.eq_iff_iff]; simp []; done) | (rw [Bool.eq_iff_iff]; simp []; omega)))
set_option maxHeartbeats 400000 in
theorem relation_any (n : Int) (w : World) :
    Calls Try.prog 30 #[.int .i64 n] w fun e w' => e = .returned (.bool (inB n 1 13)) ∧ w = w' := by
  go_enter Try.func30, Try.ntmps30
  go_wp2
  all_goals (go_ret; refine ⟨?_, rfl⟩; exact ret_bool (by go_light; unfold inB; first | (simp; done) | (rw [Bool.eq_iff_iff]; simp []; done) | (rw [Bool.eq_iff_iff]; simp []; omega)))
set_option maxHeartbeats 400000 in
theorem check_any (a b : Int) (w : World) :
    Calls Try.prog 14 #[.agg #[.int .i64 a, .int .i64 b]] w fun e w' => e = .returned (.int .i64 (spanE a b)) ∧ Below w.heap.size w w' := by
  go_enter Try.func14, Try.ntmps14
  go_wp2
  all_goals (go_ret; refine ⟨?_, (by repeat (first | exact Below.refl _ _ | assumption | refine below_step ?_ (by assumption) | (refine Below.alloc ?_ (by first | omega | (simp; done) | (simp; omega)) _) | (refine Below.setCell ?_ (by first | omega | (simp; done) | (simp; omega)) _) | refine Below.drew ?_))⟩; exact ret_int (by go_light; unfold spanE; (try simp only [Bool.not_eq_true', Bool.not_eq_false', decide_eq_true_eq, decide_eq_false_iff_not] at *); (repeat' split) <;> omega))
set_option maxHeartbeats 400000 in
theorem fault_any (a b : Int) (w : World) :
    Calls Try.prog 15 #[.agg #[.int .i64 a, .int .i64 b]] w fun e w' => e = .returned (.int .i64 (spanE a b)) ∧ Below w.heap.size w w' := by
  go_enter Try.func15, Try.ntmps15
  go_wp2
  all_goals (go_ret; refine ⟨?_, (by repeat (first | exact Below.refl _ _ | assumption | refine below_step ?_ (by assumption) | (refine Below.alloc ?_ (by first | omega | (simp; done) | (simp; omega)) _) | (refine Below.setCell ?_ (by first | omega | (simp; done) | (simp; omega)) _) | refine Below.drew ?_))⟩; exact ret_int (by go_light; unfold spanE; (try simp only [Bool.not_eq_true', Bool.not_eq_false', decide_eq_true_eq, decide_eq_false_iff_not] at *); (repeat' split) <;> omega))
set_option maxHeartbeats 400000 in
theorem optCheck_any (r l h : Int) (w : World) :
    Calls Try.prog 18 #[.agg #[.int .i64 r, .int .i64 l, .int .i64 h]] w fun e w' => e = .returned (.int .i64 (optE r l h)) ∧ Below w.heap.size w w' := by
  go_enter Try.func18, Try.ntmps18
  go_wp2
  all_goals (go_ret; refine ⟨?_, (by repeat (first | exact Below.refl _ _ | assumption | refine below_step ?_ (by assumption) | (refine Below.alloc ?_ (by first | omega | (simp; done) | (simp; omega)) _) | (refine Below.setCell ?_ (by first | omega | (simp; done) | (simp; omega)) _) | refine Below.drew ?_))⟩; exact ret_int (by go_light; unfold optE; (try simp only [Bool.not_eq_true', Bool.not_eq_false', decide_eq_true_eq, decide_eq_false_iff_not] at *); (repeat' split) <;> omega))
set_option maxHeartbeats 400000 in
theorem optFault_any (r l h : Int) (w : World) :
    Calls Try.prog 19 #[.agg #[.int .i64 r, .int .i64 l, .int .i64 h]] w fun e w' => e = .returned (.int .i64 (optE r l h)) ∧ Below w.heap.size w w' := by
  by_cases hh : h = -1
  · subst hh
    go_enter Try.func19, Try.ntmps19
    go_wp2
    all_goals (go_ret; refine ⟨?_, (by repeat (first | exact Below.refl _ _ | assumption | refine below_step ?_ (by assumption) | (refine Below.alloc ?_ (by first | omega | (simp; done) | (simp; omega)) _) | (refine Below.setCell ?_ (by first | omega | (simp; done) | (simp; omega)) _) | refine Below.drew ?_))⟩; exact ret_int (by go_light; unfold optE; (try simp only [Bool.not_eq_true', Bool.not_eq_false', decide_eq_true_eq, decide_eq_false_iff_not] at *); (repeat' split) <;> omega))
  · have hb : (h != -1) = true := by rw [bne_iff_ne]; exact hh
    go_enter Try.func19, Try.ntmps19
    go_wp2
    all_goals (go_ret; refine ⟨?_, (by repeat (first | exact Below.refl _ _ | assumption | refine below_step ?_ (by assumption) | (refine Below.alloc ?_ (by first | omega | (simp; done) | (simp; omega)) _) | (refine Below.setCell ?_ (by first | omega | (simp; done) | (simp; omega)) _) | refine Below.drew ?_))⟩; exact ret_int (by go_light; unfold optE; (try simp only [Bool.not_eq_true', Bool.not_eq_false', decide_eq_true_eq, decide_eq_false_iff_not] at *); (repeat' split) <;> omega))
theorem thirteen {r : Int} (h : 1 ≤ r ∧ r ≤ 13) : r = 1 ∨ r = 2 ∨ r = 3 ∨ r = 4 ∨ r = 5 ∨ r = 6 ∨ r = 7 ∨ r = 8 ∨ r = 9 ∨ r = 10 ∨ r = 11 ∨ r = 12 ∨ r = 13 := by omega
/-- The sign of a difference. -/
def sg (x y : Int) : Int := if x < y then -1 else if y < x then 1 else 0
theorem sg_lt (x y : Int) : sg x y < 0 ↔ x < y := by unfold sg; repeat' split <;> omega
theorem sg_gt (x y : Int) : 0 < sg x y ↔ y < x := by unfold sg; repeat' split <;> omega
theorem sg_le (x y : Int) : sg x y ≤ 0 ↔ x ≤ y := by unfold sg; repeat' split <;> omega
theorem sg_ge (x y : Int) : 0 ≤ sg x y ↔ y ≤ x := by unfold sg; repeat' split <;> omega
theorem sg_eq (x y : Int) : sg x y = 0 ↔ x = y := by unfold sg; repeat' split <;> omega
set_option maxHeartbeats 400000 in
theorem sign_any (a b : Int) (w : World) :
    Calls Try.prog 40 #[.int .i64 a, .int .i64 b] w fun e w' => e = .returned (.int .i64 (sg a b)) ∧ w' = w := by
  go_enter Try.func40, Try.ntmps40
  go_wp2
  all_goals (go_ret; refine ⟨?_, rfl⟩; exact ret_int (by go_light; unfold sg; (try simp only [Bool.not_eq_true', Bool.not_eq_false', decide_eq_true_eq, decide_eq_false_iff_not] at *); (repeat' split) <;> omega))
set_option maxHeartbeats 400000 in
theorem lies_any (a b c d : Int) (w : World) :
    Calls Try.prog 39 #[.agg #[.int .i64 a, .int .i64 b], .agg #[.int .i64 c, .int .i64 d]] w fun e w' => e = .returned (.tuple #[.int .i64 (sg a c), .int .i64 (sg b d), .int .i64 (sg b c), .int .i64 (sg a d)]) ∧ Below w.heap.size w w' := by
  go_enter Try.func39, Try.ntmps39
  go_wp2_with fail
  go_quiet ((go_at_call 40; exact Calls.quiet_of_same (sign_any _ _ _)))
  go_wp2
  refine bodyPost_ret (v := .tuple #[.int .i64 (sg a c), .int .i64 (sg b d), .int .i64 (sg b c), .int .i64 (sg a d)]) (by simp [results, Try.results39, go_sem]) rfl ⟨rfl, ?_⟩
  exact (Joins.below_alloc2 _ _ _).trans (Joins.below_draws _ _ _)
set_option maxHeartbeats 400000 in
theorem holds1 (a b c d : Int) (w : World) :
    Calls Try.prog 33 #[.int .i64 1, .agg #[.int .i64 a, .int .i64 b], .agg #[.int .i64 c, .int .i64 d]] w fun e w' => e = .returned (.bool (relB 1 a b c d)) ∧ Below w.heap.size w w' := by
  go_enter Try.func33, Try.ntmps33
  go_wp2
  all_goals (go_ret; refine ⟨?_, (by repeat (first | exact Below.refl _ _ | assumption | refine below_step ?_ (by assumption) | (refine Below.alloc ?_ (by first | omega | (simp; done) | (simp; omega)) _) | (refine Below.setCell ?_ (by first | omega | (simp; done) | (simp; omega)) _) | refine Below.drew ?_))⟩; exact ret_bool (by go_light; unfold relB; first | (simp; done) | (rw [Bool.eq_iff_iff]; simp []; done) | (rw [Bool.eq_iff_iff]; simp []; omega)))
set_option maxHeartbeats 400000 in
theorem holds2 (a b c d : Int) (w : World) :
    Calls Try.prog 33 #[.int .i64 2, .agg #[.int .i64 a, .int .i64 b], .agg #[.int .i64 c, .int .i64 d]] w fun e w' => e = .returned (.bool (relB 2 a b c d)) ∧ Below w.heap.size w w' := by
  go_enter Try.func33, Try.ntmps33
  go_wp2
  all_goals (go_ret; refine ⟨?_, (by repeat (first | exact Below.refl _ _ | assumption | refine below_step ?_ (by assumption) | (refine Below.alloc ?_ (by first | omega | (simp; done) | (simp; omega)) _) | (refine Below.setCell ?_ (by first | omega | (simp; done) | (simp; omega)) _) | refine Below.drew ?_))⟩; exact ret_bool (by go_light; unfold relB; first | (simp; done) | (rw [Bool.eq_iff_iff]; simp []; done) | (rw [Bool.eq_iff_iff]; simp []; omega)))
set_option maxHeartbeats 400000 in
theorem holds3 (a b c d : Int) (w : World) :
    Calls Try.prog 33 #[.int .i64 3, .agg #[.int .i64 a, .int .i64 b], .agg #[.int .i64 c, .int .i64 d]] w fun e w' => e = .returned (.bool (relB 3 a b c d)) ∧ Below w.heap.size w w' := by
  go_enter Try.func33, Try.ntmps33
  go_wp2
  all_goals (go_ret; refine ⟨?_, (by repeat (first | exact Below.refl _ _ | assumption | refine below_step ?_ (by assumption) | (refine Below.alloc ?_ (by first | omega | (simp; done) | (simp; omega)) _) | (refine Below.setCell ?_ (by first | omega | (simp; done) | (simp; omega)) _) | refine Below.drew ?_))⟩; exact ret_bool (by go_light; unfold relB; first | (simp; done) | (rw [Bool.eq_iff_iff]; simp []; done) | (rw [Bool.eq_iff_iff]; simp []; omega)))
set_option maxHeartbeats 400000 in
theorem holds4 (a b c d : Int) (w : World) :
    Calls Try.prog 33 #[.int .i64 4, .agg #[.int .i64 a, .int .i64 b], .agg #[.int .i64 c, .int .i64 d]] w fun e w' => e = .returned (.bool (relB 4 a b c d)) ∧ Below w.heap.size w w' := by
  go_enter Try.func33, Try.ntmps33
  go_wp2
  all_goals (go_ret; refine ⟨?_, (by repeat (first | exact Below.refl _ _ | assumption | refine below_step ?_ (by assumption) | (refine Below.alloc ?_ (by first | omega | (simp; done) | (simp; omega)) _) | (refine Below.setCell ?_ (by first | omega | (simp; done) | (simp; omega)) _) | refine Below.drew ?_))⟩; exact ret_bool (by go_light; unfold relB; first | (simp; done) | (rw [Bool.eq_iff_iff]; simp []; done) | (rw [Bool.eq_iff_iff]; simp []; omega)))
set_option maxHeartbeats 400000 in
theorem holds5 (a b c d : Int) (w : World) :
    Calls Try.prog 33 #[.int .i64 5, .agg #[.int .i64 a, .int .i64 b], .agg #[.int .i64 c, .int .i64 d]] w fun e w' => e = .returned (.bool (relB 5 a b c d)) ∧ Below w.heap.size w w' := by
  go_enter Try.func33, Try.ntmps33
  go_wp2
  all_goals (go_ret; refine ⟨?_, (by repeat (first | exact Below.refl _ _ | assumption | refine below_step ?_ (by assumption) | (refine Below.alloc ?_ (by first | omega | (simp; done) | (simp; omega)) _) | (refine Below.setCell ?_ (by first | omega | (simp; done) | (simp; omega)) _) | refine Below.drew ?_))⟩; exact ret_bool (by go_light; unfold relB; first | (simp; done) | (rw [Bool.eq_iff_iff]; simp []; done) | (rw [Bool.eq_iff_iff]; simp []; omega)))
set_option maxHeartbeats 400000 in
theorem holds6 (a b c d : Int) (w : World) :
    Calls Try.prog 33 #[.int .i64 6, .agg #[.int .i64 a, .int .i64 b], .agg #[.int .i64 c, .int .i64 d]] w fun e w' => e = .returned (.bool (relB 6 a b c d)) ∧ Below w.heap.size w w' := by
  go_enter Try.func33, Try.ntmps33
  go_wp2
  all_goals (go_ret; refine ⟨?_, (by repeat (first | exact Below.refl _ _ | assumption | refine below_step ?_ (by assumption) | (refine Below.alloc ?_ (by first | omega | (simp; done) | (simp; omega)) _) | (refine Below.setCell ?_ (by first | omega | (simp; done) | (simp; omega)) _) | refine Below.drew ?_))⟩; exact ret_bool (by go_light; unfold relB; first | (simp; done) | (rw [Bool.eq_iff_iff]; simp []; done) | (rw [Bool.eq_iff_iff]; simp []; omega)))
set_option maxHeartbeats 400000 in
theorem holds7 (a b c d : Int) (w : World) :
    Calls Try.prog 33 #[.int .i64 7, .agg #[.int .i64 a, .int .i64 b], .agg #[.int .i64 c, .int .i64 d]] w fun e w' => e = .returned (.bool (relB 7 a b c d)) ∧ Below w.heap.size w w' := by
  go_enter Try.func33, Try.ntmps33
  go_wp2
  all_goals (go_ret; refine ⟨?_, (by repeat (first | exact Below.refl _ _ | assumption | refine below_step ?_ (by assumption) | (refine Below.alloc ?_ (by first | omega | (simp; done) | (simp; omega)) _) | (refine Below.setCell ?_ (by first | omega | (simp; done) | (simp; omega)) _) | refine Below.drew ?_))⟩; exact ret_bool (by go_light; unfold relB; first | (simp; done) | (rw [Bool.eq_iff_iff]; simp []; done) | (rw [Bool.eq_iff_iff]; simp []; omega)))
set_option maxHeartbeats 400000 in
theorem holds8 (a b c d : Int) (w : World) :
    Calls Try.prog 33 #[.int .i64 8, .agg #[.int .i64 a, .int .i64 b], .agg #[.int .i64 c, .int .i64 d]] w fun e w' => e = .returned (.bool (relB 8 a b c d)) ∧ Below w.heap.size w w' := by
  go_enter Try.func33, Try.ntmps33
  go_wp2
  all_goals (go_ret; refine ⟨?_, (by repeat (first | exact Below.refl _ _ | assumption | refine below_step ?_ (by assumption) | (refine Below.alloc ?_ (by first | omega | (simp; done) | (simp; omega)) _) | (refine Below.setCell ?_ (by first | omega | (simp; done) | (simp; omega)) _) | refine Below.drew ?_))⟩; exact ret_bool (by go_light; unfold relB; first | (simp; done) | (rw [Bool.eq_iff_iff]; simp []; done) | (rw [Bool.eq_iff_iff]; simp []; omega)))
set_option maxHeartbeats 400000 in
theorem holds9 (a b c d : Int) (w : World) :
    Calls Try.prog 33 #[.int .i64 9, .agg #[.int .i64 a, .int .i64 b], .agg #[.int .i64 c, .int .i64 d]] w fun e w' => e = .returned (.bool (relB 9 a b c d)) ∧ Below w.heap.size w w' := by
  go_enter Try.func33, Try.ntmps33
  go_wp2
  all_goals (go_ret; refine ⟨?_, (by repeat (first | exact Below.refl _ _ | assumption | refine below_step ?_ (by assumption) | (refine Below.alloc ?_ (by first | omega | (simp; done) | (simp; omega)) _) | (refine Below.setCell ?_ (by first | omega | (simp; done) | (simp; omega)) _) | refine Below.drew ?_))⟩; exact ret_bool (by go_light; unfold relB; first | (simp; done) | (rw [Bool.eq_iff_iff]; simp []; done) | (rw [Bool.eq_iff_iff]; simp []; omega)))
set_option maxHeartbeats 400000 in
theorem holds10 (a b c d : Int) (w : World) :
    Calls Try.prog 33 #[.int .i64 10, .agg #[.int .i64 a, .int .i64 b], .agg #[.int .i64 c, .int .i64 d]] w fun e w' => e = .returned (.bool (relB 10 a b c d)) ∧ Below w.heap.size w w' := by
  go_enter Try.func33, Try.ntmps33
  go_wp2
  all_goals (go_ret; refine ⟨?_, (by repeat (first | exact Below.refl _ _ | assumption | refine below_step ?_ (by assumption) | (refine Below.alloc ?_ (by first | omega | (simp; done) | (simp; omega)) _) | (refine Below.setCell ?_ (by first | omega | (simp; done) | (simp; omega)) _) | refine Below.drew ?_))⟩; exact ret_bool (by go_light; unfold relB; first | (simp; done) | (rw [Bool.eq_iff_iff]; simp []; done) | (rw [Bool.eq_iff_iff]; simp []; omega)))
set_option maxHeartbeats 400000 in
theorem holds11 (a b c d : Int) (w : World) :
    Calls Try.prog 33 #[.int .i64 11, .agg #[.int .i64 a, .int .i64 b], .agg #[.int .i64 c, .int .i64 d]] w fun e w' => e = .returned (.bool (relB 11 a b c d)) ∧ Below w.heap.size w w' := by
  go_enter Try.func33, Try.ntmps33
  go_wp2
  all_goals (go_ret; refine ⟨?_, (by repeat (first | exact Below.refl _ _ | assumption | refine below_step ?_ (by assumption) | (refine Below.alloc ?_ (by first | omega | (simp; done) | (simp; omega)) _) | (refine Below.setCell ?_ (by first | omega | (simp; done) | (simp; omega)) _) | refine Below.drew ?_))⟩; exact ret_bool (by go_light; unfold relB; first | (simp; done) | (rw [Bool.eq_iff_iff]; simp []; done) | (rw [Bool.eq_iff_iff]; simp []; omega)))
set_option maxHeartbeats 400000 in
theorem holds12 (a b c d : Int) (w : World) :
    Calls Try.prog 33 #[.int .i64 12, .agg #[.int .i64 a, .int .i64 b], .agg #[.int .i64 c, .int .i64 d]] w fun e w' => e = .returned (.bool (relB 12 a b c d)) ∧ Below w.heap.size w w' := by
  go_enter Try.func33, Try.ntmps33
  go_wp2
  all_goals (go_ret; refine ⟨?_, (by repeat (first | exact Below.refl _ _ | assumption | refine below_step ?_ (by assumption) | (refine Below.alloc ?_ (by first | omega | (simp; done) | (simp; omega)) _) | (refine Below.setCell ?_ (by first | omega | (simp; done) | (simp; omega)) _) | refine Below.drew ?_))⟩; exact ret_bool (by go_light; unfold relB; first | (simp; done) | (rw [Bool.eq_iff_iff]; simp []; done) | (rw [Bool.eq_iff_iff]; simp []; omega)))
set_option maxHeartbeats 400000 in
theorem holds13 (a b c d : Int) (w : World) :
    Calls Try.prog 33 #[.int .i64 13, .agg #[.int .i64 a, .int .i64 b], .agg #[.int .i64 c, .int .i64 d]] w fun e w' => e = .returned (.bool (relB 13 a b c d)) ∧ Below w.heap.size w w' := by
  go_enter Try.func33, Try.ntmps33
  go_wp2
  all_goals (go_ret; refine ⟨?_, (by repeat (first | exact Below.refl _ _ | assumption | refine below_step ?_ (by assumption) | (refine Below.alloc ?_ (by first | omega | (simp; done) | (simp; omega)) _) | (refine Below.setCell ?_ (by first | omega | (simp; done) | (simp; omega)) _) | refine Below.drew ?_))⟩; exact ret_bool (by go_light; unfold relB; first | (simp; done) | (rw [Bool.eq_iff_iff]; simp []; done) | (rw [Bool.eq_iff_iff]; simp []; omega)))
theorem holds_any (r a b c d : Int) (w : World) (h : 1 ≤ r ∧ r ≤ 13) :
    Calls Try.prog 33 #[.int .i64 r, .agg #[.int .i64 a, .int .i64 b], .agg #[.int .i64 c, .int .i64 d]] w fun e w' => e = .returned (.bool (relB r a b c d)) ∧ Below w.heap.size w w' := by
  rcases thirteen h with rfl | rfl | rfl | rfl | rfl | rfl | rfl | rfl | rfl | rfl | rfl | rfl | rfl
  · exact holds1 a b c d w
  · exact holds2 a b c d w
  · exact holds3 a b c d w
  · exact holds4 a b c d w
  · exact holds5 a b c d w
  · exact holds6 a b c d w
  · exact holds7 a b c d w
  · exact holds8 a b c d w
  · exact holds9 a b c d w
  · exact holds10 a b c d w
  · exact holds11 a b c d w
  · exact holds12 a b c d w
  · exact holds13 a b c d w
set_option maxHeartbeats 400000 in
theorem related1 (a b c d : Int) (w : World) :
    Calls Try.prog 35 #[.int .i64 1, .agg #[.int .i64 a, .int .i64 b], .agg #[.int .i64 c, .int .i64 d]] w fun e w' => e = .returned (.bool (relB 1 a b c d)) ∧ Below w.heap.size w w' := by
  go_enter Try.func35, Try.ntmps35
  go_wp2_with (go_at_call 39; refine (lies_any _ _ _ _ _).mono ?_; rintro e w' ⟨rfl, hb⟩)
  all_goals (go_ret; refine ⟨?_, (Joins.below_alloc2 _ _ _).trans (hb.mono (by simp; try omega))⟩; exact ret_bool (by go_light; unfold relB; first | (simp; done) | (rw [Bool.eq_iff_iff]; simp [sg_lt, sg_gt, sg_eq, sg_le, sg_ge]; done) | (rw [Bool.eq_iff_iff]; simp [sg_lt, sg_gt, sg_eq, sg_le, sg_ge]; omega) | ((try simp only [sg_lt, sg_gt, sg_eq, sg_le, sg_ge] at *); rw [Bool.eq_iff_iff]; simp [sg_lt, sg_gt, sg_eq, sg_le, sg_ge]; omega)))
set_option maxHeartbeats 400000 in
theorem related2 (a b c d : Int) (w : World) :
    Calls Try.prog 35 #[.int .i64 2, .agg #[.int .i64 a, .int .i64 b], .agg #[.int .i64 c, .int .i64 d]] w fun e w' => e = .returned (.bool (relB 2 a b c d)) ∧ Below w.heap.size w w' := by
  go_enter Try.func35, Try.ntmps35
  go_wp2_with (go_at_call 39; refine (lies_any _ _ _ _ _).mono ?_; rintro e w' ⟨rfl, hb⟩)
  all_goals (go_ret; refine ⟨?_, (Joins.below_alloc2 _ _ _).trans (hb.mono (by simp; try omega))⟩; exact ret_bool (by go_light; unfold relB; first | (simp; done) | (rw [Bool.eq_iff_iff]; simp [sg_lt, sg_gt, sg_eq, sg_le, sg_ge]; done) | (rw [Bool.eq_iff_iff]; simp [sg_lt, sg_gt, sg_eq, sg_le, sg_ge]; omega) | ((try simp only [sg_lt, sg_gt, sg_eq, sg_le, sg_ge] at *); rw [Bool.eq_iff_iff]; simp [sg_lt, sg_gt, sg_eq, sg_le, sg_ge]; omega)))
set_option maxHeartbeats 400000 in
theorem related3 (a b c d : Int) (w : World) :
    Calls Try.prog 35 #[.int .i64 3, .agg #[.int .i64 a, .int .i64 b], .agg #[.int .i64 c, .int .i64 d]] w fun e w' => e = .returned (.bool (relB 3 a b c d)) ∧ Below w.heap.size w w' := by
  go_enter Try.func35, Try.ntmps35
  go_wp2_with (go_at_call 39; refine (lies_any _ _ _ _ _).mono ?_; rintro e w' ⟨rfl, hb⟩)
  all_goals (go_ret; refine ⟨?_, (Joins.below_alloc2 _ _ _).trans (hb.mono (by simp; try omega))⟩; exact ret_bool (by go_light; unfold relB; first | (simp; done) | (rw [Bool.eq_iff_iff]; simp [sg_lt, sg_gt, sg_eq, sg_le, sg_ge]; done) | (rw [Bool.eq_iff_iff]; simp [sg_lt, sg_gt, sg_eq, sg_le, sg_ge]; omega) | ((try simp only [sg_lt, sg_gt, sg_eq, sg_le, sg_ge] at *); rw [Bool.eq_iff_iff]; simp [sg_lt, sg_gt, sg_eq, sg_le, sg_ge]; omega)))
set_option maxHeartbeats 400000 in
theorem related4 (a b c d : Int) (w : World) :
    Calls Try.prog 35 #[.int .i64 4, .agg #[.int .i64 a, .int .i64 b], .agg #[.int .i64 c, .int .i64 d]] w fun e w' => e = .returned (.bool (relB 4 a b c d)) ∧ Below w.heap.size w w' := by
  go_enter Try.func35, Try.ntmps35
  go_wp2_with (go_at_call 39; refine (lies_any _ _ _ _ _).mono ?_; rintro e w' ⟨rfl, hb⟩)
  all_goals (go_ret; refine ⟨?_, (Joins.below_alloc2 _ _ _).trans (hb.mono (by simp; try omega))⟩; exact ret_bool (by go_light; unfold relB; first | (simp; done) | (rw [Bool.eq_iff_iff]; simp [sg_lt, sg_gt, sg_eq, sg_le, sg_ge]; done) | (rw [Bool.eq_iff_iff]; simp [sg_lt, sg_gt, sg_eq, sg_le, sg_ge]; omega) | ((try simp only [sg_lt, sg_gt, sg_eq, sg_le, sg_ge] at *); rw [Bool.eq_iff_iff]; simp [sg_lt, sg_gt, sg_eq, sg_le, sg_ge]; omega)))
set_option maxHeartbeats 400000 in
theorem related5 (a b c d : Int) (w : World) :
    Calls Try.prog 35 #[.int .i64 5, .agg #[.int .i64 a, .int .i64 b], .agg #[.int .i64 c, .int .i64 d]] w fun e w' => e = .returned (.bool (relB 5 a b c d)) ∧ Below w.heap.size w w' := by
  go_enter Try.func35, Try.ntmps35
  go_wp2_with (go_at_call 39; refine (lies_any _ _ _ _ _).mono ?_; rintro e w' ⟨rfl, hb⟩)
  all_goals (go_ret; refine ⟨?_, (Joins.below_alloc2 _ _ _).trans (hb.mono (by simp; try omega))⟩; exact ret_bool (by go_light; unfold relB; first | (simp; done) | (rw [Bool.eq_iff_iff]; simp [sg_lt, sg_gt, sg_eq, sg_le, sg_ge]; done) | (rw [Bool.eq_iff_iff]; simp [sg_lt, sg_gt, sg_eq, sg_le, sg_ge]; omega) | ((try simp only [sg_lt, sg_gt, sg_eq, sg_le, sg_ge] at *); rw [Bool.eq_iff_iff]; simp [sg_lt, sg_gt, sg_eq, sg_le, sg_ge]; omega)))
set_option maxHeartbeats 400000 in
theorem related6 (a b c d : Int) (w : World) :
    Calls Try.prog 35 #[.int .i64 6, .agg #[.int .i64 a, .int .i64 b], .agg #[.int .i64 c, .int .i64 d]] w fun e w' => e = .returned (.bool (relB 6 a b c d)) ∧ Below w.heap.size w w' := by
  go_enter Try.func35, Try.ntmps35
  go_wp2_with (go_at_call 39; refine (lies_any _ _ _ _ _).mono ?_; rintro e w' ⟨rfl, hb⟩)
  all_goals (go_ret; refine ⟨?_, (Joins.below_alloc2 _ _ _).trans (hb.mono (by simp; try omega))⟩; exact ret_bool (by go_light; unfold relB; first | (simp; done) | (rw [Bool.eq_iff_iff]; simp [sg_lt, sg_gt, sg_eq, sg_le, sg_ge]; done) | (rw [Bool.eq_iff_iff]; simp [sg_lt, sg_gt, sg_eq, sg_le, sg_ge]; omega) | ((try simp only [sg_lt, sg_gt, sg_eq, sg_le, sg_ge] at *); rw [Bool.eq_iff_iff]; simp [sg_lt, sg_gt, sg_eq, sg_le, sg_ge]; omega)))
set_option maxHeartbeats 400000 in
theorem related7 (a b c d : Int) (w : World) :
    Calls Try.prog 35 #[.int .i64 7, .agg #[.int .i64 a, .int .i64 b], .agg #[.int .i64 c, .int .i64 d]] w fun e w' => e = .returned (.bool (relB 7 a b c d)) ∧ Below w.heap.size w w' := by
  go_enter Try.func35, Try.ntmps35
  go_wp2_with (go_at_call 39; refine (lies_any _ _ _ _ _).mono ?_; rintro e w' ⟨rfl, hb⟩)
  all_goals (go_ret; refine ⟨?_, (Joins.below_alloc2 _ _ _).trans (hb.mono (by simp; try omega))⟩; exact ret_bool (by go_light; unfold relB; first | (simp; done) | (rw [Bool.eq_iff_iff]; simp [sg_lt, sg_gt, sg_eq, sg_le, sg_ge]; done) | (rw [Bool.eq_iff_iff]; simp [sg_lt, sg_gt, sg_eq, sg_le, sg_ge]; omega) | ((try simp only [sg_lt, sg_gt, sg_eq, sg_le, sg_ge] at *); rw [Bool.eq_iff_iff]; simp [sg_lt, sg_gt, sg_eq, sg_le, sg_ge]; omega)))
set_option maxHeartbeats 400000 in
theorem related8 (a b c d : Int) (w : World) :
    Calls Try.prog 35 #[.int .i64 8, .agg #[.int .i64 a, .int .i64 b], .agg #[.int .i64 c, .int .i64 d]] w fun e w' => e = .returned (.bool (relB 8 a b c d)) ∧ Below w.heap.size w w' := by
  go_enter Try.func35, Try.ntmps35
  go_wp2_with (go_at_call 39; refine (lies_any _ _ _ _ _).mono ?_; rintro e w' ⟨rfl, hb⟩)
  all_goals (go_ret; refine ⟨?_, (Joins.below_alloc2 _ _ _).trans (hb.mono (by simp; try omega))⟩; exact ret_bool (by go_light; unfold relB; first | (simp; done) | (rw [Bool.eq_iff_iff]; simp [sg_lt, sg_gt, sg_eq, sg_le, sg_ge]; done) | (rw [Bool.eq_iff_iff]; simp [sg_lt, sg_gt, sg_eq, sg_le, sg_ge]; omega) | ((try simp only [sg_lt, sg_gt, sg_eq, sg_le, sg_ge] at *); rw [Bool.eq_iff_iff]; simp [sg_lt, sg_gt, sg_eq, sg_le, sg_ge]; omega)))
set_option maxHeartbeats 400000 in
theorem related9 (a b c d : Int) (w : World) :
    Calls Try.prog 35 #[.int .i64 9, .agg #[.int .i64 a, .int .i64 b], .agg #[.int .i64 c, .int .i64 d]] w fun e w' => e = .returned (.bool (relB 9 a b c d)) ∧ Below w.heap.size w w' := by
  go_enter Try.func35, Try.ntmps35
  go_wp2_with (go_at_call 39; refine (lies_any _ _ _ _ _).mono ?_; rintro e w' ⟨rfl, hb⟩)
  all_goals (go_ret; refine ⟨?_, (Joins.below_alloc2 _ _ _).trans (hb.mono (by simp; try omega))⟩; exact ret_bool (by go_light; unfold relB; first | (simp; done) | (rw [Bool.eq_iff_iff]; simp [sg_lt, sg_gt, sg_eq, sg_le, sg_ge]; done) | (rw [Bool.eq_iff_iff]; simp [sg_lt, sg_gt, sg_eq, sg_le, sg_ge]; omega) | ((try simp only [sg_lt, sg_gt, sg_eq, sg_le, sg_ge] at *); rw [Bool.eq_iff_iff]; simp [sg_lt, sg_gt, sg_eq, sg_le, sg_ge]; omega)))
set_option maxHeartbeats 400000 in
theorem related10 (a b c d : Int) (w : World) :
    Calls Try.prog 35 #[.int .i64 10, .agg #[.int .i64 a, .int .i64 b], .agg #[.int .i64 c, .int .i64 d]] w fun e w' => e = .returned (.bool (relB 10 a b c d)) ∧ Below w.heap.size w w' := by
  go_enter Try.func35, Try.ntmps35
  go_wp2_with (go_at_call 39; refine (lies_any _ _ _ _ _).mono ?_; rintro e w' ⟨rfl, hb⟩)
  all_goals (go_ret; refine ⟨?_, (Joins.below_alloc2 _ _ _).trans (hb.mono (by simp; try omega))⟩; exact ret_bool (by go_light; unfold relB; first | (simp; done) | (rw [Bool.eq_iff_iff]; simp [sg_lt, sg_gt, sg_eq, sg_le, sg_ge]; done) | (rw [Bool.eq_iff_iff]; simp [sg_lt, sg_gt, sg_eq, sg_le, sg_ge]; omega) | ((try simp only [sg_lt, sg_gt, sg_eq, sg_le, sg_ge] at *); rw [Bool.eq_iff_iff]; simp [sg_lt, sg_gt, sg_eq, sg_le, sg_ge]; omega)))
set_option maxHeartbeats 400000 in
theorem related11 (a b c d : Int) (w : World) :
    Calls Try.prog 35 #[.int .i64 11, .agg #[.int .i64 a, .int .i64 b], .agg #[.int .i64 c, .int .i64 d]] w fun e w' => e = .returned (.bool (relB 11 a b c d)) ∧ Below w.heap.size w w' := by
  go_enter Try.func35, Try.ntmps35
  go_wp2_with (go_at_call 39; refine (lies_any _ _ _ _ _).mono ?_; rintro e w' ⟨rfl, hb⟩)
  all_goals (go_ret; refine ⟨?_, (Joins.below_alloc2 _ _ _).trans (hb.mono (by simp; try omega))⟩; exact ret_bool (by go_light; unfold relB; first | (simp; done) | (rw [Bool.eq_iff_iff]; simp [sg_lt, sg_gt, sg_eq, sg_le, sg_ge]; done) | (rw [Bool.eq_iff_iff]; simp [sg_lt, sg_gt, sg_eq, sg_le, sg_ge]; omega) | ((try simp only [sg_lt, sg_gt, sg_eq, sg_le, sg_ge] at *); rw [Bool.eq_iff_iff]; simp [sg_lt, sg_gt, sg_eq, sg_le, sg_ge]; omega)))
set_option maxHeartbeats 400000 in
theorem related12 (a b c d : Int) (w : World) :
    Calls Try.prog 35 #[.int .i64 12, .agg #[.int .i64 a, .int .i64 b], .agg #[.int .i64 c, .int .i64 d]] w fun e w' => e = .returned (.bool (relB 12 a b c d)) ∧ Below w.heap.size w w' := by
  go_enter Try.func35, Try.ntmps35
  go_wp2_with (go_at_call 39; refine (lies_any _ _ _ _ _).mono ?_; rintro e w' ⟨rfl, hb⟩)
  all_goals (go_ret; refine ⟨?_, (Joins.below_alloc2 _ _ _).trans (hb.mono (by simp; try omega))⟩; exact ret_bool (by go_light; unfold relB; first | (simp; done) | (rw [Bool.eq_iff_iff]; simp [sg_lt, sg_gt, sg_eq, sg_le, sg_ge]; done) | (rw [Bool.eq_iff_iff]; simp [sg_lt, sg_gt, sg_eq, sg_le, sg_ge]; omega) | ((try simp only [sg_lt, sg_gt, sg_eq, sg_le, sg_ge] at *); rw [Bool.eq_iff_iff]; simp [sg_lt, sg_gt, sg_eq, sg_le, sg_ge]; omega)))
set_option maxHeartbeats 400000 in
theorem related13 (a b c d : Int) (w : World) :
    Calls Try.prog 35 #[.int .i64 13, .agg #[.int .i64 a, .int .i64 b], .agg #[.int .i64 c, .int .i64 d]] w fun e w' => e = .returned (.bool (relB 13 a b c d)) ∧ Below w.heap.size w w' := by
  go_enter Try.func35, Try.ntmps35
  go_wp2_with (go_at_call 39; refine (lies_any _ _ _ _ _).mono ?_; rintro e w' ⟨rfl, hb⟩)
  all_goals (go_ret; refine ⟨?_, (Joins.below_alloc2 _ _ _).trans (hb.mono (by simp; try omega))⟩; exact ret_bool (by go_light; unfold relB; first | (simp; done) | (rw [Bool.eq_iff_iff]; simp [sg_lt, sg_gt, sg_eq, sg_le, sg_ge]; done) | (rw [Bool.eq_iff_iff]; simp [sg_lt, sg_gt, sg_eq, sg_le, sg_ge]; omega) | ((try simp only [sg_lt, sg_gt, sg_eq, sg_le, sg_ge] at *); rw [Bool.eq_iff_iff]; simp [sg_lt, sg_gt, sg_eq, sg_le, sg_ge]; omega)))
theorem related_any (r a b c d : Int) (w : World) (h : 1 ≤ r ∧ r ≤ 13) :
    Calls Try.prog 35 #[.int .i64 r, .agg #[.int .i64 a, .int .i64 b], .agg #[.int .i64 c, .int .i64 d]] w fun e w' => e = .returned (.bool (relB r a b c d)) ∧ Below w.heap.size w w' := by
  rcases thirteen h with rfl | rfl | rfl | rfl | rfl | rfl | rfl | rfl | rfl | rfl | rfl | rfl | rfl
  · exact related1 a b c d w
  · exact related2 a b c d w
  · exact related3 a b c d w
  · exact related4 a b c d w
  · exact related5 a b c d w
  · exact related6 a b c d w
  · exact related7 a b c d w
  · exact related8 a b c d w
  · exact related9 a b c d w
  · exact related10 a b c d w
  · exact related11 a b c d w
  · exact related12 a b c d w
  · exact related13 a b c d w
end Go.Proofs.Ytbambidojppklaa
