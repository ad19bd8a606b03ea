/-
  The walks of tick.CheckOption and of the reference's OptionFault.
-/
import Derived.Test.YthlnheckaoeooaaDoorValZ
import Derived.Lib.SmallJoins
namespace Go.Proofs.YthlnheckaoeooaaDoor
open Go.RowKit
set_option linter.unusedVariables false
set_option linter.unusedSimpArgs false

/-- What an option is refused for. -/
def optE (r l h : Int) : Int := if 1 ≤ r ∧ r ≤ 13 then (if (0 ≤ l ∧ l ≤ 1073741824) ∧ (-1 ≤ h ∧ h ≤ 1073741824) then (if h ≠ -1 ∧ h < l then 11 else 0) else 2) else 3
theorem ret_int' {k : IntKind} {a b : Int} (h : a = b) : Ending.returned (.int k a) = .returned (.int k b) := by rw [h]
theorem ret_bool' {a b : Bool} (h : a = b) : Ending.returned (.bool a) = .returned (.bool b) := by rw [h]
set_option maxHeartbeats 400000 in
theorem optCheck_any (r l h : Int) (w : World) :
    Calls Tryd.prog 86 #[.agg #[.int .i64 r, .int .i64 l, .int .i64 h]] w fun e w' => e = .returned (.int .i64 (optE r l h)) ∧ Below w.heap.size w w' := by
  go_enter Tryd.func86, Tryd.ntmps86
  go_wp2
  all_goals (go_ret; refine ⟨?_, (by repeat (first | exact Below.refl _ _ | assumption | refine below_step ?_ (by assumption) | refine below_step ?_ (Joins.below_draws _ _ _) | (refine Below.alloc ?_ (by first | omega | (simp; done) | (simp; omega)) _) | (refine Below.setCell ?_ (by first | omega | (simp; done) | (simp; omega)) _) | refine Below.drew ?_))⟩; exact ret_int' (by go_light; unfold optE; (try simp only [Bool.not_eq_true', Bool.not_eq_false', decide_eq_true_eq, decide_eq_false_iff_not] at *); (repeat' split) <;> omega))
set_option maxHeartbeats 400000 in
theorem optFault_any (r l h : Int) (w : World) :
    Calls Tryd.prog 99 #[.agg #[.int .i64 r, .int .i64 l, .int .i64 h]] w fun e w' => e = .returned (.int .i64 (optE r l h)) ∧ Below w.heap.size w w' := by
  by_cases hh : h = -1
  · subst hh
    go_enter Tryd.func99, Tryd.ntmps99
    go_wp2
    all_goals (go_ret; refine ⟨?_, (by repeat (first | exact Below.refl _ _ | assumption | refine below_step ?_ (by assumption) | refine below_step ?_ (Joins.below_draws _ _ _) | (refine Below.alloc ?_ (by first | omega | (simp; done) | (simp; omega)) _) | (refine Below.setCell ?_ (by first | omega | (simp; done) | (simp; omega)) _) | refine Below.drew ?_))⟩; exact ret_int' (by go_light; unfold optE; (try simp only [Bool.not_eq_true', Bool.not_eq_false', decide_eq_true_eq, decide_eq_false_iff_not] at *); (repeat' split) <;> omega))
  · have hb : (h != -1) = true := by rw [bne_iff_ne]; exact hh
    go_enter Tryd.func99, Tryd.ntmps99
    go_wp2
    all_goals (go_ret; refine ⟨?_, (by repeat (first | exact Below.refl _ _ | assumption | refine below_step ?_ (by assumption) | refine below_step ?_ (Joins.below_draws _ _ _) | (refine Below.alloc ?_ (by first | omega | (simp; done) | (simp; omega)) _) | (refine Below.setCell ?_ (by first | omega | (simp; done) | (simp; omega)) _) | refine Below.drew ?_))⟩; exact ret_int' (by go_light; unfold optE; (try simp only [Bool.not_eq_true', Bool.not_eq_false', decide_eq_true_eq, decide_eq_false_iff_not] at *); (repeat' split) <;> omega))
end Go.Proofs.YthlnheckaoeooaaDoor
