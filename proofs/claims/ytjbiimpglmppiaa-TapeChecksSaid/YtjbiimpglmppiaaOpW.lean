/-
  The walks of operations' checks: session.Bare, wire.Check, and their references.
-/
import Derived.Test.YtjbiimpglmppiaaValF
namespace Go.Proofs.Ytjbiimpglmppiaa
open Go.RowKit
set_option linter.unusedVariables false
set_option linter.unusedSimpArgs false

/-- An operation. -/
structure Opn where
  kind : Int
  type : ByteArray
  start : Int
  stop : Int
  delta : Int
  collect : Bool
def Opn.val (o : Opn) (v : Value) : Value := .agg #[.int .i64 o.kind, .string o.type, .int .i64 o.start, .int .i64 o.stop, v, .int .i64 o.delta, .bool o.collect]
/-- What an operation is refused for that has not just what its kind has; n: how many values it has. -/
def bareE (o : Opn) (n : Nat) : Int :=
  if 1 ≤ o.kind ∧ o.kind ≤ 3 then
    (if (o.kind = 2 ∨ (o.delta = 0 ∧ o.collect = false)) ∧ (o.kind ≠ 2 ∨ o.type.size = 0) ∧ (o.kind = 1 ∨ (o.start = 0 ∧ o.stop = 0 ∧ n = 0)) then 0 else 4) else 3

set_option maxHeartbeats 2000000 in
theorem bare_any (o : Opn) (vo : Option Addr) (m vcap : Nat) (w : World) (ht : o.type.size ≤ maxLen) (hm : m ≤ 9223372036854775807) :
    Calls Try.prog 17 #[o.val (.slice vo m vcap)] w fun e' w' => e' = .returned (.int .i64 (bareE o m)) ∧ Below w.heap.size w w' := by
  obtain ⟨k, t, s, e, d, c⟩ := o
  unfold Opn.val
  cases c
  all_goals
    go_enter Try.func17, Try.ntmps17
    go_wp2
    all_goals (go_ret; refine ⟨ret_int ?_, (by repeat (first | exact Below.refl _ _ | assumption | refine below_step ?_ (by assumption) | refine below_step ?_ (Joins.below_draws _ _ _) | (refine Below.alloc ?_ (by first | omega | (simp; done) | (simp; omega)) _) | (refine Below.setCell ?_ (by first | omega | (simp; done) | (simp; omega)) _) | refine Below.drew ?_))⟩; go_light; simp only [bareE]; (try simp only [Bool.not_eq_true', Bool.not_eq_false', decide_eq_true_eq, decide_eq_false_iff_not, beq_iff_eq, beq_eq_false_iff_ne, bne_iff_ne, ne_eq, Bool.or_eq_true, Bool.and_eq_true, Bool.or_eq_false_iff, Bool.and_eq_false_imp, bne_eq_false_iff_eq, List.isEmpty_iff, List.isEmpty_eq_false_iff, size_toList] at *); (repeat' split) <;> first | omega | (simp_all; done) | (simp_all; omega))
set_option maxHeartbeats 2000000 in
theorem opFault_any (o : Opn) (vo : Option Addr) (m vcap : Nat) (w : World) (ht : o.type.size ≤ maxLen) (hm : m ≤ 9223372036854775807) :
    Calls Try.prog 18 #[o.val (.slice vo m vcap)] w fun e' w' => e' = .returned (.int .i64 (bareE o m)) ∧ Below w.heap.size w w' := by
  obtain ⟨k, t, s, e, d, c⟩ := o
  unfold Opn.val
  cases c
  all_goals
    go_enter Try.func18, Try.ntmps18
    go_wp2_with (go_at_call 39; refine (in_any _ _ _ _).mono ?_; rintro e w' ⟨rfl, rfl⟩)
    all_goals (go_ret; refine ⟨ret_int ?_, (by repeat (first | exact Below.refl _ _ | assumption | refine below_step ?_ (by assumption) | refine below_step ?_ (Joins.below_draws _ _ _) | (refine Below.alloc ?_ (by first | omega | (simp; done) | (simp; omega)) _) | (refine Below.setCell ?_ (by first | omega | (simp; done) | (simp; omega)) _) | refine Below.drew ?_))⟩; go_light; simp only [bareE]; (try simp only [Bool.not_eq_true', Bool.not_eq_false', decide_eq_true_eq, decide_eq_false_iff_not, beq_iff_eq, beq_eq_false_iff_ne, bne_iff_ne, ne_eq, Bool.or_eq_true, Bool.and_eq_true, Bool.or_eq_false_iff, Bool.and_eq_false_imp, bne_eq_false_iff_eq, List.isEmpty_iff, List.isEmpty_eq_false_iff, size_toList, inB_true, inB_false] at *); (repeat' split) <;> first | omega | (simp_all; done) | (simp_all; omega))
end Go.Proofs.Ytjbiimpglmppiaa
