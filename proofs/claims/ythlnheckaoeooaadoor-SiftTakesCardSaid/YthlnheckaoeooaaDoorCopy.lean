/-
  A slice that came in, copied by an append to nil: for every program. Condition: its bytes stay within 2^47.
-/
import Derived.Test.YthlnheckaoeooaaDoorRep
import Derived.Maps.AppendAt
import Derived.RegionTactic
import Derived.Deep.RegionLaw
namespace Go.Proofs.YthlnheckaoeooaaDoor
open Go.RowKit
set_option linter.unusedVariables false
set_option linter.unusedSimpArgs false

theorem flat_row {k : Nat} (rows : Nat → List Value) (hk : ∀ i, (rows i).length = k) (n : Nat) :
    ((List.range n).flatMap rows).length = n * k ∧ ∀ i j, i < n → j < k → ((List.range n).flatMap rows)[i * k + j]? = (rows i)[j]? := by
  induction n with
  | zero => exact ⟨by simp, fun i j h => absurd h (Nat.not_lt_zero i)⟩
  | succ n ih =>
    obtain ⟨h1, h2⟩ := ih
    rw [List.range_succ, List.flatMap_append]
    refine ⟨by rw [List.length_append, h1, Nat.succ_mul]; simp [hk], fun i j hi hj => ?_⟩
    by_cases e : i = n
    · subst e
      rw [List.getElem?_append_right (by omega), h1]
      simp
    · have hi' : i < n := by omega
      have : i * k + j < n * k := by
        have h3 : (i + 1) * k ≤ n * k := Nat.mul_le_mul_right k (by omega)
        rw [Nat.add_mul] at h3; omega
      rw [List.getElem?_append_left (by omega)]
      exact h2 i j hi' hj

/-- An append whose run is known, as an operation; in a list of operations; as a step of a region that draws. -/
theorem wp_append_run {P : Program} {w : World} {o : Oper} {a : Act} {K : Act → World → Prop} {Q : Exit → Act → World → Prop} {v y v' : Value} {w' : World} (s x : Operand) (t : TypeId)
    (ho : o.op = .call { callee := .builtin .append, args := #[s, x], argTypes := #[t, t] }) (hty : o.type = t) (hs : a.eval s = v) (hx : a.eval x = y)
    (hrun : (Builtin.append_ #[t, t] t #[v, y]).run P w = .ok v' w') (h : K (a.put o.dst v') w') : o.wp P a w K Q := by
  unfold Oper.wp execOp
  simp only [ho, resolve, invoke, builtin, Sem.run_bind, Sem.run_pure, Result.andThen_ok, List.map_toArray, List.map_cons, List.map_nil, hs, hx, hty, hrun]
  exact h
theorem wpList_append_run {P : Program} {w : World} {ops : Array Oper} {rest : List Oper} {o : Oper} {a : Act} {Q : Exit → Act → World → Prop} {v y v' : Value} {w' : World} (hgd : o.guard = none) (s x : Operand) (t : TypeId)
    (ho : o.op = .call { callee := .builtin .append, args := #[s, x], argTypes := #[t, t] }) (hty : o.type = t) (hs : a.eval s = v) (hx : a.eval x = y)
    (hrun : (Builtin.append_ #[t, t] t #[v, y]).run P w = .ok v' w') (h : wpList P ops Q rest (a.put o.dst v') w') : wpList P ops Q (o :: rest) a w :=
  wpList_plain hgd fun _ hK => wp_append_run s x t ho hty hs hx hrun (hK _ _ h)
end Go.Proofs.YthlnheckaoeooaaDoor
