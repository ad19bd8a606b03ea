/-
  The law TickDistances, proved: for every argument it answers true. No condition.
-/
import Derived.Test.YtbambidojppklaaTickP0
namespace Go.Proofs.Ytbambidojppklaa
open Go.ChangeShapes Go.WideShapes Go.ChangeAt Go.RowKit Go.Joins
set_option linter.unusedVariables false

set_option maxRecDepth 100000 in
theorem tickDistances_lifted (os : Os) (started : os.Started) (H : Type) (enc : TypeId × Value → H) :
    ReturnsInHanded {} Try.checked os 10 .any (Rows.tickDistancesSpec.pre6 enc Try.prog Try.f10 [] false) (Rows.tickDistancesSpec.post enc Try.prog Try.f10 false true false false) := by
  have hp : Try.f10.params = #[3, 30, 30] := Try.params10
  refine law_lift (C := Try.checked) (fn := Try.f10) (s := Rows.tickDistancesSpec) (tb := 4) own_knob started (by kernel_rfl) Try.func10 laid_out (by kernel_rfl) rfl (by kernel_rfl) Try.underlying4
    (fun ds hl => by rw [hp] at hl; exact (by match ds, hl with | [_, _, _], _ => rfl))
    (ChangeSpec.witness6 (enc := enc) (C := Try.checked) false ⟨#[], #[.int .i64 0, .agg #[.int .i64 0, .int .i64 0], .agg #[.int .i64 0, .int .i64 0]], []⟩ 8 (by kernel_rfl) (by kernel_rfl) (by kernel_rfl) (by kernel_rfl)) ?_
  intro W base args ds ps hval0 hA0 hlt _
  have hval : ∀ (j : Nat) t v, Try.f10.params[j]? = some t → args[j]? = some v → Value.okWide Try.prog W .any base t v := hval0
  have hA : DataW.TrodAll enc Try.prog W 0 (fun _ => true) true Try.f10.params.toList args.toList ds ps := hA0
  rw [hp] at hA hval
  clear hA0 hval0
  obtain ⟨v0, v1, v2, d0, d1, d2, p0, p1, p2, rfl, rfl, rfl, h0, h1, h2⟩ := trodAll_three hA
  obtain ⟨x0, rfl, rfl, rfl, wf0⟩ := open_int Try.underlying3 (hval 0 3 v0 rfl rfl) h0
  obtain ⟨s1, e1, rfl⟩ := open_span (hval 1 30 v1 rfl rfl) h1
  obtain ⟨s2, e2, rfl⟩ := open_span (hval 2 30 v2 rfl rfl) h2
  exact distances_walk x0 s1 e1 s2 e2 W

/-- The statement. -/
theorem tickDistances_holds : Rows.TickDistancesSaid :=
  OpenClaim.holds_of_wide 10 Try.f10 rfl rfl rfl rfl rfl rfl rfl ⟨rfl, rfl, rfl, rfl, rfl⟩ rfl rfl rfl rfl rfl (by kernel_rfl) Try.func10 (by kernel_rfl)
    (of_decide_eq_true (by kernel_rfl)) (by unfold Func.isWrapper; rw [if_neg (of_decide_eq_false (by kernel_rfl))]; exact ⟨rfl, rfl⟩)
    (fun os started H enc _ => tickDistances_lifted os started H enc)

#print axioms tickDistances_holds
end Go.Proofs.Ytbambidojppklaa
