/-
  The law TickSpans, proved: for every argument it answers true. No condition.
-/
import Derived.Test.YtbambidojppklaaTickP0
namespace Go.Proofs.Ytbambidojppklaa
open Go.ChangeShapes Go.WideShapes Go.ChangeAt Go.RowKit Go.Joins
set_option linter.unusedVariables false

set_option maxRecDepth 100000 in
theorem tickSpans_lifted (os : Os) (started : os.Started) (H : Type) (enc : TypeId × Value → H) :
    ReturnsInHanded {} Try.checked os 5 .any (Rows.tickSpansSpec.pre6 enc Try.prog Try.f5 [] false) (Rows.tickSpansSpec.post enc Try.prog Try.f5 false true false false) := by
  have hp : Try.f5.params = #[30] := Try.params5
  refine law_lift (C := Try.checked) (fn := Try.f5) (s := Rows.tickSpansSpec) (tb := 4) own_knob started (by kernel_rfl) Try.func5 laid_out (by kernel_rfl) rfl (by kernel_rfl) Try.underlying4
    (fun ds hl => by rw [hp] at hl; exact (by match ds, hl with | [_], _ => rfl))
    (ChangeSpec.witness6 (enc := enc) (C := Try.checked) false ⟨#[], #[.agg #[.int .i64 0, .int .i64 0]], []⟩ 8 (by kernel_rfl) (by kernel_rfl) (by kernel_rfl) (by kernel_rfl)) ?_
  intro W base args ds ps hval0 hA0 hlt _
  have hval : ∀ (j : Nat) t v, Try.f5.params[j]? = some t → args[j]? = some v → Value.okWide Try.prog W .any base t v := hval0
  have hA : DataW.TrodAll enc Try.prog W 0 (fun _ => true) true Try.f5.params.toList args.toList ds ps := hA0
  rw [hp] at hA hval
  clear hA0 hval0
  obtain ⟨v0, d0, rfl, rfl, h0⟩ := trodAll_one hA
  obtain ⟨s0, e0, rfl⟩ := open_span (hval 0 30 v0 rfl rfl) h0
  exact spans_walk s0 e0 W

/-- The statement. -/
theorem tickSpans_holds : Rows.TickSpansSaid :=
  OpenClaim.holds_of_wide 5 Try.f5 rfl rfl rfl rfl rfl rfl rfl ⟨rfl, rfl, rfl, rfl, rfl⟩ rfl rfl rfl rfl rfl (by kernel_rfl) Try.func5 (by kernel_rfl)
    (of_decide_eq_true (by kernel_rfl)) (by unfold Func.isWrapper; rw [if_neg (of_decide_eq_false (by kernel_rfl))]; exact ⟨rfl, rfl⟩)
    (fun os started H enc _ => tickSpans_lifted os started H enc)

#print axioms tickSpans_holds
end Go.Proofs.Ytbambidojppklaa
