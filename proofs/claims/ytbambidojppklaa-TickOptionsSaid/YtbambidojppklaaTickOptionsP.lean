/-
  The law TickOptions, proved: for every argument it answers true. No condition.
-/
import Derived.Test.YtbambidojppklaaTickP0
namespace Go.Proofs.Ytbambidojppklaa
open Go.ChangeShapes Go.WideShapes Go.ChangeAt Go.RowKit Go.Joins
set_option linter.unusedVariables false

set_option maxRecDepth 100000 in
theorem tickOptions_lifted (os : Os) (started : os.Started) (H : Type) (enc : TypeId × Value → H) :
    ReturnsInHanded {} Try.checked os 7 .any (Rows.tickOptionsSpec.pre6 enc Try.prog Try.f7 [] false) (Rows.tickOptionsSpec.post enc Try.prog Try.f7 false true false false) := by
  have hp : Try.f7.params = #[36] := Try.params7
  refine law_lift (C := Try.checked) (fn := Try.f7) (s := Rows.tickOptionsSpec) (tb := 4) own_knob started (by kernel_rfl) Try.func7 laid_out (by kernel_rfl) rfl (by kernel_rfl) Try.underlying4
    (fun ds hl => by rw [hp] at hl; exact (by match ds, hl with | [_], _ => rfl))
    (ChangeSpec.witness6 (enc := enc) (C := Try.checked) false ⟨#[], #[.agg #[.int .i64 1, .int .i64 0, .int .i64 0]], []⟩ 8 (by kernel_rfl) (by kernel_rfl) (by kernel_rfl) (by kernel_rfl)) ?_
  intro W base args ds ps hval0 hA0 hlt _
  have hval : ∀ (j : Nat) t v, Try.f7.params[j]? = some t → args[j]? = some v → Value.okWide Try.prog W .any base t v := hval0
  have hA : DataW.TrodAll enc Try.prog W 0 (fun _ => true) true Try.f7.params.toList args.toList ds ps := hA0
  rw [hp] at hA hval
  clear hA0 hval0
  obtain ⟨v0, d0, rfl, rfl, h0⟩ := trodAll_one hA
  obtain ⟨r0, l0, g0, rfl⟩ := open_option (hval 0 36 v0 rfl rfl) h0
  exact options_walk r0 l0 g0 W

/-- The statement. -/
theorem tickOptions_holds : Rows.TickOptionsSaid :=
  OpenClaim.holds_of_wide 7 Try.f7 rfl rfl rfl rfl rfl rfl rfl ⟨rfl, rfl, rfl, rfl, rfl⟩ rfl rfl rfl rfl rfl (by kernel_rfl) Try.func7 (by kernel_rfl)
    (of_decide_eq_true (by kernel_rfl)) (by unfold Func.isWrapper; rw [if_neg (of_decide_eq_false (by kernel_rfl))]; exact ⟨rfl, rfl⟩)
    (fun os started H enc _ => tickOptions_lifted os started H enc)

#print axioms tickOptions_holds
end Go.Proofs.Ytbambidojppklaa
