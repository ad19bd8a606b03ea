/-
  The law TickWhich, proved: for every argument it answers true. No condition.
-/
import Derived.Test.YtbambidojppklaaTickP0
namespace Go.Proofs.Ytbambidojppklaa
open Go.ChangeShapes Go.WideShapes Go.ChangeAt Go.RowKit Go.Joins
set_option linter.unusedVariables false

set_option maxRecDepth 100000 in
theorem tickWhich_lifted (os : Os) (started : os.Started) (H : Type) (enc : TypeId × Value → H) :
    ReturnsInHanded {} Try.checked os 9 .any (Rows.tickWhichSpec.pre6 enc Try.prog Try.f9 [] false) (Rows.tickWhichSpec.post enc Try.prog Try.f9 false true false false) := by
  have hp : Try.f9.params = #[30, 30] := Try.params9
  refine law_lift (C := Try.checked) (fn := Try.f9) (s := Rows.tickWhichSpec) (tb := 4) own_knob started (by kernel_rfl) Try.func9 laid_out (by kernel_rfl) rfl (by kernel_rfl) Try.underlying4
    (fun ds hl => by rw [hp] at hl; exact (by match ds, hl with | [_, _], _ => rfl))
    (ChangeSpec.witness6 (enc := enc) (C := Try.checked) false ⟨#[], #[.agg #[.int .i64 0, .int .i64 0], .agg #[.int .i64 0, .int .i64 0]], []⟩ 8 (by kernel_rfl) (by kernel_rfl) (by kernel_rfl) (by kernel_rfl)) ?_
  intro W base args ds ps hval0 hA0 hlt _
  have hval : ∀ (j : Nat) t v, Try.f9.params[j]? = some t → args[j]? = some v → Value.okWide Try.prog W .any base t v := hval0
  have hA : DataW.TrodAll enc Try.prog W 0 (fun _ => true) true Try.f9.params.toList args.toList ds ps := hA0
  rw [hp] at hA hval
  clear hA0 hval0
  obtain ⟨v0, v1, d0, d1, p0, p1, rfl, rfl, rfl, h0, h1⟩ := trodAll_two hA
  obtain ⟨s0, e0, rfl⟩ := open_span (hval 0 30 v0 rfl rfl) h0
  obtain ⟨s1, e1, rfl⟩ := open_span (hval 1 30 v1 rfl rfl) h1
  exact which_walk s0 e0 s1 e1 W

/-- The statement. -/
theorem tickWhich_holds : Rows.TickWhichSaid :=
  OpenClaim.holds_of_wide 9 Try.f9 rfl rfl rfl rfl rfl rfl rfl ⟨rfl, rfl, rfl, rfl, rfl⟩ rfl rfl rfl rfl rfl (by kernel_rfl) Try.func9 (by kernel_rfl)
    (of_decide_eq_true (by kernel_rfl)) (by unfold Func.isWrapper; rw [if_neg (of_decide_eq_false (by kernel_rfl))]; exact ⟨rfl, rfl⟩)
    (fun os started H enc _ => tickWhich_lifted os started H enc)

#print axioms tickWhich_holds
end Go.Proofs.Ytbambidojppklaa
