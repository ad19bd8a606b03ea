/-
  The law ValueFits, proved: for every argument it answers true. No condition.
-/
import Derived.Test.YtjbiimpglmppiaaValP0
import Derived.Test.YtjbiimpglmppiaaValL
namespace Go.Proofs.Ytjbiimpglmppiaa
open Go.ChangeShapes Go.WideShapes Go.ChangeAt Go.RowKit Go.Joins
open Go.ChangeMaps (setBlock shut_map_nil open_string shut_string keptBut_setBlock frozen?_setBlock heap_setBlock_same)
set_option linter.unusedVariables false

set_option maxRecDepth 100000 in
theorem valueFits_lifted (os : Os) (started : os.Started) (H : Type) (enc : TypeId × Value → H) :
    ReturnsInHanded {} Try.checked os 9 .any (Rows.valueFitsSpec.pre6 enc Try.prog Try.f9 [] false) (Rows.valueFitsSpec.post enc Try.prog Try.f9 false true false false) := by
  have hp : Try.f9.params = #[38, 27] := Try.params9
  refine law_lift (C := Try.checked) (fn := Try.f9) (s := Rows.valueFitsSpec) (tb := 4) own_knob started (by kernel_rfl) Try.func9 laid_out (by kernel_rfl) rfl (by kernel_rfl) Try.underlying4
    (fun ds hl => by rw [hp] at hl; exact (by match ds, hl with | [_, _], _ => rfl))
    (ChangeSpec.witness6 (enc := enc) (C := Try.checked) false ⟨#[], #[.agg #[.string ByteArray.empty, .slice none 0 0], .slice none 0 0], []⟩ 8 (by kernel_rfl) (by kernel_rfl) (by kernel_rfl) (by kernel_rfl)) ?_
  intro W base args ds ps hval0 hA0 hlt hsz0
  have hval : ∀ (j : Nat) t v, Try.f9.params[j]? = some t → args[j]? = some v → Value.okWide Try.prog W .any base t v := hval0
  have hA : DataW.TrodAll enc Try.prog W 0 (fun _ => true) true Try.f9.params.toList args.toList ds ps := hA0
  have hsz : (DataW.weightsEach Try.prog Try.f9.params.toList ds).all (· ≤ reachBytes) = true := hsz0
  rw [hp] at hA hval hsz
  clear hA0 hval0 hsz0
  obtain ⟨v0, v1, d0, d1, p0, p1, rfl, rfl, rfl, h0, h1⟩ := trodAll_two hA
  obtain ⟨nm0, ao0, n0, c0, fs0, rfl, z0, F0⟩ := open_type (hval 0 38 v0 rfl rfl) h0 (fun p hp => hlt p (by simp [hp]))
  obtain ⟨qa1, qb1, qc1, rfl⟩ := okWide_slice Try.underlying27 (hval 1 27 v1 rfl rfl)
  have B1 := slice_bytes hsz (j := 1) rfl rfl Try.underlying27 h1
  rw [bytes_value] at B1
  obtain ⟨fu1, hf1⟩ := h1
  obtain ⟨ao1, n1, c1, vs1, ev1, V1⟩ := open_values ⟨fu1, by simpa [Value.cells] using hf1⟩ (fun p hp => hlt p (by simp [hp]))
  obtain ⟨rfl, rfl, rfl⟩ : qa1 = ao1 ∧ qb1 = n1 ∧ qc1 = c1 := by simpa using ev1
  exact fits_walk nm0 ao0 n0 c0 fs0 qa1 qb1 qc1 vs1 W z0 F0 V1 B1

/-- The statement. -/
theorem valueFits_holds : Rows.ValueFitsSaid :=
  OpenClaim.holds_of_wide 9 Try.f9 rfl rfl rfl rfl rfl rfl rfl ⟨rfl, rfl, rfl, rfl, rfl⟩ rfl rfl rfl rfl rfl (by kernel_rfl) Try.func9 (by kernel_rfl)
    (of_decide_eq_true (by kernel_rfl)) (by unfold Func.isWrapper; rw [if_neg (of_decide_eq_false (by kernel_rfl))]; exact ⟨rfl, rfl⟩)
    (fun os started H enc _ => valueFits_lifted os started H enc)

#print axioms valueFits_holds
end Go.Proofs.Ytjbiimpglmppiaa
