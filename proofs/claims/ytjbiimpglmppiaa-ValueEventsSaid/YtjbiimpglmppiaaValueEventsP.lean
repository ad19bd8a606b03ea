/-
  The law ValueEvents, proved: for every argument it answers true. No condition.
-/
import Derived.Test.YtjbiimpglmppiaaEvP0
import Derived.Test.YtjbiimpglmppiaaEvL
namespace Go.Proofs.Ytjbiimpglmppiaa
open Go.ChangeShapes Go.WideShapes Go.ChangeAt Go.RowKit Go.Joins
open Go.ChangeMaps (setBlock shut_map_nil open_string shut_string keptBut_setBlock frozen?_setBlock heap_setBlock_same)
set_option linter.unusedVariables false

set_option maxRecDepth 100000 in
theorem valueEvents_lifted (os : Os) (started : os.Started) (H : Type) (enc : TypeId × Value → H) :
    ReturnsInHanded {} Try.checked os 11 .any (Rows.valueEventsSpec.pre6 enc Try.prog Try.f11 [] false) (Rows.valueEventsSpec.post enc Try.prog Try.f11 false true false false) := by
  have hp : Try.f11.params = #[49, 51] := Try.params11
  refine law_lift (C := Try.checked) (fn := Try.f11) (s := Rows.valueEventsSpec) (tb := 4) own_knob started (by kernel_rfl) Try.func11 laid_out (by kernel_rfl) rfl (by kernel_rfl) Try.underlying4
    (fun ds hl => by rw [hp] at hl; exact (by match ds, hl with | [_, _], _ => rfl))
    (ChangeSpec.witness6 (enc := enc) (C := Try.checked) false ⟨#[], #[.slice none 0 0, .agg #[.int .i64 0, .int .i64 0, .int .i64 0, .int .i64 0, .slice none 0 0]], []⟩ 8 (by kernel_rfl) (by kernel_rfl) (by kernel_rfl) (by kernel_rfl)) ?_
  intro W base args ds ps hval0 hA0 hlt hsz0
  have hval : ∀ (j : Nat) t v, Try.f11.params[j]? = some t → args[j]? = some v → Value.okWide Try.prog W .any base t v := hval0
  have hA : DataW.TrodAll enc Try.prog W 0 (fun _ => true) true Try.f11.params.toList args.toList ds ps := hA0
  have hsz : (DataW.weightsEach Try.prog Try.f11.params.toList ds).all (· ≤ reachBytes) = true := hsz0
  rw [hp] at hA hval hsz
  clear hA0 hval0 hsz0
  obtain ⟨v0, v1, d0, d1, p0, p1, rfl, rfl, rfl, h0, h1⟩ := trodAll_two hA
  obtain ⟨qa0, qb0, qc0, rfl⟩ := okWide_slice Try.underlying49 (hval 0 49 v0 rfl rfl)
  obtain ⟨fu0, hf0⟩ := h0
  obtain ⟨ao0, n0, c0, ts0, ev0, T0⟩ := open_types ⟨fu0, by simpa [Value.cells] using hf0⟩ (fun p hp => hlt p (by simp [hp]))
  obtain ⟨rfl, rfl, rfl⟩ : qa0 = ao0 ∧ qb0 = n0 ∧ qc0 = c0 := by simpa using ev0
  obtain ⟨x1, ao1, n1, c1, vs1, rfl, V1⟩ := open_event (hval 1 51 v1 rfl rfl) h1 (fun p hp => hlt p (by simp [hp]))
  exact events_walk qa0 qb0 qc0 ts0 x1 ao1 n1 c1 vs1 W T0 V1

/-- The statement. -/
theorem valueEvents_holds : Rows.ValueEventsSaid :=
  OpenClaim.holds_of_wide 11 Try.f11 rfl rfl rfl rfl rfl rfl rfl ⟨rfl, rfl, rfl, rfl, rfl⟩ rfl rfl rfl rfl rfl (by kernel_rfl) Try.func11 (by kernel_rfl)
    (of_decide_eq_true (by kernel_rfl)) (by unfold Func.isWrapper; rw [if_neg (of_decide_eq_false (by kernel_rfl))]; exact ⟨rfl, rfl⟩)
    (fun os started H enc _ => valueEvents_lifted os started H enc)

#print axioms valueEvents_holds
end Go.Proofs.Ytjbiimpglmppiaa
