/-
  The law ValueCompares, proved: for every argument it answers true. No condition.
-/
import Derived.Test.YtjbiimpglmppiaaValP0
import Derived.Test.YtjbiimpglmppiaaCmpW
namespace Go.Proofs.Ytjbiimpglmppiaa
open Go.ChangeShapes Go.WideShapes Go.ChangeAt Go.RowKit Go.Joins
open Go.ChangeMaps (setBlock shut_map_nil open_string shut_string keptBut_setBlock frozen?_setBlock heap_setBlock_same)
set_option linter.unusedVariables false

set_option maxRecDepth 100000 in
theorem valueCompares_lifted (os : Os) (started : os.Started) (H : Type) (enc : TypeId × Value → H) :
    ReturnsInHanded {} Try.checked os 8 .any (Rows.valueComparesSpec.pre6 enc Try.prog Try.f8 [] false) (Rows.valueComparesSpec.post enc Try.prog Try.f8 false true false false) := by
  have hp : Try.f8.params = #[33, 33] := Try.params8
  refine law_lift (C := Try.checked) (fn := Try.f8) (s := Rows.valueComparesSpec) (tb := 4) own_knob started (by kernel_rfl) Try.func8 laid_out (by kernel_rfl) rfl (by kernel_rfl) Try.underlying4
    (fun ds hl => by rw [hp] at hl; exact (by match ds, hl with | [_, _], _ => rfl))
    (ChangeSpec.witness6 (enc := enc) (C := Try.checked) false ⟨#[], #[.agg #[.int .i64 1, .int .i64 0, .string ByteArray.empty], .agg #[.int .i64 1, .int .i64 0, .string ByteArray.empty]], []⟩ 8 (by kernel_rfl) (by kernel_rfl) (by kernel_rfl) (by kernel_rfl)) ?_
  intro W base args ds ps hval0 hA0 hlt hsz0
  have hval : ∀ (j : Nat) t v, Try.f8.params[j]? = some t → args[j]? = some v → Value.okWide Try.prog W .any base t v := hval0
  have hA : DataW.TrodAll enc Try.prog W 0 (fun _ => true) true Try.f8.params.toList args.toList ds ps := hA0
  have hsz : (DataW.weightsEach Try.prog Try.f8.params.toList ds).all (· ≤ reachBytes) = true := hsz0
  rw [hp] at hA hval hsz
  clear hA0 hval0 hsz0
  obtain ⟨v0, v1, d0, d1, p0, p1, rfl, rfl, rfl, h0, h1⟩ := trodAll_two hA
  obtain ⟨k0, i0, s0, rfl, z0⟩ := open_value (hval 0 33 v0 rfl rfl) h0
  obtain ⟨k1, i1, s1, rfl, z1⟩ := open_value (hval 1 33 v1 rfl rfl) h1
  exact compares_walk ⟨k0, i0, s0⟩ ⟨k1, i1, s1⟩ W z0 z1

/-- The statement. -/
theorem valueCompares_holds : Rows.ValueComparesSaid :=
  OpenClaim.holds_of_wide 8 Try.f8 rfl rfl rfl rfl rfl rfl rfl ⟨rfl, rfl, rfl, rfl, rfl⟩ rfl rfl rfl rfl rfl (by kernel_rfl) Try.func8 (by kernel_rfl)
    (of_decide_eq_true (by kernel_rfl)) (by unfold Func.isWrapper; rw [if_neg (of_decide_eq_false (by kernel_rfl))]; exact ⟨rfl, rfl⟩)
    (fun os started H enc _ => valueCompares_lifted os started H enc)

#print axioms valueCompares_holds
end Go.Proofs.Ytjbiimpglmppiaa
