/-
  The law WireEncodes, proved: for every argument it answers true. No condition.
-/
import Derived.Test.YtciomaeieggbiaaOpP0
import Derived.Test.YtciomaeieggbiaaEncL
namespace Go.Proofs.Ytciomaeieggbiaa
open Go.ChangeShapes Go.WideShapes Go.ChangeAt Go.RowKit Go.Joins
open Go.ChangeMaps (setBlock shut_map_nil open_string shut_string keptBut_setBlock frozen?_setBlock heap_setBlock_same)
set_option linter.unusedVariables false

set_option maxRecDepth 100000 in
theorem wireEncodes_lifted (os : Os) (started : os.Started) (H : Type) (enc : TypeId × Value → H) :
    ReturnsInHanded {} Try.checked os 4 .any (Rows.wireEncodesSpec.pre6 enc Try.prog Try.f4 [] false) (Rows.wireEncodesSpec.post enc Try.prog Try.f4 false true false false) := by
  have hp : Try.f4.params = #[33] := Try.params4
  refine law_lift (C := Try.checked) (fn := Try.f4) (s := Rows.wireEncodesSpec) (tb := 4) own_knob started (by kernel_rfl) Try.func4 laid_out (by kernel_rfl) rfl (by kernel_rfl) Try.underlying4
    (fun ds hl => by rw [hp] at hl; exact (by match ds, hl with | [_], _ => rfl))
    (ChangeSpec.witness6 (enc := enc) (C := Try.checked) false ⟨#[], #[.agg #[.int .i64 0, .string ByteArray.empty, .int .i64 0, .int .i64 0, .slice none 0 0, .int .i64 0, .bool false]], []⟩ 8 (by kernel_rfl) (by kernel_rfl) (by kernel_rfl) (by kernel_rfl)) ?_
  intro W base args ds ps hval0 hA0 hlt hsz0
  have hval : ∀ (j : Nat) t v, Try.f4.params[j]? = some t → args[j]? = some v → Value.okWide Try.prog W .any base t v := hval0
  have hA : DataW.TrodAll enc Try.prog W 0 (fun _ => true) true Try.f4.params.toList args.toList ds ps := hA0
  have hsz : (DataW.weightsEach Try.prog Try.f4.params.toList ds).all (· ≤ reachBytes) = true := hsz0
  rw [hp] at hA hval hsz
  clear hA0 hval0 hsz0
  obtain ⟨v0, d0, rfl, rfl, h0⟩ := trodAll_one hA
  obtain ⟨o0, ao0, n0, c0, vs0, rfl, z0, V0⟩ := open_op (hval 0 33 v0 rfl rfl) h0 (fun p hp => hlt p (by simp [hp]))
  exact wireEncodes_walk o0 ao0 n0 c0 vs0 W z0 V0

/-- The statement. -/
theorem wireEncodes_holds : Rows.WireEncodesSaid :=
  OpenClaim.holds_of_wide 4 Try.f4 rfl rfl rfl rfl rfl rfl rfl ⟨rfl, rfl, rfl, rfl, rfl⟩ rfl rfl rfl rfl rfl (by kernel_rfl) Try.func4 (by kernel_rfl)
    (of_decide_eq_true (by kernel_rfl)) (by unfold Func.isWrapper; rw [if_neg (of_decide_eq_false (by kernel_rfl))]; exact ⟨rfl, rfl⟩)
    (fun os started H enc _ => wireEncodes_lifted os started H enc)

#print axioms wireEncodes_holds
end Go.Proofs.Ytciomaeieggbiaa
