/-
  The law TapeAppends, proved: for every argument it answers true. No condition.
-/
import Derived.Test.YtciomaeieggbiaaOpP0
import Derived.Test.YtciomaeieggbiaaAppL
namespace Go.Proofs.Ytciomaeieggbiaa
open Go.ChangeShapes Go.WideShapes Go.ChangeAt Go.RowKit Go.Joins
open Go.ChangeMaps (setBlock shut_map_nil open_string shut_string keptBut_setBlock frozen?_setBlock heap_setBlock_same)
set_option linter.unusedVariables false

set_option maxRecDepth 100000 in
theorem tapeAppends_lifted (os : Os) (started : os.Started) (H : Type) (enc : TypeId × Value → H) :
    ReturnsInHanded {} Try.checked os 5 .any (Rows.tapeAppendsSpec.pre6 enc Try.prog Try.f5 [] false) (Rows.tapeAppendsSpec.post enc Try.prog Try.f5 false true false false) := by
  have hp : Try.f5.params = #[39, 41] := Try.params5
  refine law_lift (C := Try.checked) (fn := Try.f5) (s := Rows.tapeAppendsSpec) (tb := 4) own_knob started (by kernel_rfl) Try.func5 laid_out (by kernel_rfl) rfl (by kernel_rfl) Try.underlying4
    (fun ds hl => by rw [hp] at hl; exact (by match ds, hl with | [_, _], _ => rfl))
    (ChangeSpec.witness6 (enc := enc) (C := Try.checked) false ⟨#[], #[.agg #[.slice none 0 0, .int .i64 0], .agg #[.int .i64 0, .int .i64 0, .string ByteArray.empty, .int .i64 0, .int .i64 0, .slice none 0 0, .int .i64 0, .bool false, .int .i64 0, .string ByteArray.empty]], []⟩ 8 (by kernel_rfl) (by kernel_rfl) (by kernel_rfl) (by kernel_rfl)) ?_
  intro W base args ds ps hval0 hA0 hlt hsz0
  have hval : ∀ (j : Nat) t v, Try.f5.params[j]? = some t → args[j]? = some v → Value.okWide Try.prog W .any base t v := hval0
  have hA : DataW.TrodAll enc Try.prog W 0 (fun _ => true) true Try.f5.params.toList args.toList ds ps := hA0
  have hsz : (DataW.weightsEach Try.prog Try.f5.params.toList ds).all (· ≤ reachBytes) = true := hsz0
  rw [hp] at hA hval hsz
  clear hA0 hval0 hsz0
  obtain ⟨v0, v1, d0, d1, p0, p1, rfl, rfl, rfl, h0, h1⟩ := trodAll_two hA
  obtain ⟨ao0, n0, c0, s0, xs0, rfl, X0, h80⟩ := open_tape (hval 0 39 v0 rfl rfl) h0 (fun p hp => hlt p (by simp [hp])) (fun q hq => by simpa using List.all_eq_true.1 hsz q (DataW.weights_mem_each (j := 0) rfl rfl q hq))
  obtain ⟨a1, ao1, n1, c1, vs1, rfl, z1, V1⟩ := open_act (hval 1 41 v1 rfl rfl) h1 (fun p hp => hlt p (by simp [hp]))
  exact tapeAppends_walk _ ao0 n0 c0 s0 xs0 a1 ao1 n1 c1 vs1 W X0 h80 z1.1 z1.2 V1

/-- The statement. -/
theorem tapeAppends_holds : Rows.TapeAppendsSaid :=
  OpenClaim.holds_of_wide 5 Try.f5 rfl rfl rfl rfl rfl rfl rfl ⟨rfl, rfl, rfl, rfl, rfl⟩ rfl rfl rfl rfl rfl (by kernel_rfl) Try.func5 (by kernel_rfl)
    (of_decide_eq_true (by kernel_rfl)) (by unfold Func.isWrapper; rw [if_neg (of_decide_eq_false (by kernel_rfl))]; exact ⟨rfl, rfl⟩)
    (fun os started H enc _ => tapeAppends_lifted os started H enc)

#print axioms tapeAppends_holds
end Go.Proofs.Ytciomaeieggbiaa
