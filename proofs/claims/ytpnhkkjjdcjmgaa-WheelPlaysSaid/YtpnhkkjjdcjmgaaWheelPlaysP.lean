/-
  The law WheelPlays, proved: for every argument it answers true. No condition.
-/
import Derived.Test.YtpnhkkjjdcjmgaaKnob
import Derived.Test.YtpnhkkjjdcjmgaaWiK
namespace Go.Proofs.Ytpnhkkjjdcjmgaa
open Go.ChangeShapes Go.WideShapes Go.ChangeAt Go.RowKit Go.Joins
open Go.ChangeMaps (setBlock shut_map_nil open_string shut_string keptBut_setBlock frozen?_setBlock heap_setBlock_same)
set_option linter.unusedVariables false
set_option linter.unusedSimpArgs false

theorem list_three {l : List Value} (h : l.length = 3) : ∃ a b c, l = [a, b, c] := by
  match l, h with
  | [a, b, c], _ => exact ⟨a, b, c, rfl⟩
/-- A number, and that it is an int. -/
def intW (F : Nat → Prop) (w : World) (row : List Value) (x : Int) : Prop := row = [.int .i64 x] ∧ wfI x
theorem opens_intW : Opens Try.prog 3 1 intW :=
  ⟨by kernel_rfl, by omega, fun w n row y hl h _ _ => by
    match row, hl with
    | [c], _ =>
      obtain ⟨k, e, -, hw⟩ := DataW.trod_int Try.underlying3 h
      exact ⟨k, e, hw⟩⟩
set_option maxRecDepth 100000 in
theorem opens_ded : Opens Try.prog 40 3 dedF :=
  ⟨by kernel_rfl, by omega, fun w n row y hl h hlt hB => by
    obtain ⟨xs, k, -, rfl, -, hxl, hf⟩ := DataW.trod_struct Try.underlying40 h
    obtain ⟨c0, c1, c2, rfl⟩ := list_three hl
    have hx : xs.length = 3 := hxl
    obtain ⟨x0, e0⟩ := opens_field Try.underlying40 hf hlt hB 0 _ rfl (by omega) opens_intW [c0] rfl rfl
    obtain ⟨x1, e1⟩ := opens_field Try.underlying40 hf hlt hB 1 _ rfl (by omega) opens_intW [c1] rfl rfl
    obtain ⟨x2, e2⟩ := opens_field Try.underlying40 hf hlt hB 2 _ rfl (by omega) opens_intW [c2] rfl rfl
    have e0' := e0.1
    have e1' := e1.1
    have e2' := e2.1
    simp only [List.cons.injEq, and_true] at e0' e1' e2'
    subst e0' e1' e2'
    exact ⟨⟨x0, x1, x2⟩, rfl, e1.2⟩⟩
theorem opens_deds : Opens Try.prog 22 1 (sliceF 3 24 dedF) := opens_slice Try.underlying22 (by kernel_rfl) (by kernel_rfl) opens_ded
set_option maxRecDepth 100000 in
theorem open_deds {H : Type} {enc : TypeId × Value → H} {W : World} {base : Nat} {v : Value} {d : DataW H} {ps : List MemPlace} (hv : Value.okWide Try.prog W .any base 22 v) (h : DataW.Trod enc Try.prog W 0 (fun _ => true) true 22 v d ps) (hlt : ∀ p ∈ ps, p.block < W.heap.size) (hB : ∀ q ∈ d.weights Try.prog 22, q ≤ reachBytes) :
    ∃ l ao n cap, v = .slice ao n cap ∧ SlF (under W.heap.size) W 3 dedF ao n cap l ∧ n * 24 ≤ 140737488355328 := by
  obtain ⟨qa, qb, qc, rfl⟩ := okWide_slice Try.underlying22 hv
  obtain ⟨m, ao, n, cap, e, hS, h8⟩ := open_arg opens_deds (by simp [Value.cells]) h hlt hB
  simp only [Value.cells, List.cons.injEq, and_true, Value.slice.injEq] at e
  obtain ⟨rfl, rfl, rfl⟩ := e
  exact ⟨m, qa, qb, qc, rfl, hS, by rw [hS.len]; omega⟩

set_option maxRecDepth 100000 in
theorem wheelPlays_lifted (os : Os) (started : os.Started) (H : Type) (enc : TypeId × Value → H) :
    ReturnsInHanded {} Try.checked os 3 .any (Rows.wheelPlaysSpec.pre6 enc Try.prog Try.f3 [] false) (Rows.wheelPlaysSpec.post enc Try.prog Try.f3 false true false false) := by
  have hp : Try.f3.params = #[3, 22] := Try.params3
  refine law_lift (C := Try.checked) (fn := Try.f3) (s := Rows.wheelPlaysSpec) (tb := 4) own_knob started (by kernel_rfl) Try.func3 laid_out (by kernel_rfl) rfl (by kernel_rfl) Try.underlying4
    (fun ds hl => by rw [hp] at hl; exact (by match ds, hl with | [_, _], _ => rfl))
    (ChangeSpec.witness6 (enc := enc) (C := Try.checked) false ⟨#[], #[.int .i64 0, .slice none 0 0], []⟩ 8 (by kernel_rfl) (by kernel_rfl) (by kernel_rfl) (by kernel_rfl)) ?_
  intro W base args ds ps hval0 hA0 hlt hsz0
  have hval : ∀ (j : Nat) t v, Try.f3.params[j]? = some t → args[j]? = some v → Value.okWide Try.prog W .any base t v := hval0
  have hA : DataW.TrodAll enc Try.prog W 0 (fun _ => true) true Try.f3.params.toList args.toList ds ps := hA0
  have hsz : (DataW.weightsEach Try.prog Try.f3.params.toList ds).all (· ≤ reachBytes) = true := hsz0
  rw [hp] at hA hval hsz
  clear hA0 hval0 hsz0
  obtain ⟨v0, v1, d0, d1, p0, p1, rfl, rfl, rfl, h0, h1⟩ := trodAll_two hA
  obtain ⟨x0, rfl, rfl, rfl, wf0⟩ := open_int Try.underlying3 (hval 0 3 v0 rfl rfl) h0
  obtain ⟨l1, ao1, n1, cap1, rfl, S1, z1⟩ := open_deds (hval 1 22 v1 rfl rfl) h1 (fun p hp => hlt p (by simp [hp])) (fun q hq => by simpa using List.all_eq_true.1 hsz q (DataW.weights_mem_each (j := 1) rfl rfl q hq))
  exact wheelPlays_walk x0 l1 _ ao1 n1 cap1 W S1 z1

/-- The statement. -/
theorem wheelPlays_holds : Rows.WheelPlaysSaid :=
  OpenClaim.holds_of_wide 3 Try.f3 rfl rfl rfl rfl rfl rfl rfl ⟨rfl, rfl, rfl, rfl, rfl⟩ rfl rfl rfl rfl rfl (by kernel_rfl) Try.func3 (by kernel_rfl)
    (of_decide_eq_true (by kernel_rfl)) (by unfold Func.isWrapper; rw [if_neg (of_decide_eq_false (by kernel_rfl))]; exact ⟨rfl, rfl⟩)
    (fun os started H enc _ => wheelPlays_lifted os started H enc)

#print axioms wheelPlays_holds
end Go.Proofs.Ytpnhkkjjdcjmgaa
