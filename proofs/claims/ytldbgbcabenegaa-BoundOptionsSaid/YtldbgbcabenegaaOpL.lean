/-
  The walk of the law BoundOptions; a list of options as an argument, opened.
-/
import Derived.Test.YtldbgbcabenegaaOpZ
import Derived.Test.YtldbgbcabenegaaBnmP0
namespace Go.Proofs.Ytldbgbcabenegaa
open Go.ChangeShapes Go.WideShapes Go.ChangeAt Go.RowKit Go.Joins Go.Deep
set_option linter.unusedVariables false
set_option linter.unusedSimpArgs false

set_option maxRecDepth 100000 in
theorem opens_option : Opens Try.prog 31 3 optF :=
  ⟨by kernel_rfl, by omega, fun {H enc} w n row y hl h hlt hB => by
    obtain ⟨xs, k, -, rfl, -, hxl, hf⟩ := DataW.trod_struct Try.underlying31 h
    match row, hl, xs, hxl with
    | [c0, c1, c2], _, [y0, y1, y2], _ =>
      obtain ⟨i0, h0⟩ := opens_field Try.underlying31 hf hlt hB 0 _ rfl (by simp) opens_i [c0] (by simp) rfl
      obtain ⟨i1, h1⟩ := opens_field Try.underlying31 hf hlt hB 1 _ rfl (by simp) opens_i [c1] (by simp) rfl
      obtain ⟨i2, h2⟩ := opens_field Try.underlying31 hf hlt hB 2 _ rfl (by simp) opens_i [c2] (by simp) rfl
      have e0 : [c0] = [Value.int .i64 i0] := h0
      have e1 : [c1] = [Value.int .i64 i1] := h1
      have e2 : [c2] = [Value.int .i64 i2] := h2
      injection e0 with e0; injection e1 with e1; injection e2 with e2
      subst e0 e1 e2
      exact ⟨⟨i0, i1, i2⟩, rfl⟩⟩
theorem opens_options : Opens Try.prog 22 1 (sliceF 3 24 optF) := opens_slice Try.underlying22 (by kernel_rfl) (by kernel_rfl) opens_option
theorem open_options {H : Type} {enc : TypeId × Value → H} {W : World} {d : DataW H} {ps : List MemPlace} {qa : Option Addr} {qb qc : Nat} (h : DataW.Trod enc Try.prog W 0 (fun _ => true) true 22 (.slice qa qb qc) d ps) (hlt : ∀ p ∈ ps, p.block < W.heap.size) (hB : ∀ q ∈ d.weights Try.prog 22, q ≤ reachBytes) :
    ∃ m, SlF (under W.heap.size) W 3 optF qa qb qc m ∧ qb * 24 ≤ 140737488355328 := by
  obtain ⟨m, ao, n, cap, e, hS, h8⟩ := open_arg opens_options (by simp [Value.cells]) h hlt hB
  simp only [Value.cells, List.cons.injEq, and_true, Value.slice.injEq] at e
  obtain ⟨rfl, rfl, rfl⟩ := e
  exact ⟨m, hS, by rw [hS.len]; omega⟩
theorem info_option : (Try.prog.info? 31).map (fun i => (i.zero, i.size, i.bytes)) = some (some (.agg #[.int .i64 0, .int .i64 0, .int .i64 0]), 3, 24) := by kernel_rfl
theorem optF_one : ∀ F w row (x : Opt), optF F w row x → ∀ u ∈ row, u.oneCell' = true := fun F w row x h u hu => by
  obtain rfl : row = optC x := h
  simp [optC] at hu
  rcases hu with rfl | rfl | rfl <;> rfl

def codeO (os : List Opt) (l : List (List Int)) : Int := if optsE os = 0 then (if l.isEmpty = true then 16 else 0) else optsE os
def listO (os : List Opt) : List (List Int) := if optsE os = 0 then accL os os.length else []
def OptsPost2 (os : List Opt) (w : World) (x : Ending) (w' : World) : Prop :=
  ∃ ao n cap, x = .returned (.tuple #[.slice ao n cap, .int .i64 (codeO os (listO os))]) ∧ Below w.heap.size w w' ∧ SlF (from_ w.heap.size) w' 1 lineF ao n cap (listO os)
theorem opts_two {os : List Opt} {w : World} {x : Ending} {w' : World} (h : OptsPost os w x w') : OptsPost2 os w x w' := by
  obtain ⟨ao, n, cap, l, h1, h2, h3, h4⟩ := h
  have h5 : l = listO os := h2
  subst h5
  exact ⟨ao, n, cap, h1, h3, h4⟩
set_option maxHeartbeats 2000000 in
theorem boundOptions_walk (F : Nat → Prop) (ao : Option Addr) (n cap : Nat) (os : List Opt) (w : World) (hO : SlF F w 3 optF ao n cap os) (hn : n * 24 ≤ 140737488355328) :
    Calls Try.prog 3 #[.slice ao n cap] w fun e w' => e = .returned (.bool true) ∧ Below w.heap.size w w' := by
  obtain ⟨i0, hi, hz0, hz1, hz2⟩ := info_parts info_option
  obtain ⟨ao', cap', w', hrun, hS, hb⟩ := run_copy_to (G := from_ w.heap.size) Try.underlying22 hi hz0 hz1 hz2 rfl (by omega) optF_firm optF_one hO hn (Nat.le_refl _) none (World.ownsRow_nil _ _ _ _) (fun b h => h) (fun _ _ h => h)
  go_enter Try.func3, Try.ntmps3
  go_wp2_with (first | (at_builtin; refine wpList_append_run rfl _ _ 22 rfl rfl rfl rfl hrun ?_) | fail)
  refine (options_any _ ao' n cap' os _ hS).mono ?_
  intro e w1 h1
  obtain ⟨ao1, n1, cap1, rfl, hb1, hS1⟩ := opts_two h1
  clear hrun h1
  go_wp2_with fail
  refine (optionsOf_any F ao n cap os _ ((hO.below optF_firm hb).below optF_firm hb1)).mono ?_
  intro e w2 h2
  obtain ⟨ao2, n2, cap2, rfl, hb2, hS2⟩ := opts_two h2
  clear h2
  go_wp2_with fail
  refine (sameRows_yes _ _ ao1 n1 cap1 ao2 n2 cap2 _ _ (hS1.below lineF_firm hb2) hS2).mono ?_
  rintro e w3 ⟨rfl, hb3⟩
  go_wp2
  go_ret
  exact ⟨rfl, (by repeat (first | exact Below.refl _ _ | assumption | refine below_step ?_ (by assumption) | refine below_step ?_ (Joins.below_draws _ _ _) | (refine Below.alloc ?_ (by first | omega | (simp; done) | (simp; omega)) _) | (refine Below.setCell ?_ (by first | omega | (simp; done) | (simp; omega)) _) | refine Below.drew ?_))⟩
end Go.Proofs.Ytldbgbcabenegaa
