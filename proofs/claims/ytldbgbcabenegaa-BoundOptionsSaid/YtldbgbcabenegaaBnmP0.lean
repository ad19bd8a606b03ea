/-
  A matrix as an argument, opened.
-/
import Derived.Test.YtldbgbcabenegaaKnob
import Derived.Test.YtldbgbcabenegaaBndX
namespace Go.Proofs.Ytldbgbcabenegaa
open Go.ChangeShapes Go.WideShapes Go.ChangeAt Go.RowKit Go.Joins Go.Deep
set_option linter.unusedVariables false

theorem opens_matrix : Opens Try.prog 24 1 (sliceF 1 24 lineF) :=
  opens_slice Try.underlying24 (by kernel_rfl) (by kernel_rfl) (opens_slice Try.underlying38 (by kernel_rfl) (by kernel_rfl) opens_i)
theorem open_mat {H : Type} {enc : TypeId × Value → H} {W : World} {d : DataW H} {ps : List MemPlace} {qa : Option Addr} {qb qc : Nat} (h : DataW.Trod enc Try.prog W 0 (fun _ => true) true 24 (.slice qa qb qc) d ps) (hlt : ∀ p ∈ ps, p.block < W.heap.size) (hB : ∀ q ∈ d.weights Try.prog 24, q ≤ reachBytes) :
    ∃ m, SlF (under W.heap.size) W 1 lineF qa qb qc m ∧ qb * 24 ≤ 140737488355328 := by
  obtain ⟨m, ao, n, cap, e, hS, h8⟩ := open_arg opens_matrix (by simp [Value.cells]) h hlt hB
  simp only [Value.cells, List.cons.injEq, and_true, Value.slice.injEq] at e
  obtain ⟨rfl, rfl, rfl⟩ := e
  exact ⟨m, hS, by rw [hS.len]; omega⟩
end Go.Proofs.Ytldbgbcabenegaa
