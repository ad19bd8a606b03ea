/-
  The types of the arguments of the law of events, opened.
-/
import Derived.Test.YtjbiimpglmppiaaValP0
import Derived.Test.YtjbiimpglmppiaaEvW
namespace Go.Proofs.Ytjbiimpglmppiaa
open Go.ChangeShapes Go.WideShapes Go.ChangeAt Go.RowKit Go.Joins Go.Deep
set_option linter.unusedVariables false

theorem e_string : Try.prog.cellsOf 9 = 1 := by kernel_rfl
theorem e_int : Try.prog.cellsOf 3 = 1 := by kernel_rfl
theorem e_span : Try.prog.cellsOf 26 = 2 := by kernel_rfl
theorem e_vals : Try.prog.cellsOf 27 = 1 := by kernel_rfl
theorem e_flds : Try.prog.cellsOf 36 = 1 := by kernel_rfl
theorem e_event : Try.prog.cellsOf 51 = 5 := by kernel_rfl

section
variable {H : Type} {enc : TypeId × Value → H} {W : World} {base : Nat} {v : Value} {d : DataW H} {ps : List MemPlace}

theorem row_type {n : Nat} {row : List Value} {y : DataW H × List MemPlace} (hl : row.length = 2) (h : DataW.trod enc Try.prog W 0 (fun _ => true) true n 38 row = some y) (hlt : ∀ p ∈ y.2, p.block < W.heap.size) : ∃ t : Typ, typR W row t := by
  obtain ⟨y0, y1, m, rfl, -, h0, h1⟩ := trod_struct2 Try.underlying38 h
  match row, hl with
  | [c0, c1], _ =>
    simp [e_string, e_flds] at h0 h1
    obtain ⟨s, e0, -, hs⟩ := DataW.trod_string Try.underlying9 h0
    obtain ⟨ao, n, cap, fs, rfl, hS⟩ := open_fields ⟨m, h1⟩ (fun p hp => hlt p (by simp [hp]))
    simp at e0
    subst e0
    exact ⟨⟨s, fs⟩, ao, n, cap, rfl, hs, hS⟩
theorem open_types (h : ∃ fuel, DataW.trod enc Try.prog W 0 (fun _ => true) true fuel 49 [v] = some (d, ps)) (hlt : ∀ p ∈ ps, p.block < W.heap.size) :
    ∃ ao n cap ts, v = .slice ao n cap ∧ SlR W 2 typR ao n cap ts :=
  open_rows Try.underlying49 cells_type (by omega) h hlt (fun n row y hl h hp => row_type hl h hp)

theorem open_event (hv : Value.okWide Try.prog W .any base 51 v) (h : DataW.Trod enc Try.prog W 0 (fun _ => true) true 51 v d ps) (hlt : ∀ p ∈ ps, p.block < W.heap.size) :
    ∃ (x : Evt) (ao : Option Addr) (m cap : Nat) (vs : List Val), v = x.val (.slice ao m cap) ∧ SlR W 3 valR ao m cap vs := by
  obtain ⟨cs, rfl, hsz⟩ := okWide_struct Try.underlying51 hv
  rw [e_event] at hsz
  obtain ⟨fuel, hf⟩ := h
  obtain ⟨y0, y1, y2, y3, k, hx, -, h0, h1, h2, h3⟩ := trod_struct4 Try.underlying51 (by simpa [Value.cells] using hf)
  obtain ⟨row⟩ := cs
  match row, hsz with
  | [c0, c1, c2, c3, c4], _ =>
    simp [e_int, e_span, e_vals] at h0 h1 h2 h3
    simp only [Prod.mk.injEq] at hx
    obtain ⟨-, rfl⟩ := hx
    obtain ⟨k0, e0, -, -⟩ := DataW.trod_int Try.underlying3 h0
    obtain ⟨k1, e1, -, -⟩ := DataW.trod_int Try.underlying3 h1
    obtain ⟨z0, z1, k', -, -, g0, g1⟩ := trod_struct2 Try.underlying26 h2
    simp [e_int] at g0 g1
    obtain ⟨k2, e2, -, -⟩ := DataW.trod_int Try.underlying3 g0
    obtain ⟨k3, e3, -, -⟩ := DataW.trod_int Try.underlying3 g1
    obtain ⟨ao, m, cap, vs, rfl, hS⟩ := open_values ⟨k, h3⟩ (fun p hp => hlt p (by simp [hp]))
    simp at e0 e1 e2 e3
    subst e0 e1 e2 e3
    exact ⟨⟨k0, k1, k2, k3⟩, ao, m, cap, vs, rfl, hS⟩
end
end Go.Proofs.Ytjbiimpglmppiaa
