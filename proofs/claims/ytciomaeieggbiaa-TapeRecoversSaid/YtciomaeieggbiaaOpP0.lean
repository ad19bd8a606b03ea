/-
  Operations and acts as arguments, opened.
-/
import Derived.Test.YtciomaeieggbiaaKnob
import Derived.Test.YtciomaeieggbiaaActW
namespace Go.Proofs.Ytciomaeieggbiaa
open Go.ChangeShapes Go.WideShapes Go.ChangeAt Go.RowKit Go.Joins Go.Deep
set_option linter.unusedVariables false
set_option linter.unusedSimpArgs false

theorem cells_value : Try.prog.cellsOf 84 = 3 := by kernel_rfl

set_option linter.unusedVariables false

theorem q_string : Try.prog.cellsOf 9 = 1 := by kernel_rfl
theorem q_int : Try.prog.cellsOf 3 = 1 := by kernel_rfl
theorem q_bool : Try.prog.cellsOf 4 = 1 := by kernel_rfl
theorem q_span : Try.prog.cellsOf 30 = 2 := by kernel_rfl
theorem q_vals : Try.prog.cellsOf 31 = 1 := by kernel_rfl
theorem q_op : Try.prog.cellsOf 33 = 7 := by kernel_rfl
theorem q_act : Try.prog.cellsOf 41 = 10 := by kernel_rfl

section
variable {H : Type} {enc : TypeId × Value → H} {W : World} {base : Nat} {v : Value} {d : DataW H} {ps : List MemPlace}

set_option maxRecDepth 100000 in
theorem row_value {n : Nat} {row : List Value} {y : DataW H × List MemPlace} (hl : row.length = 3) (h : DataW.trod enc Try.prog W 0 (fun _ => true) true n 84 row = some y) : ∃ f : Val, valR W row f := by
  obtain ⟨y0, y1, y2, m, -, -, h0, h1, h2⟩ := trod_struct3 Try.underlying84 h
  match row, hl with
  | [c0, c1, c2], _ =>
    obtain ⟨k, e0, -, -⟩ := DataW.trod_int Try.underlying3 h0
    obtain ⟨i, e1, -, -⟩ := DataW.trod_int Try.underlying3 h1
    obtain ⟨s, e2, -, hs⟩ := DataW.trod_string Try.underlying9 h2
    have q0 : Try.prog.cellsOf 9 = 1 := by kernel_rfl
    have q1 : Try.prog.cellsOf 3 = 1 := by kernel_rfl
    simp [q1] at e0
    simp [q1] at e1
    simp [q0] at e2
    subst e0 e1 e2
    exact ⟨⟨k, i, s⟩, rfl, hs⟩
set_option maxRecDepth 100000 in
theorem open_values (h : ∃ fuel, DataW.trod enc Try.prog W 0 (fun _ => true) true fuel 31 [v] = some (d, ps)) (hlt : ∀ p ∈ ps, p.block < W.heap.size) :
    ∃ ao n cap vs, v = .slice ao n cap ∧ SlR W 3 valR ao n cap vs :=
  open_rows Try.underlying31 cells_value (by omega) h hlt (fun n row y hl h _ => row_value hl h)

set_option maxRecDepth 100000 in
theorem trod_bool' {P : Program} {t n : Nat} {c : Value} {y : DataW H × List MemPlace} (ht : P.underlying t = some .bool) (h : DataW.trod enc P W 0 (fun _ => true) true n t [c] = some y) : ∃ b : Bool, c = .bool b := by
  obtain ⟨b, e, -⟩ := DataW.trod_bool ht h
  simp at e
  exact ⟨b, e⟩

set_option maxRecDepth 100000 in
theorem row_op {n : Nat} {row : List Value} {y : DataW H × List MemPlace} (hl : row.length = 7) (h : DataW.trod enc Try.prog W 0 (fun _ => true) true n 33 row = some y) (hlt : ∀ p ∈ y.2, p.block < W.heap.size) :
    ∃ (o : Opn) (ao : Option Addr) (m cap : Nat) (vs : List Val), row = [.int .i64 o.kind, .string o.type, .int .i64 o.start, .int .i64 o.stop, .slice ao m cap, .int .i64 o.delta, .bool o.collect] ∧ o.type.size ≤ maxLen ∧ SlR W 3 valR ao m cap vs := by
  obtain ⟨xs, k, -, rfl, -, hxl, hf⟩ := DataW.trod_struct Try.underlying33 h
  match row, hl, xs, hxl with
  | [c0, c1, c2, c3, c4, c5, c6], _, [y0, y1, y2, y3, y4, y5], _ =>
    have h0 := hf 0 _ rfl; have h1 := hf 1 _ rfl; have h2 := hf 2 _ rfl; have h3 := hf 3 _ rfl; have h4 := hf 4 _ rfl; have h5 := hf 5 _ rfl
    simp [q_string, q_int, q_bool, q_span, q_vals] at h0 h1 h2 h3 h4 h5
    obtain ⟨k0, e0, -, -⟩ := DataW.trod_int Try.underlying3 h0
    obtain ⟨s1, e1, -, hs⟩ := DataW.trod_string Try.underlying9 h1
    obtain ⟨z0, z1, k', -, -, g0, g1⟩ := trod_struct2 Try.underlying30 h2
    simp [q_int] at g0 g1
    obtain ⟨k2, e2, -, -⟩ := DataW.trod_int Try.underlying3 g0
    obtain ⟨k3, e3, -, -⟩ := DataW.trod_int Try.underlying3 g1
    obtain ⟨ao, m, cap, vs, rfl, hS⟩ := open_values ⟨k, h3⟩ (fun p hp => hlt p (by simp [hp]))
    obtain ⟨k5, e5, -, -⟩ := DataW.trod_int Try.underlying3 h4
    obtain ⟨b6, rfl⟩ := trod_bool' Try.underlying4 h5
    simp at e0 e1 e2 e3 e5
    subst e0 e1 e2 e3 e5
    exact ⟨⟨k0, s1, k2, k3, k5, b6⟩, ao, m, cap, vs, rfl, hs, hS⟩

set_option maxRecDepth 100000 in
theorem open_op (hv : Value.okWide Try.prog W .any base 33 v) (h : DataW.Trod enc Try.prog W 0 (fun _ => true) true 33 v d ps) (hlt : ∀ p ∈ ps, p.block < W.heap.size) :
    ∃ (o : Opn) (ao : Option Addr) (m cap : Nat) (vs : List Val), v = o.val (.slice ao m cap) ∧ o.type.size ≤ maxLen ∧ SlR W 3 valR ao m cap vs := by
  obtain ⟨cs, rfl, hsz⟩ := okWide_struct Try.underlying33 hv
  obtain ⟨fuel, hf⟩ := h
  obtain ⟨o, ao, m, cap, vs, e, hs, hS⟩ := row_op (row := cs.toList) (by rw [Array.length_toList, hsz, q_op]) (by simpa [Value.cells] using hf) hlt
  refine ⟨o, ao, m, cap, vs, ?_, hs, hS⟩
  have : cs = cs.toList.toArray := by simp
  rw [this, e]; rfl

set_option maxRecDepth 100000 in
theorem open_act (hv : Value.okWide Try.prog W .any base 41 v) (h : DataW.Trod enc Try.prog W 0 (fun _ => true) true 41 v d ps) (hlt : ∀ p ∈ ps, p.block < W.heap.size) :
    ∃ (a : Ac) (ao : Option Addr) (m cap : Nat) (vs : List Val), v = a.val (.slice ao m cap) ∧ (a.op.type.size ≤ maxLen ∧ a.source.size ≤ maxLen) ∧ SlR W 3 valR ao m cap vs := by
  obtain ⟨cs, rfl, hsz⟩ := okWide_struct Try.underlying41 hv
  rw [q_act] at hsz
  obtain ⟨fuel, hf⟩ := h
  obtain ⟨xs, k, -, hx, -, hxl, hg⟩ := DataW.trod_struct Try.underlying41 (by simpa [Value.cells] using hf)
  obtain ⟨row⟩ := cs
  match row, hsz, xs, hxl with
  | [c0, c1, c2, c3, c4, c5, c6, c7, c8, c9], _, [y0, y1, y2, y3], _ =>
    have h0 := hg 0 _ rfl; have h1 := hg 1 _ rfl; have h2 := hg 2 _ rfl; have h3 := hg 3 _ rfl
    simp [q_string, q_int, q_op] at h0 h1 h2 h3
    simp only [Prod.mk.injEq] at hx
    obtain ⟨-, rfl⟩ := hx
    obtain ⟨k0, e0, -, -⟩ := DataW.trod_int Try.underlying3 h0
    obtain ⟨o, ao, m, cap, vs, e1, hs, hS⟩ := row_op rfl h1 (fun p hp => hlt p (by simp [hp]))
    obtain ⟨k2, e2, -, -⟩ := DataW.trod_int Try.underlying3 h2
    obtain ⟨s3, e3, -, hs3⟩ := DataW.trod_string Try.underlying9 h3
    simp at e0 e1 e2 e3
    obtain ⟨rfl, rfl, rfl, rfl, rfl, rfl, rfl⟩ := e1
    subst e0 e2 e3
    exact ⟨⟨k0, o, k2, s3⟩, ao, m, cap, vs, rfl, ⟨hs, hs3⟩, hS⟩
end
end Go.Proofs.Ytciomaeieggbiaa
