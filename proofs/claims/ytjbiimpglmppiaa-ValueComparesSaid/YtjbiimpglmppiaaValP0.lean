/-
  The types of the arguments of package value's laws, opened.
-/
import Derived.Test.YtjbiimpglmppiaaRows
import Derived.Test.YtjbiimpglmppiaaLaw
import Derived.Test.YtjbiimpglmppiaaValX
namespace Go.Proofs.Ytjbiimpglmppiaa
open Go.ChangeShapes Go.WideShapes Go.ChangeAt Go.RowKit Go.Joins Go.Deep
set_option linter.unusedVariables false

theorem own_knob : ownKnob Try.prog.godebug = none := by kernel_rfl
theorem laid_out : laidOutB Try.prog = true := by kernel_rfl
theorem cells_value : Try.prog.cellsOf 33 = 3 := by kernel_rfl
theorem cells_field : Try.prog.cellsOf 63 = 2 := by kernel_rfl
theorem cells_type : Try.prog.cellsOf 38 = 2 := by kernel_rfl
theorem bytes_value : Try.prog.bytesOf 33 = 32 := by kernel_rfl

section
variable {H : Type} {enc : TypeId × Value → H} {W : World} {base : Nat} {v : Value} {d : DataW H} {ps : List MemPlace}

/-- A value that came in. -/
theorem open_value (hv : Value.okWide Try.prog W .any base 33 v) (h : DataW.Trod enc Try.prog W 0 (fun _ => true) true 33 v d ps) :
    ∃ (k i : Int) (s : ByteArray), v = .agg #[.int .i64 k, .int .i64 i, .string s] ∧ s.size ≤ maxLen := by
  obtain ⟨c0, c1, c2, y0, y1, y2, m, rfl, rfl, rfl, hy0, hy1, hy2⟩ := open_agg3 Try.underlying33 (by kernel_rfl) cells_value hv h
  obtain ⟨a, e0, -, -⟩ := DataW.trod_int Try.underlying3 hy0
  obtain ⟨b, e1, -, -⟩ := DataW.trod_int Try.underlying3 hy1
  obtain ⟨s, e2, -, hs⟩ := DataW.trod_string Try.underlying9 hy2
  simp at e0 e1 e2
  subst e0 e1 e2
  exact ⟨a, b, s, rfl, hs⟩

theorem row_field {n : Nat} {row : List Value} {y : DataW H × List MemPlace} (hl : row.length = 2) (h : DataW.trod enc Try.prog W 0 (fun _ => true) true n 63 row = some y) : ∃ f : Fld, fldR W row f := by
  obtain ⟨y0, y1, m, -, -, h0, h1⟩ := trod_struct2 Try.underlying63 h
  match row, hl with
  | [c0, c1], _ =>
    obtain ⟨s, e0, -, hs⟩ := DataW.trod_string Try.underlying9 h0
    obtain ⟨k, e1, -, -⟩ := DataW.trod_int Try.underlying3 h1
    have q0 : Try.prog.cellsOf 9 = 1 := by kernel_rfl
    have q1 : Try.prog.cellsOf 3 = 1 := by kernel_rfl
    simp [q0] at e0
    simp [q1] at e1
    subst e0 e1
    exact ⟨⟨s, k⟩, rfl, hs⟩
theorem row_value {n : Nat} {row : List Value} {y : DataW H × List MemPlace} (hl : row.length = 3) (h : DataW.trod enc Try.prog W 0 (fun _ => true) true n 33 row = some y) : ∃ f : Val, valR W row f := by
  obtain ⟨y0, y1, y2, m, -, -, h0, h1, h2⟩ := trod_struct3 Try.underlying33 h
  match row, hl with
  | [c0, c1, c2], _ =>
    obtain ⟨k, e0, -, -⟩ := DataW.trod_int Try.underlying3 h0
    obtain ⟨i, e1, -, -⟩ := DataW.trod_int Try.underlying3 h1
    obtain ⟨s, e2, -, hs⟩ := DataW.trod_string Try.underlying9 h2
    have q0 : Try.prog.cellsOf 9 = 1 := by kernel_rfl
    have q1 : Try.prog.cellsOf 3 = 1 := by kernel_rfl
    simp [q1] at e0
    simp [q1] at e1
    simp [q0] at e2
    subst e0 e1 e2
    exact ⟨⟨k, i, s⟩, rfl, hs⟩

/-- A slice of fields; of values. -/
theorem open_fields (h : ∃ fuel, DataW.trod enc Try.prog W 0 (fun _ => true) true fuel 36 [v] = some (d, ps)) (hlt : ∀ p ∈ ps, p.block < W.heap.size) :
    ∃ ao n cap fs, v = .slice ao n cap ∧ SlR W 2 fldR ao n cap fs :=
  open_rows Try.underlying36 cells_field (by omega) h hlt (fun n row y hl h _ => row_field hl h)
theorem open_values (h : ∃ fuel, DataW.trod enc Try.prog W 0 (fun _ => true) true fuel 27 [v] = some (d, ps)) (hlt : ∀ p ∈ ps, p.block < W.heap.size) :
    ∃ ao n cap vs, v = .slice ao n cap ∧ SlR W 3 valR ao n cap vs :=
  open_rows Try.underlying27 cells_value (by omega) h hlt (fun n row y hl h _ => row_value hl h)

/-- A type that came in. -/
theorem open_type (hv : Value.okWide Try.prog W .any base 38 v) (h : DataW.Trod enc Try.prog W 0 (fun _ => true) true 38 v d ps) (hlt : ∀ p ∈ ps, p.block < W.heap.size) :
    ∃ (nm : ByteArray) (ao : Option Addr) (n cap : Nat) (fs : List Fld), v = .agg #[.string nm, .slice ao n cap] ∧ nm.size ≤ maxLen ∧ SlR W 2 fldR ao n cap fs := by
  obtain ⟨c0, c1, y0, y1, m, rfl, rfl, rfl, hy0, hy1⟩ := open_agg2 Try.underlying38 (by kernel_rfl) cells_type hv h
  obtain ⟨s, e0, -, hs⟩ := DataW.trod_string Try.underlying9 hy0
  obtain ⟨ao, n, cap, fs, rfl, hS⟩ := open_fields ⟨m, hy1⟩ (fun p hp => hlt p (by simp [hp]))
  simp at e0
  subst e0
  exact ⟨s, ao, n, cap, fs, rfl, hs, hS⟩
/-- A slice's bytes, off the form's own reach. -/
theorem slice_bytes {P : Program} {ts : List TypeId} {ds : List (DataW H)} {ao : Option Addr} {n cap j : Nat} {t e : TypeId} (hsz : (DataW.weightsEach P ts ds).all (· ≤ reachBytes) = true) (ht : ts[j]? = some t) (hd : ds[j]? = some d) (hu : P.underlying t = some (.slice e))
    (h : DataW.Trod enc P W 0 (fun _ => true) true t (.slice ao n cap) d ps) : n * P.bytesOf e ≤ 140737488355328 := by
  have hl := Joins.sliceLen_Trod hu h
  obtain ⟨fuel, hf⟩ := h
  rcases open_slice hu (by simpa [Value.cells] using hf) with ⟨hcs, hx⟩ | ⟨a, len, cap', m, n', D, Pl, hcs, _, _, _, _, hx, _⟩
  · simp at hcs
    rw [hcs.2.1]; simp
  · simp only [Prod.mk.injEq] at hx
    rw [hx.1] at hd hl
    have h1 := sized_slice hsz ht hd hu
    simp only [Joins.sliceLen] at hl
    have h2 : n * P.bytesOf e ≤ reachBytes := Nat.le_trans (Nat.mul_le_mul_right _ (by omega)) h1
    exact Nat.le_trans h2 (by decide)
end
end Go.Proofs.Ytjbiimpglmppiaa
