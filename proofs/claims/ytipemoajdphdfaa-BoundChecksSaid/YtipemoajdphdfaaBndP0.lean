/-
  The types of the arguments of package bound's laws, opened.
-/
import Derived.Test.YtipemoajdphdfaaRows
import Derived.Test.YtipemoajdphdfaaLaw
import Derived.Test.YtipemoajdphdfaaBndL
import Derived.SizedLaws
namespace Go.Proofs.Ytipemoajdphdfaa
open Go.ChangeShapes Go.WideShapes Go.ChangeAt Go.RowKit Go.Joins Go.Deep
set_option linter.unusedVariables false

theorem own_knob : ownKnob Try.prog.godebug = none := by kernel_rfl
theorem laid_out : laidOutB Try.prog = true := by kernel_rfl
theorem cells_int : Try.prog.cellsOf 3 = 1 := by kernel_rfl
theorem cells_ints : Try.prog.cellsOf 67 = 1 := by kernel_rfl
theorem bytes_int : Try.prog.bytesOf 3 = 8 := by kernel_rfl
theorem bytes_ints : Try.prog.bytesOf 67 = 24 := by kernel_rfl

theorem weightsAll_mem {H : Type} {P : Program} {e : TypeId} : ∀ {l : List (DataW H)} {d : DataW H}, d ∈ l → ∀ n ∈ d.weights P e, n ∈ DataW.weightsAll P e l
  | x :: l, d, hd, n, hn => by
    simp only [DataW.weightsAll]
    rcases List.mem_cons.1 hd with rfl | hd
    · exact List.mem_append_left _ hn
    · exact List.mem_append_right _ (weightsAll_mem hd n hn)

/-- open_rows, with what each row weighs. -/
theorem open_rows_sized {α H : Type} {enc : TypeId × Value → H} {P : Program} {w : World} {t e k B : Nat} {v : Value} {d : DataW H} {ps : List MemPlace} {R : World → List Value → α → Prop}
    (ht : P.underlying t = some (.slice e)) (hk : P.cellsOf e = k) (hk0 : 0 < k) (h : ∃ fuel, DataW.trod enc P w 0 (fun _ => true) true fuel t [v] = some (d, ps)) (hlt : ∀ p ∈ ps, p.block < w.heap.size) (hB : ∀ q ∈ d.weights P t, q ≤ B)
    (hR : ∀ (n : Nat) (row : List Value) (y : DataW H × List MemPlace), row.length = k → DataW.trod enc P w 0 (fun _ => true) true n e row = some y → (∀ p ∈ y.2, p.block < w.heap.size) → (∀ q ∈ y.1.weights P e, q ≤ B) → ∃ x, R w row x) :
    ∃ (ao : Option Addr) (n cap : Nat) (xs : List α), v = .slice ao n cap ∧ SlR w k R ao n cap xs ∧ n * P.bytesOf e ≤ B := by
  obtain ⟨fuel, h⟩ := h
  rcases open_slice ht h with ⟨hcs, hx⟩ | ⟨a, len, cap, m, n, D, Pl, hcs, _, hl, hm, hmm, hx, hel⟩
  · simp only [List.cons.injEq, and_true] at hcs
    exact ⟨none, 0, 0, [], hcs, ⟨by simp, by simp, by simp, by simp, fun i hi => absurd hi (by simp)⟩, by simp⟩
  · simp only [List.cons.injEq, and_true] at hcs
    simp only [if_true] at hmm
    subst hmm
    simp only [Prod.mk.injEq] at hx
    obtain ⟨rfl, rfl⟩ := hx
    simp only [DataW.weights, ht, List.mem_cons, List.mem_append] at hB
    have hlen8 : len * P.bytesOf e ≤ B := Nat.le_trans (Nat.mul_le_mul_right _ (by simp)) (hB _ (Or.inl rfl))
    have key : ∀ i, i < len → ∃ x : α, ∃ b off row, a = ⟨b, off, none⟩ ∧ b < w.heap.size ∧ RowAt w b (off + i * k) k row ∧ R w row x := by
      intro i hi
      obtain ⟨cs', h1, h2⟩ := hel i (by omega)
      rw [hk] at h1
      obtain ⟨_, hlen, hc⟩ := World.cells?_some h1
      obtain ⟨x, hx⟩ := hR n cs' (D i, Pl i) hlen h2 (fun p hp => hlt p (by simp only [List.mem_append, List.mem_flatMap, List.mem_range]; exact Or.inr ⟨i, by omega, hp⟩)) (fun q hq => hB q (Or.inr (Or.inl (weightsAll_mem (List.mem_map.2 ⟨i, List.mem_range.2 hi, rfl⟩) q hq))))
      obtain ⟨cs0, h10, _⟩ := hel 0 (by omega)
      rw [hk] at h10
      obtain ⟨_, hlen0, hc0⟩ := World.cells?_some h10
      have hc00 := hc0 0 hk0
      rw [List.getElem?_eq_getElem (by omega)] at hc00
      obtain ⟨b, off, spot⟩ := a
      have hspot : spot = none := by simpa [Addr.add] using World.cell?_spot hc00
      subst hspot
      refine ⟨x, b, off, cs', rfl, by simpa [Addr.add] using World.block_lt_of_cell? w _ hc00, ⟨hlen, fun j hj => ?_⟩, hx⟩
      have := hc j hj
      rw [add_add, Go.WideShapes.add_plain] at this
      rw [Nat.add_assoc, this, List.getElem?_eq_getElem (by omega)]
      simp [List.getD, List.getElem?_eq_getElem (show j < cs'.length by omega)]
    have hch : ∃ xs : List α, xs.length = len ∧ ∀ i (h : i < xs.length), ∃ b off row, a = ⟨b, off, none⟩ ∧ b < w.heap.size ∧ RowAt w b (off + i * k) k row ∧ R w row xs[i] := by
      classical
      refine ⟨(List.range len).attach.map (fun i => Classical.choose (key i.1 (List.mem_range.1 i.2))), by simp, fun i hi => ?_⟩
      have hi' : i < len := by simpa using hi
      have := Classical.choose_spec (key i hi')
      simpa using this
    obtain ⟨xs, hxl, hxs⟩ := hch
    refine ⟨some a, len, _, xs, hcs, ⟨hxl.symm, hl, hm, by simp, fun i hi => ?_⟩, hlen8⟩
    obtain ⟨b, off, row, e, r⟩ := hxs i hi
    exact ⟨b, off, row, by rw [e], r⟩

section
variable {H : Type} {enc : TypeId × Value → H} {W : World} {base : Nat} {v : Value} {d : DataW H} {ps : List MemPlace}

theorem row_int {n : Nat} {row : List Value} {y : DataW H × List MemPlace} (hl : row.length = 1) (h : DataW.trod enc Try.prog W 0 (fun _ => true) true n 3 row = some y) : ∃ x : Int, intR W row x := by
  match row, hl with
  | [c], _ =>
    obtain ⟨k, e, -, -⟩ := DataW.trod_int Try.underlying3 h
    exact ⟨k, e⟩
theorem row_line {n : Nat} {row : List Value} {y : DataW H × List MemPlace} (hl : row.length = 1) (h : DataW.trod enc Try.prog W 0 (fun _ => true) true n 67 row = some y) (hlt : ∀ p ∈ y.2, p.block < W.heap.size) (hB : ∀ q ∈ y.1.weights Try.prog 67, q ≤ reachBytes) : ∃ xs : List Int, lineR W row xs := by
  match row, hl with
  | [c], _ =>
    obtain ⟨ao, n', cap, xs, rfl, hS, h8⟩ := open_rows_sized (R := intR) Try.underlying67 cells_int (by omega) ⟨n, h⟩ hlt hB (fun _ _ _ hl h _ _ => row_int hl h)
    rw [bytes_int, hS.len] at h8
    exact ⟨xs, ao, n', cap, rfl, hS, Nat.le_trans h8 (by decide)⟩
theorem open_matrix {qa : Option Addr} {qb qc : Nat} (h : DataW.Trod enc Try.prog W 0 (fun _ => true) true 23 (.slice qa qb qc) d ps) (hlt : ∀ p ∈ ps, p.block < W.heap.size) (hB : ∀ q ∈ d.weights Try.prog 23, q ≤ reachBytes) :
    ∃ m : List (List Int), SlR W 1 lineR qa qb qc m ∧ qb * 24 ≤ 140737488355328 := by
  obtain ⟨fuel, hf⟩ := h
  obtain ⟨ao, n, cap, m, ev, hS, h8⟩ := open_rows_sized (R := lineR) Try.underlying23 cells_ints (by omega) ⟨fuel, by simpa [Value.cells] using hf⟩ hlt hB (fun _ _ _ hl h hp hq => row_line hl h hp hq)
  obtain ⟨rfl, rfl, rfl⟩ : qa = ao ∧ qb = n ∧ qc = cap := by simpa using ev
  rw [bytes_ints] at h8
  exact ⟨m, hS, Nat.le_trans h8 (by decide)⟩
end
end Go.Proofs.Ytipemoajdphdfaa
