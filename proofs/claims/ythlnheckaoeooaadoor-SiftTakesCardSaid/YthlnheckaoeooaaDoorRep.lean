/-
  Slices of structs in memory, as lists of rows of cells: for every program. A slice that is only read.
-/
import Derived.WalkKit
import Derived.ProofKit
import Derived.SizedLaws
import Derived.Lib.SmallJoins
import Derived.Deep.Slices
namespace Go.Proofs.YthlnheckaoeooaaDoor
open Go.RowKit Go.ChangeShapes Go.WideShapes Go.Deep

theorem below_step {a b c : World} (h : Below a.heap.size a b) (k : Below b.heap.size b c) : Below a.heap.size a c := h.trans (k.mono h.size)
theorem bcell {W w1 : World} (hb : Below W.heap.size W w1) : (∀ b o, b < W.heap.size → w1.cell? ⟨b, o, none⟩ = W.cell? ⟨b, o, none⟩) ∧ (∀ b o, b < W.heap.size → w1.frozen? ⟨b, o, none⟩ = W.frozen? ⟨b, o, none⟩) :=
  ⟨fun b o h => hb.cell (p := ⟨b, o, none⟩) h, fun b o h => hb.frozen (p := ⟨b, o, none⟩) h⟩
theorem ret_int {k : IntKind} {a b : Int} (h : a = b) : Ending.returned (.int k a) = .returned (.int k b) := by rw [h]
theorem ret_bool {a b : Bool} (h : a = b) : Ending.returned (.bool a) = .returned (.bool b) := by rw [h]
theorem ret_ii {k k' : IntKind} {a b c d : Int} (h : a = c) (h' : b = d) : Ending.returned (.tuple #[.int k a, .int k' b]) = .returned (.tuple #[.int k c, .int k' d]) := by rw [h, h']

/-- The row of k cells at a place reads as these values. -/
def RowAt (w : World) (b o k : Nat) (row : List Value) : Prop := row.length = k ∧ ∀ j, j < k → w.cell? ⟨b, o + j, none⟩ = some (row.getD j undef)

/-- A slice value that reads as a list: element i is a row of k cells, of which R says what it is. -/
def SlR {α : Type} (w : World) (k : Nat) (R : World → List Value → α → Prop) (ao : Option Addr) (n cap : Nat) (xs : List α) : Prop :=
  n = xs.length ∧ n ≤ cap ∧ cap ≤ maxLen ∧ (ao = none → cap = 0) ∧
  ∀ i (h : i < xs.length), ∃ b off row, ao = some ⟨b, off, none⟩ ∧ b < w.heap.size ∧ RowAt w b (off + i * k) k row ∧ R w row xs[i]

/-- What is said of a row stays true where nothing below the heap's end turns. -/
def Stays {α : Type} (R : World → List Value → α → Prop) : Prop := ∀ w w' row x, Below w.heap.size w w' → R w row x → R w' row x

theorem RowAt.mono {w w' : World} {b o k : Nat} {row : List Value} (h : RowAt w b o k row) (hb : Below w.heap.size w w') (hlt : b < w.heap.size) : RowAt w' b o k row :=
  ⟨h.1, fun j hj => (hb.cell (p := ⟨b, o + j, none⟩) hlt).trans (h.2 j hj)⟩

theorem SlR.mono {α : Type} {w w' : World} {k : Nat} {R : World → List Value → α → Prop} {ao : Option Addr} {n cap : Nat} {xs : List α} (h : SlR w k R ao n cap xs) (hR : Stays R) (hb : Below w.heap.size w w') : SlR w' k R ao n cap xs := by
  obtain ⟨h1, h2, h3, h5, h4⟩ := h
  refine ⟨h1, h2, h3, h5, fun i hi => ?_⟩
  obtain ⟨b, off, row, e, hlt, hr, hx⟩ := h4 i hi
  exact ⟨b, off, row, e, Nat.lt_of_lt_of_le hlt hb.size, hr.mono hb hlt, hR _ _ _ _ hb hx⟩

/-- Plain rows: R says just which cells they are. -/
def plain {α : Type} (c : α → List Value) : World → List Value → α → Prop := fun _ row x => row = c x
theorem SlR.len {α : Type} {w : World} {k : Nat} {R : World → List Value → α → Prop} {ao : Option Addr} {n cap : Nat} {xs : List α} (h : SlR w k R ao n cap xs) : n = xs.length := h.1
theorem SlR.le {α : Type} {w : World} {k : Nat} {R : World → List Value → α → Prop} {ao : Option Addr} {n cap : Nat} {xs : List α} (h : SlR w k R ao n cap xs) : n ≤ cap ∧ cap ≤ 9223372036854775807 := ⟨h.2.1, h.2.2.1⟩

/-- How many cells an element has, as the model asks for it. -/
def SizeIs (P : Program) (e k : Nat) : Prop := ∀ w, (sizeOf e).run P w = .ok k w

/-- An element's address, and its row. -/
theorem SlR.index {α : Type} {w : World} {k : Nat} {R : World → List Value → α → Prop} {ao : Option Addr} {n cap : Nat} {xs : List α} (h : SlR w k R ao n cap xs) {P : Program} {t e : TypeId} (ht : P.underlying t = some (.slice e)) (hs : SizeIs P e k) {i : Nat} (hi : i < xs.length) :
    ∃ b off row, (∀ wx, (Instr.indexAt t (.slice ao n cap) (.int .i64 i)).run P wx = .ok (.pointer (some ⟨b, off + i * k, none⟩)) wx) ∧ b < w.heap.size ∧ RowAt w b (off + i * k) k row ∧ R w row xs[i] := by
  obtain ⟨h1, h2, h3, _, h4⟩ := h
  obtain ⟨b, off, row, rfl, hlt, hr, hx⟩ := h4 i hi
  refine ⟨b, off, row, fun wx => ?_, hlt, hr, hx⟩
  have hin : (i : Int) < n := by omega
  have hsw := hs wx
  simp [Instr.indexAt, run_underlying ht, asIntOf, hsw, Addr.add]
  rw [if_pos (by omega)]
  by_cases e : i * k = 0
  · rw [if_pos e, e]; simp
  · rw [if_neg e]

/-- .. in the slice cut at k. -/
theorem SlR.index_cut {α : Type} {w : World} {k : Nat} {R : World → List Value → α → Prop} {ao : Option Addr} {n cap : Nat} {xs : List α} (h : SlR w k R ao n cap xs) {P : Program} {t e : TypeId} (ht : P.underlying t = some (.slice e)) (hs : SizeIs P e k) {i m : Nat} (hi : i < m) (hm : m ≤ xs.length) :
    ∃ b off row, (∀ wx, (Instr.indexAt t (.slice ao m cap) (.int .i64 i)).run P wx = .ok (.pointer (some ⟨b, off + i * k, none⟩)) wx) ∧ b < w.heap.size ∧ RowAt w b (off + i * k) k row ∧ R w row (xs[i]'(by omega)) := by
  obtain ⟨h1, h2, h3, h5, h4⟩ := h
  have h' : SlR w k R ao m cap (xs.take m) := ⟨by simp; omega, by omega, h3, h5, fun j hj => by
    obtain ⟨b, off, row, r⟩ := h4 j (by simp at hj; omega)
    exact ⟨b, off, row, by simpa using r⟩⟩
  obtain ⟨b, off, row, q1, q2, q3, q4⟩ := h'.index ht hs (i := i) (by simp; omega)
  exact ⟨b, off, row, q1, q2, q3, by simpa using q4⟩

/-- Rows of two cells, three cells: each cell by itself, as the walk asks for it. -/
theorem RowAt.two {w : World} {b o : Nat} {x y : Value} (h : RowAt w b o 2 [x, y]) : w.cell? ⟨b, o, none⟩ = some x ∧ w.cell? ⟨b, o + 1, none⟩ = some y :=
  ⟨h.2 0 (by omega), h.2 1 (by omega)⟩
theorem RowAt.three {w : World} {b o : Nat} {x y z : Value} (h : RowAt w b o 3 [x, y, z]) : w.cell? ⟨b, o, none⟩ = some x ∧ w.cell? ⟨b, o + 1, none⟩ = some y ∧ w.cell? ⟨b, o + 1 + 1, none⟩ = some z :=
  ⟨h.2 0 (by omega), h.2 1 (by omega), h.2 2 (by omega)⟩

end Go.Proofs.YthlnheckaoeooaaDoor
