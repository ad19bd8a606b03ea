/-
  A slice of timers of one's own as the sort sees it, and as it leaves it.
-/
import Derived.Test.YtpnhkkjjdcjmgaaWiA
import Derived.Shelf.GgSortFunc.InsertionK
namespace Go.Proofs.Ytpnhkkjjdcjmgaa
open Go.RowKit Go.Sort
set_option linter.unusedVariables false
set_option linter.unusedSimpArgs false

/-- Timers within what the sort sees. -/
def boundL (xs : List Tm) (h : ∀ t ∈ xs, t.at_ ≤ 1099511627776 ∧ t.ord ≤ 1099511627776) : Array TmB := (xs.attach.map fun t => (⟨t.1, h t.1 t.2⟩ : TmB)).toArray
theorem boundL_size (xs : List Tm) (h : ∀ t ∈ xs, t.at_ ≤ 1099511627776 ∧ t.ord ≤ 1099511627776) : (boundL xs h).size = xs.length := by simp [boundL]
theorem boundL_list (xs : List Tm) (h : ∀ t ∈ xs, t.at_ ≤ 1099511627776 ∧ t.ord ≤ 1099511627776) : (boundL xs h).toList.map Subtype.val = xs := by simp [boundL]
theorem flatK_cell (d : Array TmB) (sp : List Value) {t : Nat} (ht : t < d.size * 3) : (rowsC (d.toList.map Subtype.val) ++ sp)[t]? = some ((flatK tmE 3 d)[t]!) := by
  have hj : t / 3 < (d.toList.map Subtype.val).length := by simp; omega
  have h := rowsC_get (d.toList.map Subtype.val) sp (t / 3) hj (t % 3) (by omega)
  rw [show t / 3 * 3 + t % 3 = t by omega] at h
  rw [h, get_flatK tmE 3 d t ht]
  have e1 : (d.toList.map Subtype.val)[t / 3] = d[t / 3]!.1 := by
    rw [getElem!_pos d (t / 3) (by simpa using hj)]
    simp
  rw [e1]
  have hq : t % 3 = 0 ∨ t % 3 = 1 ∨ t % 3 = 2 := by omega
  unfold tmE tmC
  rcases hq with q | q | q <;> rw [q] <;> rfl
theorem putCells_rows (d : Array TmB) (xs : List Tm) (sp : List Value) (hl : d.size = xs.length) : putCells id 0 (flatK tmE 3 d) (rowsC xs ++ sp).toArray = (rowsC (d.toList.map Subtype.val) ++ sp).toArray := by
  apply Array.ext_getElem?
  intro t
  have hlen : (rowsC (d.toList.map Subtype.val)).length = (rowsC xs).length := by rw [rowsC_len, rowsC_len]; simp [hl]
  unfold putCells
  rw [Array.getElem?_mapIdx]
  simp only [List.getElem?_toArray, Nat.zero_le, true_and, Nat.zero_add, size_flatK, Nat.sub_zero, id]
  by_cases ht : t < d.size * 3
  · have hx : ∃ x, (rowsC xs ++ sp)[t]? = some x := by
      rw [List.getElem?_eq_getElem (by rw [List.length_append, rowsC_len]; omega)]
      exact ⟨_, rfl⟩
    obtain ⟨x, hx⟩ := hx
    rw [hx, Option.map_some, if_pos ht, flatK_cell d sp ht]
  · rw [List.getElem?_append_right (by rw [rowsC_len]; omega), List.getElem?_append_right (by rw [hlen, rowsC_len]; omega), hlen]
    cases hs : sp[t - (rowsC xs).length]? with
    | none => rfl
    | some x => rw [Option.map_some, if_neg ht]
theorem size_pk (w : World) (blk off : Nat) (d : Array TmB) : (putRowK tmE 3 w blk off d).heap.size = w.heap.size := by simp [putRowK, putRow, mapBlock]
section
variable {g0 : Nat} {u w : World} {s : PS} {L : List Ent} {e : TypeId} {z : Nat} {d d' : Array TmB} {sp : List Value}
theorem Mem.holdsK {At : PS → World → Prop} {b : Nat} (M : Mem At b u w s (own z (rowsC (d.toList.map Subtype.val) ++ sp) e :: L)) : HoldsK tmE 3 w z 0 d := fun j hj => by
  have hO := M.own_ (List.mem_cons_self ..)
  rw [size_flatK] at hj
  refine ⟨?_, hO.frozen _⟩
  rw [Nat.zero_add, hO.cell, flatK_cell d sp hj]
  rfl
theorem Mem.sorted_ {n : Nat} {os : Array Obj} (M : Mem (StaysB g0 u) g0 u w s (own z (rowsC (d.toList.map Subtype.val) ++ sp) e :: L)) (hs : d'.size = d.size) : Mem (StaysB g0 u) g0 u (sortWorldK tmE 3 w z 0 n d' os) s (own z (rowsC (d'.toList.map Subtype.val) ++ sp) e :: L) := by
  have hO := M.own_ (List.mem_cons_self ..)
  have hne := M.ne (List.mem_cons_self ..)
  have hblk : ∀ k, k < w.heap.size → k ≠ z → (sortWorldK tmE 3 w z 0 n d' os).heap[k]? = w.heap[k]? := fun k hk hkz => by
    unfold sortWorldK
    rw [heap_grow_old _ _ (by rw [size_pk]; exact hk)]
    show (w.heap.modify z _)[k]? = _
    rw [Array.getElem?_modify, if_neg (Ne.symm hkz)]
  refine M.turned ⟨⟨rfl, rfl, rfl, ?_, fun k hk => hblk k (by omega) (by omega)⟩, hblk⟩ ?_
  · unfold sortWorldK
    rw [size_grow, size_pk]
    exact Nat.le_add_right w.heap.size os.size
  · show (sortWorldK tmE 3 w z 0 n d' os).heap[z]? = _
    unfold sortWorldK
    rw [heap_grow_old _ _ (by rw [size_pk]; exact hne.2.2)]
    show (w.heap.modify z _)[z]? = _
    have hh : w.heap[z]? = some (.cells (rowsC (d.toList.map Subtype.val) ++ sp).toArray e (0, 0)) := hO
    rw [Array.getElem?_modify, if_pos rfl, hh]
    show some (onCells _ _) = _
    show some (Obj.cells (putCells id 0 (flatK tmE 3 d') (rowsC (d.toList.map Subtype.val) ++ sp).toArray) e (0, 0)) = _
    rw [putCells_rows d' _ sp (by simp [hs])]
end
end Go.Proofs.Ytpnhkkjjdcjmgaa
