/-
  Square matrices of the call's own, that are written in place: blocks apart. And the walks that make and write them: own, pair, join, merged.
-/
import Derived.Test.YtldbgbcabenegaaBndX
import Derived.WalkSpells
import Derived.Lib.Hide
namespace Go.Proofs.Ytldbgbcabenegaa
open Go.RowKit
set_option linter.unusedVariables false
set_option linter.unusedSimpArgs false

/-- A square matrix in memory: its rows in blocks of their own, each apart from the others and from the block that holds the rows. -/
structure Grid (F : Nat → Prop) (w : World) (ao : Option Addr) (n cap : Nat) (gs : Nat → Nat) (g : Nat → Nat → Int) : Prop where
  le : n ≤ cap
  max : cap ≤ maxLen
  nil : ao = none → cap = 0
  row : ∀ r, r < n → ∃ A rc cur, ao = some ⟨A, 0, none⟩ ∧ F A ∧ gs r ≠ A ∧ A < w.heap.size ∧ w.cell? ⟨A, r, none⟩ = some (.slice (some ⟨gs r, 0, none⟩) n rc) ∧ n ≤ rc ∧ rc ≤ maxLen ∧ w.heap[gs r]? = some (.cells cur 3 (0, 0)) ∧ (∀ c, c < n → cur[c]? = some (.int .i64 (g r c))) ∧ F (gs r)
  apart : ∀ r s, r < n → s < n → r ≠ s → gs r ≠ gs s

theorem Grid.same {F G : Nat → Prop} {w w' : World} {ao : Option Addr} {n cap : Nat} {gs : Nat → Nat} {g : Nat → Nat → Int} (h : Grid F w ao n cap gs g) (hs : Same F G w w') : Grid G w' ao n cap gs g := by
  refine ⟨h.le, h.max, h.nil, fun r hr => ?_, h.apart⟩
  obtain ⟨A, rc, cur, e, hA, hne, hlt, hc, h1, h2, hh, hcur, hF⟩ := h.row r hr
  have hg : gs r < w.heap.size := (Array.getElem?_eq_some_iff.1 hh).1
  refine ⟨A, rc, cur, e, (hs.2 A hA hlt).1, hne, Nat.lt_of_lt_of_le hlt hs.1, ?_, h1, h2, by rw [(hs.2 _ hF hg).2]; exact hh, hcur, (hs.2 _ hF hg).1⟩
  exact (World.cell?_of_block (w := w) (a := ⟨A, r, none⟩) (hs.2 A hA hlt).2).trans hc
theorem Grid.below {F : Nat → Prop} {w w' : World} {ao : Option Addr} {n cap : Nat} {gs : Nat → Nat} {g : Nat → Nat → Int} (h : Grid F w ao n cap gs g) (hb : Below w.heap.size w w') : Grid F w' ao n cap gs g := h.same (Same.below hb)
theorem Grid.congr {F : Nat → Prop} {w : World} {ao : Option Addr} {n cap : Nat} {gs : Nat → Nat} {g g' : Nat → Nat → Int} (h : Grid F w ao n cap gs g) (hg : ∀ r c, r < n → c < n → g r c = g' r c) : Grid F w ao n cap gs g' := by
  refine ⟨h.le, h.max, h.nil, fun r hr => ?_, h.apart⟩
  obtain ⟨A, rc, cur, e, hA, hne, hlt, hc, h1, h2, hh, hcur, hF⟩ := h.row r hr
  exact ⟨A, rc, cur, e, hA, hne, hlt, hc, h1, h2, hh, fun c hcn => by rw [← hg r c hr hcn]; exact hcur c hcn, hF⟩
/-- One entry stored. -/
def put2 (g : Nat → Nat → Int) (i j : Nat) (v : Int) : Nat → Nat → Int := fun r c => if r = i ∧ c = j then v else g r c
theorem Grid.store {F : Nat → Prop} {w : World} {ao : Option Addr} {n cap : Nat} {gs : Nat → Nat} {g : Nat → Nat → Int} (h : Grid F w ao n cap gs g) {i j : Nat} (hi : i < n) (hj : j < n) (v : Int) :
    Grid F (w.setCell ⟨gs i, j, none⟩ (.int .i64 v)) ao n cap gs (put2 g i j v) := by
  refine ⟨h.le, h.max, h.nil, fun r hr => ?_, h.apart⟩
  obtain ⟨A, rc, cur, e, hA, hne, hlt, hc, h1, h2, hh, hcur, hF⟩ := h.row r hr
  obtain ⟨A', rc', cur', e', _, hne', _⟩ := h.row i hi
  obtain rfl : A = A' := by rw [e] at e'; injection e' with e'; injection e'
  have hcA : (w.setCell ⟨gs i, j, none⟩ (.int .i64 v)).cell? ⟨A, r, none⟩ = some (.slice (some ⟨gs r, 0, none⟩) n rc) := by
    rw [World.cell?_setCell_other _ _ _ _ (by intro e; injection e with e1; exact hne' e1)]; exact hc
  by_cases hri : r = i
  · subst hri
    refine ⟨A, rc, cur.setIfInBounds j (.int .i64 v), e, hA, hne, by simpa using hlt, hcA, h1, h2, ?_, fun c hcn => ?_, hF⟩
    · simp only [World.setCell, Array.getElem?_modify, if_true, hh, Option.map_some]
      simp
    · rw [Array.getElem?_setIfInBounds]
      have hjs : j < cur.size := by
        have := hcur j hj
        exact (Array.getElem?_eq_some_iff.1 this).1
      unfold put2
      by_cases hcj : j = c
      · subst hcj; simp [hjs]
      · rw [if_neg hcj, if_neg (by omega)]; exact hcur c hcn
  · refine ⟨A, rc, cur, e, hA, hne, by simpa using hlt, hcA, h1, h2, ?_, fun c hcn => ?_, hF⟩
    · rw [Below.heap_setCell _ _ _ _ (h.apart r i hr hi hri)]; exact hh
    · unfold put2
      rw [if_neg (fun h => hri h.1)]; exact hcur c hcn
/-- What the walk wants to know of row i and entry j. -/
theorem Grid.at {F : Nat → Prop} {w : World} {ao : Option Addr} {n cap : Nat} {gs : Nat → Nat} {g : Nat → Nat → Int} (h : Grid F w ao n cap gs g) {i : Nat} (hi : i < n) :
    ∃ A rc, A < w.heap.size ∧ gs i < w.heap.size ∧ F (gs i) ∧ gs i ≠ A ∧ n ≤ rc ∧ rc ≤ 9223372036854775807 ∧ (∀ wx, (Instr.indexAt 24 (.slice ao n cap) (.int .i64 i)).run Try.prog wx = .ok (.pointer (some ⟨A, i, none⟩)) wx) ∧
      w.cell? ⟨A, i, none⟩ = some (.slice (some ⟨gs i, 0, none⟩) n rc) ∧ ∀ j, j < n → w.cell? ⟨gs i, j, none⟩ = some (.int .i64 (g i j)) ∧ w.frozen? ⟨gs i, j, none⟩ = false ∧
        ∀ wx, (Instr.indexAt 38 (.slice (some ⟨gs i, 0, none⟩) n rc) (.int .i64 j)).run Try.prog wx = .ok (.pointer (some ⟨gs i, j, none⟩)) wx := by
  obtain ⟨A, rc, cur, e, hA, hne, hlt, hc, h1, h2, hh, hcur, hF⟩ := h.row i hi
  have hle := h.le
  have hmax := h.max
  unfold maxLen at h2 hmax
  refine ⟨A, rc, hlt, (Array.getElem?_eq_some_iff.1 hh).1, hF, hne, h1, h2, fun wx => ?_, hc, fun j hj => ⟨?_, ?_, fun wx => ?_⟩⟩
  · subst e
    simp [Instr.indexAt, run_underlying Try.underlying24, asIntOf, size_ints wx, Addr.add]
    rw [if_pos (by omega)]
    by_cases e0 : i = 0
    · rw [if_pos e0, e0]
    · rw [if_neg e0]
  · simp only [World.cell?, hh]
    simpa using hcur j hj
  · simp only [World.frozen?, hh]
    simp
  · simp [Instr.indexAt, run_underlying Try.underlying38, asIntOf, size_int wx, Addr.add]
    rw [if_pos (by omega)]
    by_cases e0 : j = 0
    · rw [if_pos e0, e0]
    · rw [if_neg e0]

/-- A square matrix as a list of rows. -/
def gridL (n : Nat) (g : Nat → Nat → Int) : List (List Int) := (List.range n).map fun r => (List.range n).map fun c => g r c
theorem gridL_congr {n : Nat} {g g' : Nat → Nat → Int} (h : ∀ r c, r < n → c < n → g r c = g' r c) : gridL n g = gridL n g' := by
  unfold gridL
  apply List.map_congr_left
  intro r hr
  apply List.map_congr_left
  intro c hc
  exact h r c (List.mem_range.1 hr) (List.mem_range.1 hc)
theorem Grid.toF {F : Nat → Prop} {w : World} {ao : Option Addr} {n cap : Nat} {gs : Nat → Nat} {g : Nat → Nat → Int} (h : Grid F w ao n cap gs g) (hn : n ≤ 1000) : SlF F w 1 lineF ao n cap (gridL n g) := by
  refine ⟨by simp [gridL], h.le, h.max, h.nil, fun i hi => ?_⟩
  have hi' : i < n := by simpa [gridL] using hi
  obtain ⟨A, rc, cur, e, hA, hne, hlt, hc, h1, h2, hh, hcur, hF⟩ := h.row i hi'
  refine ⟨A, 0, [.slice (some ⟨gs i, 0, none⟩) n rc], e, hA, hlt, ⟨rfl, fun j hj => ?_⟩, ?_⟩
  · obtain rfl : j = 0 := by omega
    simpa using hc
  · have hel : (gridL n g)[i] = (List.range n).map fun c => g i c := by simp [gridL]
    rw [hel]
    refine ⟨_, n, rc, rfl, ⟨by simp, h1, h2, by simp, fun c hc => ?_⟩, by simp; omega⟩
    have hcn : c < n := by simpa using hc
    refine ⟨gs i, 0, [.int .i64 (g i c)], rfl, hF, (Array.getElem?_eq_some_iff.1 hh).1, ⟨rfl, fun j hj => ?_⟩, ?_⟩
    · obtain rfl : j = 0 := by omega
      simp only [World.cell?, hh]
      simpa using hcur c hcn
    · show [_] = [_]
      simp
end Go.Proofs.Ytldbgbcabenegaa
