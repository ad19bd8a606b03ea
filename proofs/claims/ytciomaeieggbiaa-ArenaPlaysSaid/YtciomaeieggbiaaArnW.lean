/-
  An arena in memory; its walks, first part: lending.
-/
import Derived.Test.YtciomaeieggbiaaProg
import Derived.Test.YtciomaeieggbiaaArnP
import Derived.Test.YtciomaeieggbiaaFoot
import Derived.Lib.Hide
import Derived.WalkSpells
import Derived.WalkLawsBesides
import Derived.Deep.QuietTactic
import Derived.BigQuiet
import Derived.Maps.AppendAt
import Derived.RegionTactic
namespace Go.Proofs.Ytciomaeieggbiaa
open Go.RowKit
set_option linter.unusedVariables false
set_option linter.unusedSimpArgs false

def clC (c : Cl) : List Value := [.bool c.used, .int .i64 c.turn, .int .i64 c.number, .int .i64 c.next]
theorem clC_len (cs : List Cl) : (cs.flatMap clC).length = cs.length * 4 := by
  induction cs with
  | nil => rfl
  | cons c cs ih => rw [List.flatMap_cons, List.length_append, ih]; simp [clC]; omega
theorem clC_at (cs : List Cl) : ∀ (i : Nat) (hi : i < cs.length) (j : Nat), j < 4 → (cs.flatMap clC)[i * 4 + j]? = (clC cs[i])[j]? := by
  induction cs with
  | nil => intro i hi; exact absurd hi (by simp)
  | cons c cs ih =>
    intro i hi j hj
    rw [List.flatMap_cons]
    cases i with
    | zero => rw [List.getElem?_append_left (by simp [clC]; omega)]; simp
    | succ i =>
      rw [List.getElem?_append_right (by simp [clC]; omega)]
      have e : (i + 1) * 4 + j - (clC c).length = i * 4 + j := by simp [clC]; omega
      rw [e]
      have := ih i (by simpa using hi) j hj
      simpa using this
theorem clC_set (cs : List Cl) : ∀ (i : Nat) (hi : i < cs.length) (j : Nat) (x : Cl) (u : Value), j < 4 → clC x = (clC cs[i]).set j u → (cs.flatMap clC).set (i * 4 + j) u = (cs.set i x).flatMap clC := by
  induction cs with
  | nil => intro i hi; exact absurd hi (by simp)
  | cons c cs ih =>
    intro i hi j x u hj hx
    cases i with
    | zero =>
      simp only [List.getElem_cons_zero] at hx
      rw [List.set_cons_zero, List.flatMap_cons, List.flatMap_cons, hx, List.set_append_left _ _ (by simp [clC]; omega)]
      simp
    | succ i =>
      rw [List.flatMap_cons, List.set_cons_succ, List.flatMap_cons, List.set_append_right _ _ (by simp [clC]; omega)]
      have e : (i + 1) * 4 + j - (clC c).length = i * 4 + j := by simp [clC]; omega
      rw [e, ih i (by simpa using hi) j x u hj (by simpa using hx)]

/-- An arena at a block: its cells, the first free one, how many are lent. -/
def ArenaAt (B b : Nat) (cs : List Cl) (f : Int) (c : Int) (w : World) : Prop := B ≤ b ∧ ∃ v, w.heap[b]? = some (.cells #[v, .int .i64 f, .int .i64 c] 62 (0, 0)) ∧ w.ownsRow B 115 4 v cs.length (cs.flatMap clC)
theorem ne_arena : 62 ≠ 115 := by decide
theorem arena_new (w : World) : ArenaAt w.heap.size w.heap.size [] (-1) 0 (w.alloc (.cells #[.slice none 0 0, .int .i64 (-1), .int .i64 0] 62)) :=
  ⟨Nat.le_refl _, .slice none 0 0, heap_alloc_new w _, World.ownsRow_nil _ _ _ _⟩
theorem ArenaAt.same {B b : Nat} {cs : List Cl} {f c : Int} {w w' : World} (h : ArenaAt B b cs f c w) (hs : ∀ k, k < w.heap.size → k = b ∨ (∀ v x y e fr, w.heap[b]? = some (.cells #[v, x, y] e fr) → v.ownBlock = some k) → w'.heap[k]? = w.heap[k]?) : ArenaAt B b cs f c w' := by
  obtain ⟨hB, v, hbk, hown⟩ := h
  have hlt := (Array.getElem?_eq_some_iff.1 hbk).1
  refine ⟨hB, v, (hs b hlt (Or.inl rfl)).trans hbk, owns_same hown (fun g hg hlt => hs g hlt (Or.inr fun v' x y e fr h' => ?_))⟩
  rw [hbk] at h'
  injection h' with h'; injection h' with h'
  simp at h'
  rw [← h'.1]; exact hg
theorem ArenaAt.below {B b : Nat} {cs : List Cl} {f c : Int} {w w' : World} (h : ArenaAt B b cs f c w) (hb : Below w.heap.size w w') : ArenaAt B b cs f c w' :=
  h.same fun k hk _ => hb.block k hk
theorem ArenaAt.lt {B b : Nat} {cs : List Cl} {f c : Int} {w : World} (h : ArenaAt B b cs f c w) : b < w.heap.size := by
  obtain ⟨hB, v, hbk, hown⟩ := h
  exact (Array.getElem?_eq_some_iff.1 hbk).1
/-- A block that is neither the arena's own nor its cells'. -/
def Away (b k : Nat) (w : World) : Prop := k ≠ b ∧ ∀ v x y e fr, w.heap[b]? = some (.cells #[v, x, y] e fr) → v.ownBlock ≠ some k
/-- What lies away stays as it was. -/
def Spares (b : Nat) (w w' : World) : Prop := ∀ k, k < w.heap.size → Away b k w → w'.heap[k]? = w.heap[k]? ∧ Away b k w'
theorem Spares.refl (b : Nat) (w : World) : Spares b w w := fun k _ h => ⟨rfl, h⟩
theorem Spares.trans {b : Nat} {u v w : World} (h : Spares b u v) (k : Spares b v w) (hs : u.heap.size ≤ v.heap.size) : Spares b u w := fun i hi ha => by
  obtain ⟨h1, h2⟩ := h i hi ha
  obtain ⟨h3, h4⟩ := k i (by omega) h2
  exact ⟨h3.trans h1, h4⟩
theorem Spares.below {b : Nat} {w w' : World} (hb : b < w.heap.size) (h : Below w.heap.size w w') : Spares b w w' := fun k hk ⟨h1, h2⟩ =>
  ⟨h.block k hk, h1, fun v x y e fr hv => h2 v x y e fr (by rw [← hv]; exact (h.block b hb).symm)⟩
theorem ArenaAt.away {B b k : Nat} {cs : List Cl} {f c : Int} {w w' : World} (h : ArenaAt B b cs f c w) (hk : w.heap.size ≤ k) (hw : w'.heap[b]? = w.heap[b]?) : Away b k w' := by
  obtain ⟨hB, v, hbk, hown⟩ := h
  have hlt := (Array.getElem?_eq_some_iff.1 hbk).1
  refine ⟨by omega, fun v' x y e fr hv' he => ?_⟩
  rw [hw, hbk] at hv'
  injection hv' with hv'; injection hv' with hv'
  simp at hv'
  obtain ⟨rfl, _⟩ := hv'
  rcases hown.2 with ⟨hv, _⟩ | ⟨g, cap, cur, hv, _, hg, _⟩
  · subst hv; simp [Value.ownBlock] at he
  · subst hv
    have := (Array.getElem?_eq_some_iff.1 hg).1
    simp [Value.ownBlock] at he
    omega

theorem own_ne_at {w : World} {B e k n : Nat} {v : Value} {rs : List Value} (h : w.ownsRow B e k v n rs) {b T : Nat} {cs : Array Value} {fr : Nat × Nat} (hb : w.heap[b]? = some (.cells cs T fr)) (hTe : T ≠ e) : v.ownBlock ≠ some b := by
  rcases h.2 with ⟨hv, _⟩ | ⟨g, cap, cur, hv, _, hg, _⟩
  · subst hv; simp [Value.ownBlock]
  · subst hv
    intro he
    simp [Value.ownBlock] at he
    subst he
    rw [hg] at hb
    injection hb with hb; injection hb with _ h2
    exact hTe h2.symm
/-- A cell of an own row stored. -/
theorem owns_set {w : World} {B : Nat} {e k n : Nat} {g cap : Nat} {rs : List Value} (h : w.ownsRow B e k (.slice (some ⟨g, 0, none⟩) n cap) n rs) (i : Nat) (hi : i < n * k) (u : Value) : (w.setCell ⟨g, i, none⟩ u).ownsRow B e k (.slice (some ⟨g, 0, none⟩) n cap) n (rs.set i u) := by
  obtain ⟨h1, h2⟩ := h
  rcases h2 with ⟨e1, _⟩ | ⟨g', cap', cur, e1, hg, hh, hnc, hcm, hsz, htk⟩
  · cases e1
  · simp at e1
    obtain ⟨rfl, rfl⟩ := e1
    refine ⟨by rw [List.length_set]; exact h1, Or.inr ⟨g, cap, cur.setIfInBounds i u, rfl, hg, ?_, hnc, hcm, by simpa using hsz, ?_⟩⟩
    · simp [World.setCell, Array.getElem?_modify, hh]
    · rw [← htk, Array.toList_setIfInBounds, List.take_set]
/-- What the cells of an arena are, as a walk asks. -/
theorem ArenaAt.open {B b : Nat} {cs : List Cl} {f c : Int} {w : World} (h : ArenaAt B b cs f c w) :
    ∃ ao n cap, n = cs.length ∧ n ≤ cap ∧ cap ≤ 9223372036854775807 ∧ w.cell? ⟨b, 0, none⟩ = some (.slice ao n cap) ∧ w.cell? ⟨b, 1, none⟩ = some (.int .i64 f) ∧ w.cell? ⟨b, 2, none⟩ = some (.int .i64 c) ∧
      (∀ j, w.frozen? ⟨b, j, none⟩ = false) ∧ w.heap[b]? = some (.cells #[.slice ao n cap, .int .i64 f, .int .i64 c] 62 (0, 0)) ∧ w.ownsRow B 115 4 (.slice ao n cap) n (cs.flatMap clC) ∧
      (0 < cs.length → ∃ g, ao = some ⟨g, 0, none⟩ ∧ g ≠ b ∧ B ≤ g ∧ g < w.heap.size ∧ (∀ j, w.frozen? ⟨g, j, none⟩ = false) ∧
        ∀ i (hi : i < cs.length), w.cell? ⟨g, i * 4, none⟩ = some (.bool cs[i].used) ∧ w.cell? ⟨g, i * 4 + 1, none⟩ = some (.int .i64 cs[i].turn) ∧ w.cell? ⟨g, i * 4 + 2, none⟩ = some (.int .i64 cs[i].number) ∧ w.cell? ⟨g, i * 4 + 3, none⟩ = some (.int .i64 cs[i].next)) := by
  obtain ⟨hB, v, hbk, hown⟩ := h
  have hne := own_ne_at hown hbk ne_arena
  rcases hown.2 with ⟨hv, h0⟩ | ⟨g, cap, cur, hv, hg, hh, hnc, hcm, hsz, htk⟩
  · subst hv
    refine ⟨none, 0, 0, h0.symm, Nat.le_refl _, by omega, ?_, ?_, ?_, fun j => Lib.frozen_of_heap hbk j, hbk, ?_, fun h => by omega⟩
    · rw [Lib.cell_of_heap hbk]; rfl
    · rw [Lib.cell_of_heap hbk]; rfl
    · rw [Lib.cell_of_heap hbk]; rfl
    · rw [h0] at hown; exact hown
  · subst hv
    have hgb : g ≠ b := fun e => hne (by simp [Value.ownBlock, e])
    refine ⟨some ⟨g, 0, none⟩, cs.length, cap, rfl, hnc, hcm, ?_, ?_, ?_, fun j => Lib.frozen_of_heap hbk j, hbk, hown, fun _ => ⟨g, rfl, hgb, hg, (Array.getElem?_eq_some_iff.1 hh).1, fun j => Lib.frozen_of_heap hh j, fun i hi => ?_⟩⟩
    · rw [Lib.cell_of_heap hbk]; rfl
    · rw [Lib.cell_of_heap hbk]; rfl
    · rw [Lib.cell_of_heap hbk]; rfl
    · have key : ∀ j, j < 4 → w.cell? ⟨g, i * 4 + j, none⟩ = (clC cs[i])[j]? := fun j hj => by
        rw [Lib.cell_of_heap hh, ← clC_at cs i hi j hj, ← htk, List.getElem?_take, if_pos (by omega), Array.getElem?_toList]
      exact ⟨by simpa [clC] using key 0 (by omega), by simpa [clC] using key 1 (by omega), by simpa [clC] using key 2 (by omega), by simpa [clC] using key 3 (by omega)⟩
/-- A field of a cell stored; the arena's own fields stored. -/
theorem ArenaAt.store {B b g n cap : Nat} {cs : List Cl} {f c : Int} {w : World} (hB : B ≤ b) (hbk : w.heap[b]? = some (.cells #[.slice (some ⟨g, 0, none⟩) n cap, .int .i64 f, .int .i64 c] 62 (0, 0))) (hown : w.ownsRow B 115 4 (.slice (some ⟨g, 0, none⟩) n cap) n (cs.flatMap clC)) (hn : n = cs.length) (hgb : g ≠ b)
    (i : Nat) (hi : i < cs.length) (j : Nat) (hj : j < 4) (x : Cl) (u : Value) (hx : clC x = (clC cs[i]).set j u) :
    (w.setCell ⟨g, i * 4 + j, none⟩ u).heap[b]? = some (.cells #[.slice (some ⟨g, 0, none⟩) n cap, .int .i64 f, .int .i64 c] 62 (0, 0)) ∧ (w.setCell ⟨g, i * 4 + j, none⟩ u).ownsRow B 115 4 (.slice (some ⟨g, 0, none⟩) n cap) n ((cs.set i x).flatMap clC) := by
  refine ⟨?_, ?_⟩
  · rw [Below.heap_setCell _ _ _ _ (fun e => hgb (by simpa using e.symm))]; exact hbk
  · have := owns_set hown (i * 4 + j) (by omega) u
    rw [clC_set cs i hi j x u hj hx] at this
    exact this
/-- The arena's own numbers stored. -/
theorem arena_put {B b g n cap : Nat} {x y : Value} {e : TypeId} {rs : List Value} {w : World} (hbk : w.heap[b]? = some (.cells #[.slice (some ⟨g, 0, none⟩) n cap, x, y] 62 (0, 0))) (hown : w.ownsRow B e 4 (.slice (some ⟨g, 0, none⟩) n cap) n rs) (hgb : g ≠ b) (u : Value) :
    ((w.setCell ⟨b, 1, none⟩ u).heap[b]? = some (.cells #[.slice (some ⟨g, 0, none⟩) n cap, u, y] 62 (0, 0)) ∧ (w.setCell ⟨b, 1, none⟩ u).ownsRow B e 4 (.slice (some ⟨g, 0, none⟩) n cap) n rs) ∧
    ((w.setCell ⟨b, 2, none⟩ u).heap[b]? = some (.cells #[.slice (some ⟨g, 0, none⟩) n cap, x, u] 62 (0, 0)) ∧ (w.setCell ⟨b, 2, none⟩ u).ownsRow B e 4 (.slice (some ⟨g, 0, none⟩) n cap) n rs) := by
  have hs : ∀ j, (w.setCell ⟨b, j, none⟩ u).ownsRow B e 4 (.slice (some ⟨g, 0, none⟩) n cap) n rs := fun j =>
    owns_same hown (fun g' hg' hlt => Below.heap_setCell _ _ _ _ (fun e => hgb (by simp [Value.ownBlock] at hg'; simp at e; omega)))
  refine ⟨⟨?_, hs 1⟩, ⟨?_, hs 2⟩⟩
  · simp [World.setCell, Array.getElem?_modify, hbk]
  · simp [World.setCell, Array.getElem?_modify, hbk]
theorem spares_of {b : Nat} {v v' x y x' y' : Value} {e e' : TypeId} {fr fr' : Nat × Nat} {w w' : World} (hbk : w.heap[b]? = some (.cells #[v, x, y] e fr)) (hbk' : w'.heap[b]? = some (.cells #[v', x', y'] e' fr'))
    (hv : v'.ownBlock = v.ownBlock ∨ ∃ g, v'.ownBlock = some g ∧ w.heap.size ≤ g) (hs : ∀ k, k < w.heap.size → k ≠ b → v.ownBlock ≠ some k → w'.heap[k]? = w.heap[k]?) : Spares b w w' := fun k hk ⟨h1, h2⟩ => by
  have hvk := h2 _ _ _ _ _ hbk
  refine ⟨hs k hk h1 hvk, h1, fun v2 x2 y2 e2 fr2 h3 => ?_⟩
  rw [hbk'] at h3
  injection h3 with h3; injection h3 with h3
  simp at h3
  rw [← h3.1]
  rcases hv with e | ⟨g, e, hg⟩
  · rw [e]; exact hvk
  · rw [e]; intro he; injection he; omega
end Go.Proofs.Ytciomaeieggbiaa
