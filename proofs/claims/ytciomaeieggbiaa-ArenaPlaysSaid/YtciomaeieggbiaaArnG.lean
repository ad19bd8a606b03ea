/-
  What the reference of arena keeps in memory: boxes, the free ones, what was found.
-/
import Derived.Test.YtciomaeieggbiaaArnF
import Derived.Test.YtciomaeieggbiaaValW
import Derived.WalkSmall
namespace Go.Proofs.Ytciomaeieggbiaa
open Go.RowKit
set_option linter.unusedVariables false
set_option linter.unusedSimpArgs false

theorem in_is (n lo hi : Int) (b : Bool) (h : inB n lo hi = b) (w : World) : Calls Try.prog 24 #[.int .i64 n, .int .i64 lo, .int .i64 hi] w fun e w' => e = .returned (.bool b) ∧ w' = w := by
  rw [← h]; exact in_any n lo hi w
def bxC (c : Bx) : List Value := [.int .i64 c.turn, .int .i64 c.number]
theorem bxC_len (cs : List Bx) : (cs.flatMap bxC).length = cs.length * 2 := by
  induction cs with
  | nil => rfl
  | cons c cs ih => rw [List.flatMap_cons, List.length_append, ih]; simp [bxC]; omega
theorem bxC_at (cs : List Bx) : ∀ (i : Nat) (hi : i < cs.length) (j : Nat), j < 2 → (cs.flatMap bxC)[i * 2 + j]? = (bxC cs[i])[j]? := by
  induction cs with
  | nil => intro i hi; exact absurd hi (by simp)
  | cons c cs ih =>
    intro i hi j hj
    rw [List.flatMap_cons]
    cases i with
    | zero => rw [List.getElem?_append_left (by simp [bxC]; omega)]; simp
    | succ i =>
      rw [List.getElem?_append_right (by simp [bxC]; omega)]
      have e : (i + 1) * 2 + j - (bxC c).length = i * 2 + j := by simp [bxC]; omega
      rw [e]
      have := ih i (by simpa using hi) j hj
      simpa using this
theorem bxC_set (cs : List Bx) : ∀ (i : Nat) (hi : i < cs.length) (j : Nat) (x : Bx) (u : Value), j < 2 → bxC x = (bxC cs[i]).set j u → (cs.flatMap bxC).set (i * 2 + j) u = (cs.set i x).flatMap bxC := by
  induction cs with
  | nil => intro i hi; exact absurd hi (by simp)
  | cons c cs ih =>
    intro i hi j x u hj hx
    cases i with
    | zero =>
      simp only [List.getElem_cons_zero] at hx
      rw [List.set_cons_zero, List.flatMap_cons, List.flatMap_cons, hx, List.set_append_left _ _ (by simp [bxC]; omega)]
      simp
    | succ i =>
      rw [List.flatMap_cons, List.set_cons_succ, List.flatMap_cons, List.set_append_right _ _ (by simp [bxC]; omega)]
      have e : (i + 1) * 2 + j - (bxC c).length = i * 2 + j := by simp [bxC]; omega
      rw [e, ih i (by simpa using hi) j x u hj (by simpa using hx)]
def frC (fr : List Nat) : List Value := fr.reverse.map fun (a : Nat) => Value.int .i64 (a : Int)
/-- Boxes, free ones, found ones: each in its own row. -/
def BoxAt (B : Nat) (o : Value) (bs : List Bx) (w : World) : Prop := w.ownsRow B 74 2 o bs.length (bs.flatMap bxC)
def FreeAt (B : Nat) (o : Value) (fr : List Nat) (w : World) : Prop := w.ownsRow B 3 1 o fr.length (frC fr)
theorem box_new (B : Nat) (w : World) : BoxAt B (.slice none 0 0) [] w := World.ownsRow_nil _ _ _ _
theorem free_new (B : Nat) (w : World) : FreeAt B (.slice none 0 0) [] w := World.ownsRow_nil _ _ _ _
theorem own_low {w : World} {B e k n : Nat} {v : Value} {rs : List Value} (h : w.ownsRow B e k v n rs) : ∀ g, v.ownBlock = some g → g < w.heap.size := fun g hg => (h.lt g hg).2
theorem BoxAt.slice {B : Nat} {o : Value} {bs : List Bx} {w : World} (h : BoxAt B o bs w) : ∃ a c, o = .slice a bs.length c ∧ bs.length ≤ c ∧ c ≤ 9223372036854775807 := by
  rcases h.2 with ⟨hv, h0⟩ | ⟨g, cap, cur, hv, hg, hh, hnc, hcm, _⟩
  · exact ⟨none, 0, by rw [hv, h0], by omega, by omega⟩
  · exact ⟨_, cap, hv, hnc, hcm⟩
theorem FreeAt.slice {B : Nat} {o : Value} {fr : List Nat} {w : World} (h : FreeAt B o fr w) : ∃ a c, o = .slice a fr.length c ∧ fr.length ≤ c ∧ c ≤ 9223372036854775807 := by
  rcases h.2 with ⟨hv, h0⟩ | ⟨g, cap, cur, hv, hg, hh, hnc, hcm, _⟩
  · exact ⟨none, 0, by rw [hv, h0], by omega, by omega⟩
  · exact ⟨_, cap, hv, hnc, hcm⟩
theorem BoxAt.cells {B n c : Nat} {a : Option Addr} {bs : List Bx} {w : World} (h : BoxAt B (.slice a n c) bs w) (hpos : 0 < bs.length) : ∃ g, a = some ⟨g, 0, none⟩ ∧ B ≤ g ∧ g < w.heap.size ∧ (∀ j, w.frozen? ⟨g, j, none⟩ = false) ∧ (∃ cur, w.heap[g]? = some (.cells cur 74 (0, 0))) ∧
    ∀ i (hi : i < bs.length), w.cell? ⟨g, i * 2, none⟩ = some (.int .i64 bs[i].turn) ∧ w.cell? ⟨g, i * 2 + 1, none⟩ = some (.int .i64 bs[i].number) := by
  rcases h.2 with ⟨hv, h0⟩ | ⟨g, cap, cur, hv, hg, hh, hnc, hcm, hsz, htk⟩
  · omega
  · simp at hv
    obtain ⟨rfl, -, -⟩ := hv
    refine ⟨g, rfl, hg, (Array.getElem?_eq_some_iff.1 hh).1, fun j => Lib.frozen_of_heap hh j, ⟨cur, hh⟩, fun i hi => ?_⟩
    have key : ∀ j, j < 2 → w.cell? ⟨g, i * 2 + j, none⟩ = (bxC bs[i])[j]? := fun j hj => by
      rw [Lib.cell_of_heap hh, ← bxC_at bs i hi j hj, ← htk, List.getElem?_take, if_pos (by omega), Array.getElem?_toList]
    exact ⟨by simpa [bxC] using key 0 (by omega), by simpa [bxC] using key 1 (by omega)⟩
theorem FreeAt.top {B n c : Nat} {a : Option Addr} {t : Nat} {r : List Nat} {w : World} (h : FreeAt B (.slice a n c) (t :: r) w) : ∃ g, a = some ⟨g, 0, none⟩ ∧ B ≤ g ∧ g < w.heap.size ∧ w.cell? ⟨g, r.length, none⟩ = some (.int .i64 t) ∧ n = r.length + 1 ∧ FreeAt B (.slice a r.length c) r w := by
  have h0 := h
  rcases h.2 with ⟨hv, h0⟩ | ⟨g, cap, cur, hv, hg, hh, hnc, hcm, hsz, htk⟩
  · simp at h0
  · simp at hv
    obtain ⟨rfl, rfl, rfl⟩ := hv
    refine ⟨g, rfl, hg, (Array.getElem?_eq_some_iff.1 hh).1, ?_, rfl, ?_⟩
    · have e : (frC (t :: r))[r.length]? = some (.int .i64 t) := by simp [frC]
      rw [Lib.cell_of_heap hh, ← Array.getElem?_toList, ← e, ← htk, List.getElem?_take, if_pos (by simp)]
    · refine ownsRow_pop (last := [.int .i64 t]) (by simp [frC]) ?_
      have e : frC (t :: r) = frC r ++ [.int .i64 t] := by simp [frC]
      unfold FreeAt at h0
      rw [e] at h0
      exact h0
theorem BoxAt.same {B : Nat} {o : Value} {bs : List Bx} {w w' : World} (h : BoxAt B o bs w) (hs : ∀ g, o.ownBlock = some g → g < w.heap.size → w'.heap[g]? = w.heap[g]?) : BoxAt B o bs w' := owns_same h hs
theorem FreeAt.same {B : Nat} {o : Value} {fr : List Nat} {w w' : World} (h : FreeAt B o fr w) (hs : ∀ g, o.ownBlock = some g → g < w.heap.size → w'.heap[g]? = w.heap[g]?) : FreeAt B o fr w' := owns_same h hs
theorem BoxAt.store {B g n c : Nat} {bs : List Bx} {w : World} (h : BoxAt B (.slice (some ⟨g, 0, none⟩) n c) bs w) (i : Nat) (hi : i < bs.length) (j : Nat) (hj : j < 2) (x : Bx) (u : Value) (hx : bxC x = (bxC bs[i]).set j u) (hn : n = bs.length) : BoxAt B (.slice (some ⟨g, 0, none⟩) n c) (bs.set i x) (w.setCell ⟨g, i * 2 + j, none⟩ u) := by
  unfold BoxAt at *
  subst hn
  have := owns_set h (i * 2 + j) (by omega) u
  rw [bxC_set bs i hi j x u hj hx] at this
  rw [List.length_set]
  exact this
theorem info_box : (Try.prog.info? 74).map (fun i => (i.zero, i.size, i.bytes)) = some (some (.agg #[.int .i64 0, .int .i64 0]), 2, 16) := by kernel_rfl
theorem info_int6 : (Try.prog.info? 3).map (fun i => (i.zero, i.size, i.bytes)) = some (some (.int .i64 0), 1, 8) := by kernel_rfl
theorem two_cells {w : World} {b T : Nat} {x0 x1 : Value} (h : w.heap[b]? = some (.cells #[x0, x1] T (0, 0))) : w.cell? ⟨b, 0, none⟩ = some x0 ∧ w.cell? ⟨b, 1, none⟩ = some x1 ∧ ∀ j, w.frozen? ⟨b, j, none⟩ = false := by
  refine ⟨?_, ?_, fun j => Lib.frozen_of_heap h j⟩ <;> rw [Lib.cell_of_heap h] <;> rfl
/-- What holds behind a new box's append. -/
theorem box_grown {B nb bc M : Nat} {ba : Option Addr} {bs : List Bx} {wr W3 w4 : World} {v' r0 x0 x1 x2 x3 y0 y1 y2 y3 z0 z1 : Value} {T : TypeId} (BX : BoxAt B (.slice ba nb bc) bs wr) (hn : nb = bs.length) (hM : M = wr.heap.size) (hlow : ∀ g, g < M → W3.heap[g]? = wr.heap[g]?) (hs3 : W3.heap.size = M + 3)
    (h8 : W3.heap[M]? = some (.cells #[x0, x1, x2, x3] 66 (0, 0))) (h9 : W3.heap[M + 1]? = some (.cells #[y0, y1, y2, y3] 68 (0, 0))) (h10 : W3.heap[M + 1 + 1]? = some (.cells #[z0, z1] 64 (0, 0)))
    (hgrow : (W3.alloc (.cells #[.int .i64 0, .int .i64 0] 74)).grownBy w4 (Value.slice ba nb bc).ownBlock) (hown' : w4.ownsRow B 74 2 v' (nb + 1) (bs.flatMap bxC ++ bxC ⟨0, 0⟩)) :
    ∃ gb cap', v' = .slice (some ⟨gb, 0, none⟩) (nb + 1) cap' ∧ nb + 1 ≤ cap' ∧ cap' ≤ 9223372036854775807 ∧ B ≤ gb ∧ gb < w4.heap.size ∧ (∀ j, w4.frozen? ⟨gb, j, none⟩ = false) ∧ w4.cell? ⟨gb, nb * 2, none⟩ = some (.int .i64 0) ∧ w4.cell? ⟨gb, nb * 2 + 1, none⟩ = some (.int .i64 0) ∧
      w4.heap[M]? = some (.cells #[x0, x1, x2, x3] 66 (0, 0)) ∧ w4.heap[M + 1]? = some (.cells #[y0, y1, y2, y3] 68 (0, 0)) ∧ w4.heap[M + 1 + 1]? = some (.cells #[z0, z1] 64 (0, 0)) ∧ gb ≠ M ∧ gb ≠ M + 1 ∧ gb ≠ M + 1 + 1 ∧
      Hid (BoxAt B (.slice (some ⟨gb, 0, none⟩) (nb + 1) cap') (bs ++ [⟨0, 0⟩]) w4) ∧ (∀ g, g < M → (Value.slice ba nb bc).ownBlock ≠ some g → w4.heap[g]? = wr.heap[g]?) ∧ M + 4 ≤ w4.heap.size := by
  have hsz := hgrow.size
  simp only [World.size_alloc] at hsz
  have hlen : (bs ++ [(⟨0, 0⟩ : Bx)]).length = nb + 1 := by simp [hn]
  have hB4 : BoxAt B v' (bs ++ [⟨0, 0⟩]) w4 := by unfold BoxAt; rw [hlen]; simpa using hown'
  obtain ⟨a, c, rfl, hc1, hc2⟩ := hB4.slice
  rw [hlen] at hB4 hc1
  obtain ⟨gb, rfl, hBg, hglt, fg, ⟨cur, hcur⟩, hcells⟩ := hB4.cells (by omega)
  have hnew : ∀ g, M ≤ g → g < M + 3 → w4.heap[g]? = W3.heap[g]? := fun g h1 h2 => by
    rw [hgrow.block g (by simp; omega) (fun e => by have := own_low BX g e.symm; omega), Below.heap_alloc _ _ _ (by omega)]
  have e8 := (hnew M (Nat.le_refl _) (by omega)).trans h8
  have e9 := (hnew (M + 1) (by omega) (by omega)).trans h9
  have e10 := (hnew (M + 1 + 1) (by omega) (by omega)).trans h10
  obtain ⟨d0, d1⟩ := hcells nb (by omega)
  have hge : ((bs ++ [(⟨0, 0⟩ : Bx)])[nb]'(by omega)) = ⟨0, 0⟩ := by simp [hn]
  rw [hge] at d0 d1
  rw [hlen]
  refine ⟨gb, c, rfl, hc1, hc2, hBg, hglt, fg, d0, d1, e8, e9, e10, ?_, ?_, ?_, Lib.hid hB4, fun g hg hne => ?_, by omega⟩
  · rintro rfl; rw [hcur] at e8; injection e8 with e8; injection e8 with _ e; exact absurd e (by decide)
  · rintro rfl; rw [hcur] at e9; injection e9 with e9; injection e9 with _ e; exact absurd e (by decide)
  · rintro rfl; rw [hcur] at e10; injection e10 with e10; injection e10 with _ e; exact absurd e (by decide)
  · rw [hgrow.block g (by simp; omega) (fun e => hne e.symm), Below.heap_alloc _ _ _ (by omega)]; exact hlow g hg
theorem box_one : ∀ u ∈ bxC ⟨0, 0⟩, u.oneCell' = true := fun u hu => by
  simp [bxC] at hu
  rcases hu with rfl | rfl <;> rfl
/-- .. and behind the number's storing. -/
theorem box_done {B nb bc M gb cap' k : Nat} {ba ra : Option Addr} {rc : Nat} {fe : Value} {bs : List Bx} {fr : List Nat} {acc : List Fd} {wr w4 : World} {jn : Int} (BX : BoxAt B (.slice ba nb bc) bs wr) (hn : nb = bs.length) (hM : M = wr.heap.size) (OR : OwnF none_ B wr 68 4 fdF (.slice ra k rc) acc) (FR : FreeAt B fe fr wr)
    (hB4 : Hid (BoxAt B (.slice (some ⟨gb, 0, none⟩) (nb + 1) cap') (bs ++ [⟨0, 0⟩]) w4)) (hkeep : ∀ g, g < M → (Value.slice ba nb bc).ownBlock ≠ some g → w4.heap[g]? = wr.heap[g]?) (hgM : gb ≠ M + 1) (hs4 : M + 4 ≤ w4.heap.size) :
    Hid (OwnF none_ B (((((w4.setCell ⟨gb, nb * 2, none⟩ (.int .i64 1)).setCell ⟨gb, nb * 2 + 1, none⟩ (.int .i64 jn)).setCell ⟨M + 1, 2, none⟩ (.int .i64 nb)).setCell ⟨M + 1, 3, none⟩ (.int .i64 1)).alloc (.cells #[.int .i64 0, .int .i64 0, .int .i64 nb, .int .i64 1] 68)) 68 4 fdF (.slice ra k rc) acc) ∧ Hid (BoxAt B (.slice (some ⟨gb, 0, none⟩) (nb + 1) cap') (bs ++ [⟨1, jn⟩]) (((((w4.setCell ⟨gb, nb * 2, none⟩ (.int .i64 1)).setCell ⟨gb, nb * 2 + 1, none⟩ (.int .i64 jn)).setCell ⟨M + 1, 2, none⟩ (.int .i64 nb)).setCell ⟨M + 1, 3, none⟩ (.int .i64 1)).alloc (.cells #[.int .i64 0, .int .i64 0, .int .i64 nb, .int .i64 1] 68))) ∧ Hid (FreeAt B fe fr (((((w4.setCell ⟨gb, nb * 2, none⟩ (.int .i64 1)).setCell ⟨gb, nb * 2 + 1, none⟩ (.int .i64 jn)).setCell ⟨M + 1, 2, none⟩ (.int .i64 nb)).setCell ⟨M + 1, 3, none⟩ (.int .i64 1)).alloc (.cells #[.int .i64 0, .int .i64 0, .int .i64 nb, .int .i64 1] 68))) ∧
      Hid (∀ q u, (fdC ⟨0, 0, nb, 1⟩)[q]? = some u → (((((w4.setCell ⟨gb, nb * 2, none⟩ (.int .i64 1)).setCell ⟨gb, nb * 2 + 1, none⟩ (.int .i64 jn)).setCell ⟨M + 1, 2, none⟩ (.int .i64 nb)).setCell ⟨M + 1, 3, none⟩ (.int .i64 1)).alloc (.cells #[.int .i64 0, .int .i64 0, .int .i64 nb, .int .i64 1] 68)).cell? ((⟨w4.heap.size, 0, none⟩ : Addr).add q) = some u) := by
  have hB4' := hB4.out
  have hO4 : OwnF none_ B w4 68 4 fdF (.slice ra k rc) acc := OR.kept fdF_firm (by omega) (fun g hg hlt => hkeep g (by omega) (by
    obtain ⟨rs, h3, _⟩ := OR
    exact fun e => apart BX h3 (by decide) g e hg))
  have hF4 : FreeAt B fe fr w4 := FR.same (fun g hg hlt => hkeep g (by omega) (fun e => apart BX FR (by decide) g e hg))
  have hst : ∀ g, g < w4.heap.size → g ≠ gb → g ≠ M + 1 → (((((w4.setCell ⟨gb, nb * 2, none⟩ (.int .i64 1)).setCell ⟨gb, nb * 2 + 1, none⟩ (.int .i64 jn)).setCell ⟨M + 1, 2, none⟩ (.int .i64 nb)).setCell ⟨M + 1, 3, none⟩ (.int .i64 1)).alloc (.cells #[.int .i64 0, .int .i64 0, .int .i64 nb, .int .i64 1] 68)).heap[g]? = w4.heap[g]? := fun g h1 h2 h3 => by
    rw [Below.heap_alloc _ _ _ (by simpa using h1), Below.heap_setCell _ _ _ _ (by simpa using h3), Below.heap_setCell _ _ _ _ (by simpa using h3), Below.heap_setCell _ _ _ _ (by simpa using h2), Below.heap_setCell _ _ _ _ (by simpa using h2)]
  have hlen : (bs ++ [(⟨0, 0⟩ : Bx)]).length = nb + 1 := by simp [hn]
  have hge : ∀ (x : Bx) (h : nb < (bs ++ [x]).length), (bs ++ [x])[nb]'h = x := fun x h => by simp [hn]
  have hse : ∀ (x y : Bx), (bs ++ [x]).set nb y = bs ++ [y] := fun x y => by simp [hn]
  have hB5 := hB4'.store nb (by omega) 0 (by omega) ⟨1, 0⟩ (.int .i64 1) (by rw [hge]; rfl) hlen.symm
  rw [hse] at hB5
  have hB5' : BoxAt B (.slice (some ⟨gb, 0, none⟩) (nb + 1) cap') (bs ++ [⟨1, 0⟩]) (w4.setCell ⟨gb, nb * 2, none⟩ (.int .i64 1)) := hB5
  have hB6 := hB5'.store nb (by simp [hn]) 1 (by omega) ⟨1, jn⟩ (.int .i64 jn) (by rw [hge]; rfl) (by simp [hn])
  rw [hse] at hB6
  refine ⟨Lib.hid (hO4.kept fdF_firm (by simp) (fun g hg hlt => hst g hlt ?_ ?_)), Lib.hid (hB6.same (fun g hg hlt => ?_)), Lib.hid (hF4.same (fun g hg hlt => hst g hlt ?_ ?_)), Lib.hid (fun q u hu => ?_)⟩
  · rintro rfl
    obtain ⟨rs, h3, _⟩ := hO4
    exact apart hB4' h3 (by decide) g rfl hg
  · rintro rfl
    obtain ⟨rs, h3, _⟩ := OR
    have := own_low h3 _ hg
    omega
  · have hgg : g = gb := by simp [Value.ownBlock] at hg; omega
    rw [Below.heap_alloc _ _ _ (by simpa using hlt), Below.heap_setCell _ _ _ _ (by simp; omega), Below.heap_setCell _ _ _ _ (by simp; omega)]
  · rintro rfl
    exact apart hB4' hF4 (by decide) g rfl hg
  · rintro rfl
    have := own_low FR _ hg
    omega
  · have hh := heap_alloc_new ((((w4.setCell ⟨gb, nb * 2, none⟩ (.int .i64 1)).setCell ⟨gb, nb * 2 + 1, none⟩ (.int .i64 jn)).setCell ⟨M + 1, 2, none⟩ (.int .i64 nb)).setCell ⟨M + 1, 3, none⟩ (.int .i64 1)) (.cells #[.int .i64 0, .int .i64 0, .int .i64 nb, .int .i64 1] 68)
    simp only [World.size_setCell] at hh
    rw [Go.WideShapes.add_plain, Nat.zero_add, Lib.cell_of_heap hh]
    simpa [fdC] using hu
/-- A world that has a round's three blocks ahead of it, and else what the round found. -/
structure Lies (wr wz : World) (x0 x1 x2 x3 y0 y1 y2 y3 z0 z1 : Value) : Prop where
  size : wz.heap.size = wr.heap.size + 3
  low : ∀ g, g < wr.heap.size → wz.heap[g]? = wr.heap[g]?
  job : wz.heap[wr.heap.size]? = some (.cells #[x0, x1, x2, x3] 66 (0, 0))
  found : wz.heap[wr.heap.size + 1]? = some (.cells #[y0, y1, y2, y3] 68 (0, 0))
  handle : wz.heap[wr.heap.size + 1 + 1]? = some (.cells #[z0, z1] 64 (0, 0))
theorem lies_new (wr : World) (x0 x1 x2 x3 y0 y1 y2 y3 z0 z1 : Value) : Lies wr (((wr.alloc (.cells #[x0, x1, x2, x3] 66)).alloc (.cells #[y0, y1, y2, y3] 68)).alloc (.cells #[z0, z1] 64)) x0 x1 x2 x3 y0 y1 y2 y3 z0 z1 := by
  refine ⟨by simp only [World.size_alloc], fun g hg => ?_, ?_, ?_, ?_⟩
  · rw [Below.heap_alloc _ _ _ (by simp only [World.size_alloc]; omega), Below.heap_alloc _ _ _ (by simp only [World.size_alloc]; omega), Below.heap_alloc _ _ _ hg]
  · rw [Below.heap_alloc _ _ _ (by simp only [World.size_alloc]; omega), Below.heap_alloc _ _ _ (by simp only [World.size_alloc]; omega)]; exact heap_alloc_new wr _
  · rw [Below.heap_alloc _ _ _ (by simp only [World.size_alloc]; omega)]
    have := heap_alloc_new (wr.alloc (.cells #[x0, x1, x2, x3] 66)) (.cells #[y0, y1, y2, y3] 68)
    simpa only [World.size_alloc] using this
  · have := heap_alloc_new ((wr.alloc (.cells #[x0, x1, x2, x3] 66)).alloc (.cells #[y0, y1, y2, y3] 68)) (.cells #[z0, z1] 64)
    simpa only [World.size_alloc] using this
theorem heap_drewN (w : World) (n : Nat) : (w.drewN n).heap = w.heap := by
  induction n with
  | zero => rfl
  | succ n ih => first | exact ih | (simp [World.drewN]) | rfl
theorem Lies.drewN {wr wz : World} {x0 x1 x2 x3 y0 y1 y2 y3 z0 z1 : Value} (h : Lies wr wz x0 x1 x2 x3 y0 y1 y2 y3 z0 z1) (n : Nat) : Lies wr (wz.drewN n) x0 x1 x2 x3 y0 y1 y2 y3 z0 z1 :=
  ⟨by rw [heap_drewN]; exact h.size, fun g hg => by rw [heap_drewN]; exact h.low g hg, by rw [heap_drewN]; exact h.job, by rw [heap_drewN]; exact h.found, by rw [heap_drewN]; exact h.handle⟩
theorem Lies.cell {wr wz : World} {x0 x1 x2 x3 y0 y1 y2 y3 z0 z1 : Value} (h : Lies wr wz x0 x1 x2 x3 y0 y1 y2 y3 z0 z1) {g o : Nat} (hg : g < wr.heap.size) : wz.cell? ⟨g, o, none⟩ = wr.cell? ⟨g, o, none⟩ := World.cell?_of_block (a := ⟨g, o, none⟩) (h.low g hg)
theorem Lies.refs {wr wz : World} {x0 x1 x2 x3 y0 y1 y2 y3 z0 z1 : Value} (h : Lies wr wz x0 x1 x2 x3 y0 y1 y2 y3 z0 z1) {B k : Nat} {o bx fe : Value} {bs : List Bx} {fr : List Nat} {acc : List Fd}
    (OR : OwnF none_ B wr 68 4 fdF o acc) (BX : BoxAt B bx bs wr) (FR : FreeAt B fe fr wr) : OwnF none_ B wz 68 4 fdF o acc ∧ BoxAt B bx bs wz ∧ FreeAt B fe fr wz :=
  ⟨OR.kept fdF_firm (by have := h.size; omega) (fun g _ hg => h.low g hg), BX.same (fun g _ hg => h.low g hg), FR.same (fun g _ hg => h.low g hg)⟩
theorem lies_done {wr wz : World} {x0 x1 x2 x3 y0 y1 y2 y3 z0 z1 : Value} (h : Lies wr wz x0 x1 x2 x3 y0 y1 y2 y3 z0 z1) {B k : Nat} {o bx fe : Value} {bs : List Bx} {fr : List Nat} {acc : List Fd}
    (OR : OwnF none_ B wr 68 4 fdF o acc) (BX : BoxAt B bx bs wr) (FR : FreeAt B fe fr wr) (j : Nat) (u : Value) (D : Array Value) :
    Hid (OwnF none_ B ((wz.setCell ⟨wr.heap.size + 1, j, none⟩ u).alloc (.cells D 68)) 68 4 fdF o acc) ∧ Hid (BoxAt B bx bs ((wz.setCell ⟨wr.heap.size + 1, j, none⟩ u).alloc (.cells D 68))) ∧ Hid (FreeAt B fe fr ((wz.setCell ⟨wr.heap.size + 1, j, none⟩ u).alloc (.cells D 68))) ∧ Hid (∀ q v, D[q]? = some v → ((wz.setCell ⟨wr.heap.size + 1, j, none⟩ u).alloc (.cells D 68)).cell? ((⟨wz.heap.size, 0, none⟩ : Addr).add q) = some v) := by
  have hsz := h.size
  have hl : ∀ g, g < wr.heap.size → ((wz.setCell ⟨wr.heap.size + 1, j, none⟩ u).alloc (.cells D 68)).heap[g]? = wr.heap[g]? := fun g hg => by
    rw [Below.heap_alloc _ _ _ (by simp; omega), Below.heap_setCell _ _ _ _ (by simp; omega)]; exact h.low g hg
  refine ⟨Lib.hid (OR.kept fdF_firm (by simp; omega) (fun g _ hg => hl g hg)), Lib.hid (BX.same (fun g _ hg => hl g hg)), Lib.hid (FR.same (fun g _ hg => hl g hg)), Lib.hid (fun q v hv => ?_)⟩
  have hh := heap_alloc_new (wz.setCell ⟨wr.heap.size + 1, j, none⟩ u) (.cells D 68)
  simp only [World.size_setCell] at hh
  rw [Go.WideShapes.add_plain, Nat.zero_add, Lib.cell_of_heap (b := wz.heap.size) hh]
  exact hv
theorem back_ready {wr wy : World} {x0 x1 x2 x3 y0 y1 y2 y3 z0 z1 : Value} (h : Lies wr wy x0 x1 x2 x3 y0 y1 y2 y3 z0 z1) {B nb bc gb q : Nat} {fe u : Value} {bs : List Bx} {fr : List Nat} (BX : BoxAt B (.slice (some ⟨gb, 0, none⟩) nb bc) bs wr) (FR : FreeAt B fe fr wr) (hgb : gb < wr.heap.size) :
    World.ownsRow (((wy.setCell ⟨wr.heap.size + 1, 1, none⟩ u).setCell ⟨gb, q * 2 + 1, none⟩ (.int .i64 0)).alloc (.cells #[.int .i64 (q : Int)] 3)) B 3 1 fe fr.length (frC fr) := by
  have hsz := h.size
  refine FR.same fun g hg hlt => ?_
  rw [Below.heap_alloc _ _ _ (by simp; omega), Below.heap_setCell _ _ _ _ (fun e => apart BX FR (by decide) gb rfl (by rw [← (show g = gb from e)]; exact hg)), Below.heap_setCell _ _ _ _ (by simp; omega)]
  exact h.low g hlt
theorem back_grown {wr wy w4 : World} {x0 x1 x2 x3 y0 y1 y2 y3 z0 z1 : Value} (h : Lies wr wy x0 x1 x2 x3 y0 y1 y2 y3 z0 z1) {B k nb bc gb q nf : Nat} {o fe u v' : Value} {bs : List Bx} {fr : List Nat} {acc : List Fd}
    (OR : OwnF none_ B wr 68 4 fdF o acc) (BX : BoxAt B (.slice (some ⟨gb, 0, none⟩) nb bc) bs wr) (FR : FreeAt B fe fr wr) (hn : nb = bs.length) (hf : nf = fr.length) (hq : q < bs.length) (hgb : gb < wr.heap.size)
    (hgrow : (((wy.setCell ⟨wr.heap.size + 1, 1, none⟩ u).setCell ⟨gb, q * 2 + 1, none⟩ (.int .i64 0)).alloc (.cells #[.int .i64 (q : Int)] 3)).grownBy w4 fe.ownBlock) (hown' : w4.ownsRow B 3 1 v' (nf + 1) (frC fr ++ [.int .i64 (q : Int)])) (D : Array Value) :
    ∃ a c, v' = .slice a (nf + 1) c ∧ nf + 1 ≤ c ∧ c ≤ 9223372036854775807 ∧ w4.heap[wr.heap.size + 1]? = some (.cells #[y0, u, y2, y3] 68 (0, 0)) ∧ wr.heap.size + 3 < w4.heap.size ∧ Hid (OwnF none_ B (w4.alloc (.cells D 68)) 68 4 fdF o acc) ∧
      Hid (BoxAt B (.slice (some ⟨gb, 0, none⟩) nb bc) (bs.set q ⟨bs[q].turn, 0⟩) (w4.alloc (.cells D 68))) ∧ Hid (FreeAt B (.slice a (nf + 1) c) (q :: fr) (w4.alloc (.cells D 68))) ∧ Hid (∀ p v, D[p]? = some v → (w4.alloc (.cells D 68)).cell? ((⟨w4.heap.size, 0, none⟩ : Addr).add p) = some v) := by
  have hsz := h.size
  have hgs := hgrow.size
  simp only [World.size_alloc, World.size_setCell, hsz] at hgs
  have hlt4 : wr.heap.size + 3 < w4.heap.size := by omega
  have hfl : (q :: fr).length = nf + 1 := by simp [hf]
  have hF4 : FreeAt B v' (q :: fr) w4 := by
    unfold FreeAt
    rw [hfl]
    have e : frC (q :: fr) = frC fr ++ [.int .i64 (q : Int)] := by simp [frC]
    rw [e]; exact hown'
  obtain ⟨a, c, rfl, hc1, hc2⟩ := hF4.slice
  rw [hfl] at hF4 hc1
  have hkeep : ∀ g, g < wr.heap.size → g ≠ gb → fe.ownBlock ≠ some g → w4.heap[g]? = wr.heap[g]? := fun g h1 h2 h3 => by
    rw [hgrow.block g (by simp; omega) (fun e => h3 e.symm), Below.heap_alloc _ _ _ (by simp; omega), Below.heap_setCell _ _ _ _ (by simpa using h2), Below.heap_setCell _ _ _ _ (by simp; omega)]
    exact h.low g h1
  have h9 : w4.heap[wr.heap.size + 1]? = some (.cells #[y0, u, y2, y3] 68 (0, 0)) := by
    rw [hgrow.block (wr.heap.size + 1) (by simp; omega) (fun e => by have := own_low FR _ e.symm; omega), Below.heap_alloc _ _ _ (by simp; omega), Below.heap_setCell _ _ _ _ (by simp; omega)]
    simp [World.setCell, Array.getElem?_modify, h.found]
  have hO4 : OwnF none_ B w4 68 4 fdF o acc := OR.kept fdF_firm (by omega) (fun g hg hlt => by
    obtain ⟨rs, h3, _⟩ := OR
    exact hkeep g hlt (fun e => apart BX h3 (by decide) gb rfl (by rw [← e]; exact hg)) (fun e => apart FR h3 (by decide) g e hg))
  have hBy := (h.refs (k := 0) OR BX FR).2.1
  have hB1 : BoxAt B (.slice (some ⟨gb, 0, none⟩) nb bc) bs (wy.setCell ⟨wr.heap.size + 1, 1, none⟩ u) := hBy.same (fun g hg hlt => Below.heap_setCell _ _ _ _ (by simp [Value.ownBlock] at hg; simp; omega))
  have hB2 := hB1.store q hq 1 (by omega) ⟨bs[q].turn, 0⟩ (.int .i64 0) rfl hn
  have hB4 : BoxAt B (.slice (some ⟨gb, 0, none⟩) nb bc) (bs.set q ⟨bs[q].turn, 0⟩) w4 := hB2.same (fun g hg hlt => by
    have hgg : g = gb := by simp [Value.ownBlock] at hg; omega
    rw [hgrow.block g (by simp; omega) (fun e => apart BX FR (by decide) gb rfl (by rw [← hgg]; exact e.symm)), Below.heap_alloc _ _ _ (by simpa using hlt)])
  rw [hfl]
  refine ⟨a, c, rfl, hc1, hc2, h9, hlt4, Lib.hid (hO4.kept fdF_firm (by simp) (fun g _ hg => Below.heap_alloc _ _ _ hg)), Lib.hid (hB4.same (fun g _ hg => Below.heap_alloc _ _ _ hg)), Lib.hid (hF4.same (fun g _ hg => Below.heap_alloc _ _ _ hg)), Lib.hid (fun p v hv => ?_)⟩
  have hh := heap_alloc_new w4 (.cells D 68)
  rw [Go.WideShapes.add_plain, Nat.zero_add, Lib.cell_of_heap (b := w4.heap.size) hh]
  exact hv
end Go.Proofs.Ytciomaeieggbiaa
