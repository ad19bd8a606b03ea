/-
  The free matrix as a matrix of the call's own that can be written in place: bound.Free and the reference's freeMatrix.
-/
import Derived.Test.YtldbgbcabenegaaBndS
import Derived.Test.YtldbgbcabenegaaBndF
import Derived.Test.YtldbgbcabenegaaFwA
namespace Go.Proofs.Ytldbgbcabenegaa
open Go.RowKit
set_option linter.unusedVariables false
set_option linter.unusedSimpArgs false

def freeG : Mx := fun r c => if r = c then 0 else NOB
theorem block_put {w : World} {g i : Nat} {e : TypeId} {cs : List Value} {fr : Nat × Nat} (h : w.heap[g]? = some (.cells cs.toArray e fr)) (u : Value) : (w.setCell ⟨g, i, none⟩ u).heap[g]? = some (.cells (cs.set i u).toArray e fr) := by
  simp only [World.setCell, Array.getElem?_modify, if_true, h, Option.map_some]
  simp [Array.setIfInBounds]
  intro h; rw [List.set_eq_of_length_le h]
theorem freeRow_cell (n k c : Nat) (hc : c < n) : ((freeRow n k).map (Value.int .i64)).toArray[c]? = some (.int .i64 (freeG k c)) := by
  simp [freeRow, freeG, List.getElem?_eq_getElem, hc, noneI, NOB]
theorem grid_end {n k : Nat} {w : World} {u : Value} {B : Nat} {xs : List (Nat × (Nat → Int))} (f : Nat → Nat → Int) (h : OwnF (from_ B) B w 38 1 (blkF n) u xs) (x1 : xs.length = n) (x2 : ∀ r (hr : r < xs.length), (xs[r]).2 = f r ∧ (xs[r]).1 < w.heap.size) (x3 : ∀ r s (hr : r < xs.length) (hs : s < xs.length), r ≠ s → (xs[r]).1 ≠ (xs[s]).1) :
    ∃ ao cap gs, u = .slice ao n cap ∧ Grid (from_ B) w ao n cap gs f := by
  obtain ⟨ao', cap', rfl, hG⟩ := h.grid x1 (G := from_ B) (fun b _ h => h.elim id id) x3
  exact ⟨ao', cap', _, rfl, hG.congr fun r c hr hc => by
    have : xs.getD r (0, fun _ => 0) = xs[r] := by simp [List.getD, List.getElem?_eq_getElem (show r < xs.length by omega)]
    rw [this, (x2 r (by omega)).1]⟩
theorem xs_more {xs : List (Nat × (Nat → Int))} {f : Nat → Nat → Int} {k a b g : Nat} (h : xs.length = k ∧ (∀ r (hr : r < xs.length), (xs[r]).2 = f r ∧ (xs[r]).1 < a) ∧ ∀ r s (hr : r < xs.length) (hs : s < xs.length), r ≠ s → (xs[r]).1 ≠ (xs[s]).1) (hg : a ≤ g) (hgb : g < b) (hab : a ≤ b) :
    (xs ++ [(g, f k)]).length = k + 1 ∧ (∀ r (hr : r < (xs ++ [(g, f k)]).length), ((xs ++ [(g, f k)])[r]).2 = f r ∧ ((xs ++ [(g, f k)])[r]).1 < b) ∧ ∀ r s (hr : r < (xs ++ [(g, f k)]).length) (hs : s < (xs ++ [(g, f k)]).length), r ≠ s → ((xs ++ [(g, f k)])[r]).1 ≠ ((xs ++ [(g, f k)])[s]).1 := by
  obtain ⟨x1, x2, x3⟩ := h
  refine ⟨by simp [x1], fun r hr => ?_, fun r s hr hs hrs => ?_⟩
  · by_cases hrk : r < xs.length
    · rw [List.getElem_append_left hrk]
      have := x2 r hrk
      exact ⟨this.1, by omega⟩
    · have hr' : r = xs.length := by simp at hr; omega
      subst hr'
      rw [List.getElem_append_right (Nat.le_refl _)]
      simp only [Nat.sub_self, List.getElem_cons_zero]
      exact ⟨by rw [x1], by omega⟩
  · by_cases hrk : r < xs.length
    · by_cases hsk : s < xs.length
      · rw [List.getElem_append_left hrk, List.getElem_append_left hsk]
        exact x3 r s hrk hsk hrs
      · have hs' : s = xs.length := by simp at hs; omega
        subst hs'
        rw [List.getElem_append_left hrk, List.getElem_append_right (Nat.le_refl _)]
        simp only [Nat.sub_self, List.getElem_cons_zero]
        have := (x2 r hrk).2
        omega
    · have hr' : r = xs.length := by simp at hr; omega
      subst hr'
      have hsk : s < xs.length := by simp at hs; omega
      rw [List.getElem_append_left hsk, List.getElem_append_right (Nat.le_refl _)]
      simp only [Nat.sub_self, List.getElem_cons_zero]
      have := (x2 s hsk).2
      omega

set_option maxHeartbeats 2000000 in
set_option maxRecDepth 100000 in
theorem free_grid (n : Nat) (hn : n ≤ 12) (w : World) :
    Calls Try.prog 15 #[.int .i64 n] w fun e w' => ∃ ao' cap' gs, e = .returned (.tuple #[.slice ao' n cap', .int .i64 0]) ∧ Below w.heap.size w w' ∧ Grid (from_ w.heap.size) w' ao' n cap' gs freeG := by
  obtain ⟨i1, hi', hy0, hy1, hy2⟩ := info_parts info_ints
  have hn' : (n : Int) ≤ 12 := by omega
  go_enter Try.func15, Try.ntmps15
  go_wp2_with fail
  go_loopw [4, 14] (fun o i wr => ∃ k : Nat, k ≤ n ∧ i = .int .i64 k ∧ Below w.heap.size w wr ∧ ∃ xs : List (Nat × (Nat → Int)), OwnF (from_ w.heap.size) w.heap.size wr 38 1 (blkF n) o xs ∧ Hid (xs.length = k ∧ (∀ r (hr : r < xs.length), (xs[r]).2 = freeG r ∧ (xs[r]).1 < wr.heap.size) ∧ ∀ r s (hr : r < xs.length) (hs : s < xs.length), r ≠ s → (xs[r]).1 ≠ (xs[s]).1)) (fun _ i _ => n - (intOf i).toNat)
  case atStart => exact ⟨0, by omega, rfl, Below.refl _ _, [], OwnF.empty, rfl, fun r hr => absurd hr (Nat.not_lt_zero r), fun r s hr => absurd hr (Nat.not_lt_zero r)⟩
  case round =>
    obtain ⟨k, hk, rfl, hbr, xs, hmd, XS⟩ := hrel
    have hwr : w.heap.size ≤ wr.heap.size := hbr.size
    have MD : Hid (OwnF (from_ w.heap.size) w.heap.size wr 38 1 (blkF n) _ xs) := hmd
    clear hmd
    by_cases hlt : k < n
    · have hcn : Hid (∀ wx : World, (wx.alloc (.cells #[.int .i64 1152921504606846976] 3)).cell? ⟨wx.heap.size, 0, none⟩ = some (.int .i64 1152921504606846976)) := fun wx => by simp
      go_wp2_with fail
      refine (repeat_any n hn wr.heap.size _ (hcn.out _)).mono ?_
      rintro e w1 ⟨g, rfl, hb1, hg, G1⟩
      have hs1 : wr.heap.size + 1 ≤ w1.heap.size := by have := hb1.size; simpa using this
      have hg' : wr.heap.size + 1 ≤ g := by simpa using hg
      have hglt : g < w1.heap.size := (Array.getElem?_eq_some_iff.1 G1.out).1
      have c1 : w1.cell? ⟨g, k, none⟩ = some (.int .i64 noneI) := by
        have := G1.out
        simp only [World.cell?, this]
        simpa using filled_at hlt
      have f1 : w1.frozen? ⟨g, k, none⟩ = false := by
        have := G1.out
        simp only [World.frozen?, this]
        simp
      have G2 : Hid ((w1.setCell ⟨g, k, none⟩ (.int .i64 0)).heap[g]? = some (.cells ((freeRow n k).map (Value.int .i64)).toArray 3 (0, 0))) := by
        have := block_put (i := k) G1.out (.int .i64 0)
        rw [freeRow_cells n k hlt] at this
        exact this
      have hbB : Below wr.heap.size wr (w1.setCell ⟨g, k, none⟩ (.int .i64 0)) := ((Joins.below_alloc1 wr _).trans (hb1.mono (by simp))).setCell (by simp; omega) _
      have M2 := (MD.out.below (blkF_firm n) hbB).alloc (blkF_firm n) (.cells #[.slice (some ⟨g, 0, none⟩) n n] 38)
      have HY : Hid (blkF n (off_ (from_ w.heap.size) u4) ((w1.setCell ⟨g, k, none⟩ (.int .i64 0)).alloc (.cells #[.slice (some ⟨g, 0, none⟩) n n] 38)) [.slice (some ⟨g, 0, none⟩) n n] (g, freeG k)) := by
        refine (blkF_firm n) (off_ (from_ w.heap.size) u4) _ (w1.setCell ⟨g, k, none⟩ (.int .i64 0)) _ _ _ (Same.below (Joins.below_alloc1 _ _)) ⟨off_new MD.out hwr g (by show _ ≤ _; omega), n, _, rfl, Nat.le_refl _, by unfold maxLen; omega, G2.out, fun c hcn => freeRow_cell n k c hcn⟩
      have hk2 : Hid (xs.length = k) := XS.out.1
      have HM2 := Lib.hid M2
      have hw2 : w.heap.size ≤ w1.heap.size := by omega
      clear M2 G1 G2
      go_wp2_with (first
        | (at_builtin; go_loud (refine wpList_append_F rfl _ _ 24 rfl w.heap.size 38 i1 (.slice none 0 0) 1 24 Try.underlying24 hi' hy0 hy1 hy2 rfl (by decide) _ k rfl HM2.out hk2.out (blkF_firm n) (g, freeG k) [.slice (some ⟨g, 0, none⟩) n n] ⟨w1.heap.size, 0, none⟩ rfl rfl (by simpa using cell_one_new (w1.setCell ⟨g, k, none⟩ (.int .i64 0)) _ _) (fun u hu => by rw [List.mem_singleton.1 hu]; rfl) HY.out (by omega) (by decide) (by simp; omega) ?_); intro ra5 rc5 w5 hown' hgrow hb5)
        | fail)
      have hs5 : w1.heap.size + 1 ≤ w5.heap.size := by have := hb5.size; simpa using this
      exact ⟨⟨k + 1, by omega, by go_num, ((hbr.trans (hbB.mono hwr)).alloc (by simp; omega) _).trans hb5, _, hown', xs_more XS.out (by omega) (by omega) (by omega)⟩, by simp [intOf]; omega⟩
    · obtain rfl : k = n := by omega
      obtain ⟨x1, x2, x3⟩ := XS.out
      obtain ⟨ao', cap', gs, e1, hG⟩ := grid_end (k := k) freeG MD.out x1 x2 x3
      subst e1
      have HGG := Lib.hid hG
      clear hG x1 x2 x3
      go_wp2
      go_ret2
      exact ⟨ao', cap', gs, rfl, hbr, HGG.out⟩
end Go.Proofs.Ytldbgbcabenegaa
