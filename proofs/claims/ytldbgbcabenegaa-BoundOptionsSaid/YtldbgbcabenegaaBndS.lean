/-
  The walks of package bound and its reference, tenth part: two matrices merged, and the laws of both and either.
-/
import Derived.Test.YtldbgbcabenegaaBndO
import Derived.StillTailTactics
namespace Go.Proofs.Ytldbgbcabenegaa
open Go.RowKit
set_option linter.unusedVariables false
set_option linter.unusedSimpArgs false

theorem own_row {F : Nat → Prop} {B : Nat} {w : World} {o : Value} {xs : List Int} (h : OwnF F B w 3 1 intF o xs) (h0 : 0 < xs.length) :
    ∃ g rc cur, o = .slice (some ⟨g, 0, none⟩) xs.length rc ∧ B ≤ g ∧ xs.length ≤ rc ∧ rc ≤ maxLen ∧ w.heap[g]? = some (.cells cur 3 (0, 0)) ∧ ∀ c, c < xs.length → cur[c]? = some (.int .i64 (xs.getD c 0)) := by
  obtain ⟨rs, h1, h2⟩ := h
  rcases h1.2 with ⟨_, h0'⟩ | ⟨g, rc, cur, rfl, hg, hh, hnc, hcm, hsz, htk⟩
  · omega
  · refine ⟨g, rc, cur, rfl, hg, hnc, hcm, hh, fun c hc => ?_⟩
    obtain ⟨row, h3, h4, h5⟩ := h2 c hc
    obtain rfl := intF_one h5
    have h6 := h4 0 (by omega)
    simp only [Nat.mul_one, Nat.add_zero] at h6
    have h7 : cur.toList[c]? = rs[c]? := by rw [← htk, List.getElem?_take, if_pos (by omega)]
    rw [← Array.getElem?_toList, h7, h6]
    simp [List.getD, List.getElem?_eq_getElem hc]

theorem blocks_snoc {xs : List (Nat × (Nat → Int))} {k g s0 s5 : Nat} {f : Nat → Nat → Int} (h : xs.length = k ∧ (∀ r (hr : r < xs.length), (xs[r]).2 = f r ∧ (xs[r]).1 < s0) ∧ ∀ r s (hr : r < xs.length) (hs : s < xs.length), r ≠ s → (xs[r]).1 ≠ (xs[s]).1) (h5 : s0 ≤ s5) (hg5 : g < s5) (hg : s0 ≤ g) :
    (xs ++ [(g, f k)]).length = k + 1 ∧ (∀ r (hr : r < (xs ++ [(g, f k)]).length), ((xs ++ [(g, f k)])[r]).2 = f r ∧ ((xs ++ [(g, f k)])[r]).1 < s5) ∧ ∀ r s (hr : r < (xs ++ [(g, f k)]).length) (hs : s < (xs ++ [(g, f k)]).length), r ≠ s → ((xs ++ [(g, f k)])[r]).1 ≠ ((xs ++ [(g, f k)])[s]).1 := by
  obtain ⟨x1, x2, x3⟩ := h
  refine ⟨by simp [x1], fun r hr => ?_, fun r s hr hs hrs => ?_⟩
  · by_cases hrk : r < xs.length
    · rw [List.getElem_append_left hrk]
      have := x2 r hrk
      exact ⟨this.1, by omega⟩
    · have hr' : r = xs.length := by simp at hr; omega
      subst hr'
      rw [List.getElem_append_right (Nat.le_refl _)]
      simp only [Nat.sub_self, List.getElem_cons_zero]
      exact ⟨by rw [x1], by omega⟩
  · by_cases hrk : r < xs.length
    · by_cases hsk : s < xs.length
      · rw [List.getElem_append_left hrk, List.getElem_append_left hsk]
        exact x3 r s hrk hsk hrs
      · have hs' : s = xs.length := by simp at hs; omega
        subst hs'
        rw [List.getElem_append_left hrk, List.getElem_append_right (Nat.le_refl _)]
        simp only [Nat.sub_self, List.getElem_cons_zero]
        have := (x2 r hrk).2
        omega
    · have hr' : r = xs.length := by simp at hr; omega
      subst hr'
      have hsk : s < xs.length := by simp at hs; omega
      rw [List.getElem_append_left hsk, List.getElem_append_right (Nat.le_refl _)]
      simp only [Nat.sub_self, List.getElem_cons_zero]
      have := (x2 s hsk).2
      omega

set_option maxHeartbeats 4000000 in
theorem matGrid_any (F : Nat → Prop) (ao : Option Addr) (n cap : Nat) (m : List (List Int)) (w : World) (hM : SlF F w 1 lineF ao n cap m) (h12 : n ≤ 12) (hsq : ∀ i, i < m.length → (m.getD i []).length = m.length) :
    Calls Try.prog 28 #[.slice ao n cap] w fun e w' => ∃ ao' cap' gs, e = .returned (.slice ao' n cap') ∧ Below w.heap.size w w' ∧ Grid (from_ w.heap.size) w' ao' n cap' gs (at2 m) := by
  obtain ⟨i0, hi, hz0, hz1, hz2⟩ := info_parts info_int
  obtain ⟨i1, hi', hy0, hy1, hy2⟩ := info_parts info_ints
  have NL : Hid (n = m.length) := hM.len
  have SQ : Hid (∀ i, i < m.length → (m.getD i []).length = m.length) := hsq
  clear hsq
  have hle := hM.le
  have hn' : (n : Int) ≤ 12 := by omega
  go_enter Try.func28, Try.ntmps28
  go_wp2_with fail
  go_loopw [3, 4] (fun o i wr => ∃ k : Nat, k ≤ n ∧ i = .int .i64 k ∧ Below w.heap.size w wr ∧ ∃ xs : List (Nat × (Nat → Int)), OwnF (from_ w.heap.size) w.heap.size wr 38 1 (blkF n) o xs ∧ Hid (xs.length = k ∧ (∀ r (hr : r < xs.length), (xs[r]).2 = at2 m r ∧ (xs[r]).1 < wr.heap.size) ∧ ∀ r s (hr : r < xs.length) (hs : s < xs.length), r ≠ s → (xs[r]).1 ≠ (xs[s]).1)) (fun _ i _ => n - (intOf i).toNat)
  case atStart => exact ⟨0, by omega, rfl, Below.refl _ _, [], OwnF.empty, rfl, fun r hr => absurd hr (Nat.not_lt_zero r), fun r s hr => absurd hr (Nat.not_lt_zero r)⟩
  case round =>
    obtain ⟨k, hk, rfl, hbr, xs, hown, XS⟩ := hrel
    have hwr : w.heap.size ≤ wr.heap.size := hbr.size
    have OW : Hid (OwnF (from_ w.heap.size) w.heap.size wr 38 1 (blkF n) _ xs) := hown
    clear hown
    obtain ⟨hc_wr, hf_wr⟩ := bcell hbr; have hs_wr := hbr.size; (try simp only [World.size_alloc, World.size_drew, World.size_setCell] at hs_wr); (try simp only [World.size_drew, World.cell?_drew, World.frozen?_drew] at hc_wr hf_wr)
    by_cases hlt : k < n
    · have hkl : k < m.length := by have := NL.out; omega
      obtain ⟨b, off, row, hix, hblt, hrow, ao2, n2, cap2, rfl, hR, h8⟩ := (hM.below lineF_firm hbr).toR.index (P := Try.prog) Try.underlying24 size_ints (i := k) hkl
      have c0 := hrow.one
      simp only [Nat.mul_one] at hix c0
      have N2 : Hid (n2 = m[k].length) := hR.len
      have hn2 : n2 = n := by
        have h1 := hR.len
        have h2 := SQ.out k hkl
        rw [line_getD m k hkl] at h2
        have := NL.out
        omega
      subst hn2
      have hle2 := hR.le
      obtain ⟨wo, rfl⟩ : ∃ wo : World, wo = wr := ⟨_, rfl⟩
      go_wp2_with fail
      go_loopw [5, 6] (fun r j wi => ∃ q : Nat, q ≤ n2 ∧ j = .int .i64 q ∧ Below wo.heap.size wo wi ∧ OwnF (from_ wo.heap.size) wo.heap.size wi 3 1 intF r (m[k].take q)) (fun _ j _ => n2 - (intOf j).toNat)
      case atStart => exact ⟨0, by omega, rfl, Below.refl _ _, OwnF.empty⟩
      case round =>
        obtain ⟨q, hq, rfl, hbi, hown⟩ := hrel
        obtain ⟨hc_wr, hf_wr⟩ := bcell hbi; have hs_wr := hbi.size; (try simp only [World.size_alloc, World.size_drew, World.size_setCell] at hs_wr); (try simp only [World.size_drew, World.cell?_drew, World.frozen?_drew] at hc_wr hf_wr)
        have cb := (hbi.cell (p := ⟨b, off + k, none⟩) hblt).trans c0
        have hwi : wo.heap.size ≤ wr.heap.size := hbi.size
        by_cases hqn : q < n2
        · have hql : q < m[k].length := by have := N2.out; omega
          obtain ⟨b2, off2, row2, hix2, hblt2, hrow2, hrr2⟩ := (hR.below intF_firm hbi).toR.index (P := Try.prog) Try.underlying38 size_int (i := q) hql
          obtain rfl := intF_one hrr2
          have d0 := hrow2.one
          simp only [Nat.mul_one] at hix2 d0
          have hkk : Hid ((m[k].take q).length = q) := by show (m[k].take q).length = q; simp; omega
          go_wp2_with (first
            | (at_builtin; refine wpList_append_F rfl _ _ 38 rfl wo.heap.size 3 i0 (.int .i64 0) 1 8 Try.underlying38 hi hz0 hz1 hz2 rfl (by decide) _ q rfl (hown.alloc intF_firm _) hkk.out intF_firm m[k][q] [.int .i64 m[k][q]] ⟨wr.heap.size, 0, none⟩ rfl rfl (cell_one_new _ _ _) (fun u hu => by rw [List.mem_singleton.1 hu]; rfl) rfl (by omega) (by decide) (by simp; omega) ?_; intro ra rc w5 hown' hgrow hb5)
            | fail)
          rw [List.take_append_getElem hql] at hown'
          exact ⟨⟨q + 1, by omega, by go_num, (Below.alloc hbi hwi _).trans hb5, hown'⟩, by simp [intOf]; omega⟩
        · have hown2 := hown
          rw [List.take_of_length_le (by have := N2.out; omega)] at hown2
          obtain ⟨g, rc, cur, hu5, hg, h1, h2, hh, hc⟩ := own_row hown2 (by have := N2.out; omega)
          rw [← N2.out] at hu5 h1 hc
          subst hu5
          clear hown2 hown
          have hw1 : w.heap.size ≤ wr.heap.size := by omega
          have hglt : g < wr.heap.size := (Array.getElem?_eq_some_iff.1 hh).1
          have HM2 := Lib.hid ((OW.out.below (blkF_firm n2) hbi).alloc (blkF_firm n2) (.cells #[.slice (some ⟨g, 0, none⟩) n2 rc] 38))
          have HY : Hid (blkF n2 (off_ (from_ w.heap.size) u3) (wr.alloc (.cells #[.slice (some ⟨g, 0, none⟩) n2 rc] 38)) [.slice (some ⟨g, 0, none⟩) n2 rc] (g, at2 m k)) := by
            refine (blkF_firm n2) (off_ (from_ w.heap.size) u3) _ wr _ _ _ (Same.below (Joins.below_alloc1 wr _)) ⟨off_new OW.out hwr g hg, rc, cur, rfl, h1, h2, hh, fun c hcn => ?_⟩
            rw [hc c hcn]
            simp [at2, List.getElem?_eq_getElem hkl]
          have hk2 : Hid (xs.length = k) := XS.out.1
          have HC := Lib.hid hc
          have HH := Lib.hid hh
          clear hc hh
          go_wp2_with (first
            | (at_builtin; go_loud (refine wpList_append_F rfl _ _ 24 rfl w.heap.size 38 i1 (.slice none 0 0) 1 24 Try.underlying24 hi' hy0 hy1 hy2 rfl (by decide) _ k rfl HM2.out hk2.out (blkF_firm n2) (g, at2 m k) [.slice (some ⟨g, 0, none⟩) n2 rc] ⟨wr.heap.size, 0, none⟩ rfl rfl (cell_one_new _ _ _) (fun u hu => by rw [List.mem_singleton.1 hu]; rfl) HY.out (by omega) (by decide) (by simp; omega) ?_); intro ra5 rc5 w5 hown' hgrow hb5)
            | fail)
          have hs5 : wr.heap.size + 1 ≤ w5.heap.size := by have := hb5.size; simpa using this
          have XS' : Hid ((xs ++ [(g, at2 m k)]).length = k + 1 ∧ (∀ r (hr : r < (xs ++ [(g, at2 m k)]).length), ((xs ++ [(g, at2 m k)])[r]).2 = at2 m r ∧ ((xs ++ [(g, at2 m k)])[r]).1 < w5.heap.size) ∧ ∀ r s (hr : r < (xs ++ [(g, at2 m k)]).length) (hs : s < (xs ++ [(g, at2 m k)]).length), r ≠ s → ((xs ++ [(g, at2 m k)])[r]).1 ≠ ((xs ++ [(g, at2 m k)])[s]).1) := by
            exact blocks_snoc XS.out (by omega) (by omega) hg
          exact ⟨⟨k + 1, by omega, by go_num, ((hbr.trans (hbi.mono hwr)).alloc hw1 _).trans hb5, _, hown', XS'⟩, by simp [intOf]; omega⟩
    · obtain rfl : k = n := by omega
      go_wp2
      go_ret
      obtain ⟨x1, x2, x3⟩ := XS.out
      obtain ⟨ao', cap', rfl, hG⟩ := OW.out.grid x1 (G := from_ w.heap.size) (fun b _ h => h.elim id id) x3
      exact ⟨ao', cap', _, rfl, hbr, hG.congr fun r c hr hc => by
        have : xs.getD r (0, fun _ => 0) = xs[r] := by simp [List.getD, List.getElem?_eq_getElem (show r < xs.length by omega)]
        rw [this, (x2 r (by omega)).1]⟩
end Go.Proofs.Ytldbgbcabenegaa
