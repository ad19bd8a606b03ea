/-
  The walks of package bound and its reference, seventh part: a matrix owned, a pair checked, two matrices joined.
-/
import Derived.Test.YtldbgbcabenegaaBndN
namespace Go.Proofs.Ytldbgbcabenegaa
open Go.RowKit
set_option linter.unusedVariables false
set_option linter.unusedSimpArgs false

set_option maxHeartbeats 2000000 in
theorem own_any (F : Nat → Prop) (ao : Option Addr) (n cap : Nat) (m : List (List Int)) (w : World) (hM : SlF F w 1 lineF ao n cap m) (h12 : n ≤ 12) (hsq : ∀ i, i < m.length → (m.getD i []).length = m.length) :
    Calls Try.prog 33 #[.slice ao n cap] w fun e w' => ∃ ao' cap' gs, e = .returned (.slice ao' n cap') ∧ Below w.heap.size w w' ∧ Grid (from_ w.heap.size) w' ao' n cap' gs (at2 m) := by
  obtain ⟨i1, hi', hy0, hy1, hy2⟩ := info_parts info_ints
  have NL : Hid (n = m.length) := hM.len
  have SQ : Hid (∀ i, i < m.length → (m.getD i []).length = m.length) := hsq
  clear hsq
  have hle := hM.le
  have hn' : (n : Int) ≤ 12 := by omega
  go_enter Try.func33, Try.ntmps33
  go_wp2_with fail
  go_loopw [3, 8] (fun o i wr => ∃ k : Nat, k ≤ n ∧ i = .int .i64 k ∧ Below w.heap.size w wr ∧ ∃ xs : List (Nat × (Nat → Int)), OwnF (from_ w.heap.size) w.heap.size wr 38 1 (blkF n) o xs ∧ Hid (xs.length = k ∧ (∀ r (hr : r < xs.length), (xs[r]).2 = at2 m r ∧ (xs[r]).1 < wr.heap.size) ∧ ∀ r s (hr : r < xs.length) (hs : s < xs.length), r ≠ s → (xs[r]).1 ≠ (xs[s]).1)) (fun _ i _ => n - (intOf i).toNat)
  case atStart => exact ⟨0, by omega, rfl, Below.refl _ _, [], OwnF.empty, rfl, fun r hr => absurd hr (Nat.not_lt_zero r), fun r s hr => absurd hr (Nat.not_lt_zero r)⟩
  case round =>
    obtain ⟨k, hk, rfl, hbr, xs, hown, XS⟩ := hrel
    have hwr : w.heap.size ≤ wr.heap.size := hbr.size
    have OW : Hid (OwnF (from_ w.heap.size) w.heap.size wr 38 1 (blkF n) _ xs) := hown
    clear hown
    by_cases hlt : k < n
    · have hkl : k < m.length := by have := NL.out; omega
      obtain ⟨b, off, row, hix, hblt, hrow, ao2, n2, cap2, rfl, hR, h8⟩ := (hM.below lineF_firm hbr).toR.index (P := Try.prog) Try.underlying24 size_ints (i := k) hkl
      have c0 := hrow.one
      simp only [Nat.mul_one] at hix c0
      have hn2 : n2 = n := by
        have h1 := hR.len
        have h2 := SQ.out k hkl
        rw [line_getD m k hkl] at h2
        have := NL.out
        omega
      subst hn2
      have hk1 : (k : Int) < n2 := by omega
      go_wp2_with fail
      refine (cloneI_any F ao2 n2 cap2 m[k] _ hR (by omega) (by omega)).mono ?_
      rintro e w1 ⟨g, rc, cur, rfl, hb1, hg, h1, h2, hh, hc⟩
      have hs1 : wr.heap.size ≤ w1.heap.size := hb1.size
      have hglt : g < w1.heap.size := (Array.getElem?_eq_some_iff.1 hh).1
      have M2 := (OW.out.below (blkF_firm n2) hb1).alloc (blkF_firm n2) (.cells #[.slice (some ⟨g, 0, none⟩) n2 rc] 38)
      have HM2 := Lib.hid M2
      have HY : Hid (blkF n2 (off_ (from_ w.heap.size) u3) (w1.alloc (.cells #[.slice (some ⟨g, 0, none⟩) n2 rc] 38)) [.slice (some ⟨g, 0, none⟩) n2 rc] (g, at2 m k)) := by
        refine (blkF_firm n2) (off_ (from_ w.heap.size) u3) _ w1 _ _ _ (Same.below (Joins.below_alloc1 w1 _)) ⟨off_new OW.out hwr g hg, rc, cur, rfl, h1, h2, hh, fun c hcn => ?_⟩
        rw [hc c hcn]
        simp [at2, List.getElem?_eq_getElem hkl]
      have hk2 : Hid (xs.length = k) := XS.out.1
      have hw2 : w.heap.size ≤ w1.heap.size := by omega
      have HC := Lib.hid hc
      have HH := Lib.hid hh
      clear M2 hc hh
      go_wp2_with (first
        | (at_builtin; go_loud (refine wpList_append_F rfl _ _ 24 rfl w.heap.size 38 i1 (.slice none 0 0) 1 24 Try.underlying24 hi' hy0 hy1 hy2 rfl (by decide) _ k rfl HM2.out hk2.out (blkF_firm n2) (g, at2 m k) [.slice (some ⟨g, 0, none⟩) n2 rc] ⟨w1.heap.size, 0, none⟩ rfl rfl (cell_one_new _ _ _) (fun u hu => by rw [List.mem_singleton.1 hu]; rfl) HY.out (by omega) (by decide) (by simp; omega) ?_); intro ra5 rc5 w5 hown' hgrow hb5)
        | fail)
      have hs5 : w1.heap.size + 1 ≤ w5.heap.size := by have := hb5.size; simpa using this
      have XS' : Hid ((xs ++ [(g, at2 m k)]).length = k + 1 ∧ (∀ r (hr : r < (xs ++ [(g, at2 m k)]).length), ((xs ++ [(g, at2 m k)])[r]).2 = at2 m r ∧ ((xs ++ [(g, at2 m k)])[r]).1 < w5.heap.size) ∧ ∀ r s (hr : r < (xs ++ [(g, at2 m k)]).length) (hs : s < (xs ++ [(g, at2 m k)]).length), r ≠ s → ((xs ++ [(g, at2 m k)])[r]).1 ≠ ((xs ++ [(g, at2 m k)])[s]).1) := by
        obtain ⟨x1, x2, x3⟩ := XS.out
        refine ⟨by simp [x1], fun r hr => ?_, fun r s hr hs hrs => ?_⟩
        · by_cases hrk : r < xs.length
          · rw [List.getElem_append_left hrk]
            have := x2 r hrk
            exact ⟨this.1, by omega⟩
          · have hr' : r = xs.length := by simp at hr; omega
            subst hr'
            rw [List.getElem_append_right (Nat.le_refl _)]
            simp only [Nat.sub_self, List.getElem_cons_zero]
            exact ⟨by rw [x1], by omega⟩
        · by_cases hrk : r < xs.length
          · by_cases hsk : s < xs.length
            · rw [List.getElem_append_left hrk, List.getElem_append_left hsk]
              exact x3 r s hrk hsk hrs
            · have hs' : s = xs.length := by simp at hs; omega
              subst hs'
              rw [List.getElem_append_left hrk, List.getElem_append_right (Nat.le_refl _)]
              simp only [Nat.sub_self, List.getElem_cons_zero]
              have := (x2 r hrk).2
              omega
          · have hr' : r = xs.length := by simp at hr; omega
            subst hr'
            have hsk : s < xs.length := by simp at hs; omega
            rw [List.getElem_append_left hsk, List.getElem_append_right (Nat.le_refl _)]
            simp only [Nat.sub_self, List.getElem_cons_zero]
            have := (x2 s hsk).2
            omega
      exact ⟨⟨k + 1, by omega, by go_num, ((hbr.trans (hb1.mono hwr)).alloc hw2 _).trans hb5, _, hown', XS'⟩, by simp [intOf]; omega⟩
    · obtain rfl : k = n := by omega
      go_wp2
      go_ret
      obtain ⟨x1, x2, x3⟩ := XS.out
      obtain ⟨ao', cap', rfl, hG⟩ := OW.out.grid x1 (G := from_ w.heap.size) (fun b _ h => h.elim id id) x3
      exact ⟨ao', cap', _, rfl, hbr, hG.congr fun r c hr hc => by
        have : xs.getD r (0, fun _ => 0) = xs[r] := by simp [List.getD, List.getElem?_eq_getElem (show r < xs.length by omega)]
        rw [this, (x2 r (by omega)).1]⟩
end Go.Proofs.Ytldbgbcabenegaa
