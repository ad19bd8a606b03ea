/-
  The reference's free matrix as a matrix of the call's own that can be written in place.
-/
import Derived.Test.YtldbgbcabenegaaOpA
import Derived.Test.YtldbgbcabenegaaOpG
namespace Go.Proofs.Ytldbgbcabenegaa
open Go.RowKit
set_option linter.unusedVariables false
set_option linter.unusedSimpArgs false

theorem noneI_NOB : noneI = NOB := rfl
set_option maxHeartbeats 2000000 in
set_option maxRecDepth 100000 in
theorem freeMatrix_grid (n : Nat) (hn : n ≤ 12) (w : World) :
    Calls Try.prog 24 #[.int .i64 n] w fun e w' => ∃ ao' cap' gs, e = .returned (.slice ao' n cap') ∧ Below w.heap.size w w' ∧ Grid (from_ w.heap.size) w' ao' n cap' gs freeG := by
  obtain ⟨i0, hi, hz0, hz1, hz2⟩ := info_parts info_int
  obtain ⟨i1, hi', hy0, hy1, hy2⟩ := info_parts info_ints
  go_enter Try.func24, Try.ntmps24
  go_wp2_with fail
  go_loopw [3, 4] (fun o i wr => ∃ k : Nat, k ≤ n ∧ i = .int .i64 k ∧ Below w.heap.size w wr ∧ ∃ xs : List (Nat × (Nat → Int)), OwnF (from_ w.heap.size) w.heap.size wr 38 1 (blkF n) o xs ∧ Hid (xs.length = k ∧ (∀ r (hr : r < xs.length), (xs[r]).2 = freeG r ∧ (xs[r]).1 < wr.heap.size) ∧ ∀ r s (hr : r < xs.length) (hs : s < xs.length), r ≠ s → (xs[r]).1 ≠ (xs[s]).1)) (fun _ i _ => n - (intOf i).toNat)
  case atStart => exact ⟨0, by omega, rfl, Below.refl _ _, [], OwnF.empty, rfl, fun r hr => absurd hr (Nat.not_lt_zero r), fun r s hr => absurd hr (Nat.not_lt_zero r)⟩
  case round =>
    obtain ⟨k, hk, rfl, hbr, xs, hown, XS⟩ := hrel
    have hwr : w.heap.size ≤ wr.heap.size := hbr.size
    have OW : Hid (OwnF (from_ w.heap.size) w.heap.size wr 38 1 (blkF n) _ xs) := hown
    clear hown
    by_cases hlt : k < n
    · obtain ⟨wo, rfl⟩ : ∃ wo : World, wo = wr := ⟨_, rfl⟩
      go_wp2_with fail
      go_loopw [5, 6] (fun r j wi => ∃ q : Nat, q ≤ n ∧ j = .int .i64 q ∧ Below wo.heap.size wo wi ∧ OwnF (from_ wo.heap.size) wo.heap.size wi 3 1 intF r ((freeRow n k).take q)) (fun _ j _ => n - (intOf j).toNat)
      case atStart => exact ⟨0, by omega, rfl, Below.refl _ _, OwnF.empty⟩
      case round =>
        obtain ⟨q, hq, rfl, hbi, hown⟩ := hrel
        have hwi : wo.heap.size ≤ wr.heap.size := hbi.size
        have hkk : Hid (((freeRow n k).take q).length = q) := by show _ = _; simp [freeRow_len]; omega
        by_cases hqn : q < n
        · have hql : q < (freeRow n k).length := by rw [freeRow_len]; exact hqn
          by_cases hd : k = q
          · have hv : Hid ((freeRow n k)[q] = 0) := by show _ = _; simp [freeRow, hd]
            have hdi : decide ((k : Int) = q) = true := by simp [hd]
            have hdb : ((k : Int) == (q : Int)) = true := by simp [hd]
            clear hd
            go_wp2_with (first
              | (at_builtin; refine wpList_append_F rfl _ _ 38 rfl wo.heap.size 3 i0 (.int .i64 0) 1 8 Try.underlying38 hi hz0 hz1 hz2 rfl (by decide) _ q rfl (hown.alloc intF_firm _) hkk.out intF_firm 0 [.int .i64 0] ⟨wr.heap.size, 0, none⟩ rfl rfl (cell_one_new _ _ _) (fun u hu => by rw [List.mem_singleton.1 hu]; rfl) rfl (by omega) (by decide) (by simp; omega) ?_; intro ra rc w5 hown' hgrow hb5)
              | fail)
            rw [← hv.out, List.take_append_getElem hql] at hown'
            exact ⟨⟨q + 1, by omega, by go_num, (Below.alloc hbi hwi _).trans hb5, hown'⟩, by simp [intOf]; omega⟩
          · have hv : Hid ((freeRow n k)[q] = noneI) := by show _ = _; simp [freeRow, hd]
            have hdi : decide ((k : Int) = q) = false := by simp; omega
            have hdb : ((k : Int) == (q : Int)) = false := by simp; omega
            go_wp2_with (first
              | (at_builtin; refine wpList_append_F rfl _ _ 38 rfl wo.heap.size 3 i0 (.int .i64 0) 1 8 Try.underlying38 hi hz0 hz1 hz2 rfl (by decide) _ q rfl (hown.alloc intF_firm _) hkk.out intF_firm noneI [.int .i64 noneI] ⟨wr.heap.size, 0, none⟩ rfl rfl (cell_one_new _ _ _) (fun u hu => by rw [List.mem_singleton.1 hu]; rfl) rfl (by omega) (by decide) (by simp; omega) ?_; intro ra rc w5 hown' hgrow hb5)
              | fail)
            rw [← hv.out, List.take_append_getElem hql] at hown'
            exact ⟨⟨q + 1, by omega, by go_num, (Below.alloc hbi hwi _).trans hb5, hown'⟩, by simp [intOf]; omega⟩
        · have hown2 := hown
          rw [List.take_of_length_le (by rw [freeRow_len]; omega)] at hown2
          obtain ⟨g, rc, cur, hu5, hg, h1, h2, hh, hc⟩ := own_row hown2 (by rw [freeRow_len]; omega)
          rw [freeRow_len] at hu5 h1 hc
          subst hu5
          clear hown2 hown
          have hw1 : w.heap.size ≤ wr.heap.size := by omega
          have hglt : g < wr.heap.size := (Array.getElem?_eq_some_iff.1 hh).1
          have HM2 := Lib.hid ((OW.out.below (blkF_firm n) hbi).alloc (blkF_firm n) (.cells #[.slice (some ⟨g, 0, none⟩) n rc] 38))
          have HY : Hid (blkF n (off_ (from_ w.heap.size) u3) (wr.alloc (.cells #[.slice (some ⟨g, 0, none⟩) n rc] 38)) [.slice (some ⟨g, 0, none⟩) n rc] (g, freeG k)) := by
            refine (blkF_firm n) (off_ (from_ w.heap.size) u3) _ wr _ _ _ (Same.below (Joins.below_alloc1 wr _)) ⟨off_new OW.out hwr g hg, rc, cur, rfl, h1, h2, hh, fun c hcn => ?_⟩
            rw [hc c hcn]
            simp [freeRow, freeG, List.getD, List.getElem?_eq_getElem, hcn, noneI, NOB]
          have hk2 : Hid (xs.length = k) := XS.out.1
          have HC := Lib.hid hc
          have HH := Lib.hid hh
          clear hc hh
          go_wp2_with (first
            | (at_builtin; go_loud (refine wpList_append_F rfl _ _ 24 rfl w.heap.size 38 i1 (.slice none 0 0) 1 24 Try.underlying24 hi' hy0 hy1 hy2 rfl (by decide) _ k rfl HM2.out hk2.out (blkF_firm n) (g, freeG k) [.slice (some ⟨g, 0, none⟩) n rc] ⟨wr.heap.size, 0, none⟩ rfl rfl (cell_one_new _ _ _) (fun u hu => by rw [List.mem_singleton.1 hu]; rfl) HY.out (by omega) (by decide) (by simp; omega) ?_); intro ra5 rc5 w5 hown' hgrow hb5)
            | fail)
          have hs5 : wr.heap.size + 1 ≤ w5.heap.size := by have := hb5.size; simpa using this
          exact ⟨⟨k + 1, by omega, by go_num, ((hbr.trans (hbi.mono hwr)).alloc hw1 _).trans hb5, _, hown', blocks_snoc XS.out (by omega) (by omega) hg⟩, by simp [intOf]; omega⟩
    · obtain rfl : k = n := by omega
      obtain ⟨x1, x2, x3⟩ := XS.out
      obtain ⟨ao', cap', gs, e1, hG⟩ := grid_end (k := k) freeG OW.out x1 x2 x3
      subst e1
      have HGG := Lib.hid hG
      clear hG x1 x2 x3
      go_wp2
      go_ret
      exact ⟨ao', cap', gs, rfl, hbr, HGG.out⟩
end Go.Proofs.Ytldbgbcabenegaa
