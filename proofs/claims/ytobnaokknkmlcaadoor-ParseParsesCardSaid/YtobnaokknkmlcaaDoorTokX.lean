/-
  The walks of tokens, second part: the reference's check; and the law LexChecks.
-/
import Derived.Test.YtobnaokknkmlcaaDoorTokW
import Derived.Deep.QuietTactic
import Derived.BigQuiet
namespace Go.Proofs.YtobnaokknkmlcaaDoor
open Go.RowKit
set_option linter.unusedVariables false
set_option linter.unusedSimpArgs false

set_option maxHeartbeats 1000000 in
theorem markList_any (w : World) : Calls Tryd.prog 29 #[] w fun e w' => e = .returned (.slice (some ⟨w.heap.size, 0, none⟩) 17 17) ∧ Below w.heap.size w w' ∧ SlF (from_ w.heap.size) w' 1 wordF (some ⟨w.heap.size, 0, none⟩) 17 17 marksL := by
  go_enter Tryd.func29, Tryd.ntmps29
  go_wp2
  go_ret
  exact ⟨rfl, Joins.below_alloc1 w _, words_new w 9 marksL (by decide)⟩

theorem words_at {F : Nat → Prop} {w : World} {g n cap : Nat} {xs : List ByteArray} (h : SlF F w 1 wordF (some ⟨g, 0, none⟩) n cap xs) {q : Nat} (hq : q < xs.length) : w.cell? ⟨g, q, none⟩ = some (.string xs[q]) := by
  obtain ⟨b, off, row, e, _, _, hr, hx⟩ := h.2.2.2.2 q hq
  injection e with e; injection e with e1 e2; subst e1; subst e2
  obtain rfl := wordF_one hx
  have := hr.one
  simpa using this
/-- A test of a range, decided. -/
theorem in_is (n lo hi : Int) (b : Bool) (h : inB n lo hi = b) (w : World) : Calls Tryd.prog 27 #[.int .i64 n, .int .i64 lo, .int .i64 hi] w fun e w' => e = .returned (.bool b) ∧ w' = w := by
  rw [← h]; exact in_any n lo hi w
theorem hasW_seek {xs : List ByteArray} {s : ByteArray} : hasW xs s = true ↔ firstN (isIn xs s) xs.length ≠ 0 := by rw [hasW_iff, isIn_iff]

set_option maxHeartbeats 4000000 in
theorem tokFault_any (k : Int) (s : ByteArray) (i : Int) (w : World) (hs : s.size ≤ maxLen) :
    Calls Tryd.prog 10 #[.agg #[.int .i64 k, .string s, .int .i64 i]] w fun e w' => e = .returned (.int .i64 (tokE k s i)) ∧ Below w.heap.size w w' := by
  have HN := Lib.hid (fun wx => nameFault_any s wx hs)
  unfold maxLen at hs
  by_cases hk : inB k 1 4 = true
  · have HK := Lib.hid (in_is k 1 4 true hk)
    rw [inB_true] at hk
    by_cases k2 : k = 2
    · subst k2
      by_cases hz : s.toList = []
      · have hz' : (!s.toList.isEmpty) = false := by simp [hz]
        by_cases h1 : inB i 0 1125899906842624 = true
        · have HI := Lib.hid (in_is i 0 1125899906842624 true h1)
          rw [inB_true] at h1
          have T : Hid (tokE 2 s i = 0) := by show _ = _; simp [tokE, hz]; omega
          clear h1
          go_enter Tryd.func10, Tryd.ntmps10
          go_wp2_with (first | (go_at_call 27; (with_reducible refine (HK.out _).mono ?_); rintro e w' ⟨rfl, rfl⟩) | (go_at_call 27; (with_reducible refine (HI.out _).mono ?_); rintro e w' ⟨rfl, rfl⟩))
          go_ret
          exact ⟨ret_int T.out.symm, (by repeat (first | exact Below.refl _ _ | assumption | refine below_step ?_ (by assumption) | refine below_step ?_ (Joins.below_draws _ _ _) | (refine Below.alloc ?_ (by first | omega | (simp; done) | (simp; omega)) _) | (refine Below.setCell ?_ (by first | omega | (simp; done) | (simp; omega)) _) | refine Below.drew ?_))⟩
        · have h1' : inB i 0 1125899906842624 = false := by simpa using h1
          have HI := Lib.hid (in_is i 0 1125899906842624 false h1')
          rw [inB_true] at h1
          have T : Hid (tokE 2 s i = 2) := by show _ = _; simp [tokE, hz]; omega
          clear h1 h1'
          go_enter Tryd.func10, Tryd.ntmps10
          go_wp2_with (first | (go_at_call 27; (with_reducible refine (HK.out _).mono ?_); rintro e w' ⟨rfl, rfl⟩) | (go_at_call 27; (with_reducible refine (HI.out _).mono ?_); rintro e w' ⟨rfl, rfl⟩))
          go_ret
          exact ⟨ret_int T.out.symm, (by repeat (first | exact Below.refl _ _ | assumption | refine below_step ?_ (by assumption) | refine below_step ?_ (Joins.below_draws _ _ _) | (refine Below.alloc ?_ (by first | omega | (simp; done) | (simp; omega)) _) | (refine Below.setCell ?_ (by first | omega | (simp; done) | (simp; omega)) _) | refine Below.drew ?_))⟩
      · have hz' : (!s.toList.isEmpty) = true := by simpa using hz
        have T : Hid (tokE 2 s i = 4) := by show _ = _; simp [tokE, hz]
        go_enter Tryd.func10, Tryd.ntmps10
        go_wp2_with (go_at_call 27; refine (HK.out _).mono ?_; rintro e w' ⟨rfl, rfl⟩)
        go_ret
        exact ⟨ret_int T.out.symm, (by repeat (first | exact Below.refl _ _ | assumption | refine below_step ?_ (by assumption) | refine below_step ?_ (Joins.below_draws _ _ _) | (refine Below.alloc ?_ (by first | omega | (simp; done) | (simp; omega)) _) | (refine Below.setCell ?_ (by first | omega | (simp; done) | (simp; omega)) _) | refine Below.drew ?_))⟩
    have e2 : (k == 2) = false := by simpa using k2
    by_cases hi : i = 0
    · subst hi
      by_cases k1 : k = 1
      · subst k1
        go_enter Tryd.func10, Tryd.ntmps10
        go_wp2_with (first | (go_at_call 27; refine (HK.out _).mono ?_; rintro e w' ⟨rfl, rfl⟩) | (go_at_call 28; refine (HN.out _).mono ?_; rintro e w' ⟨rfl, rfl⟩))
        go_ret
        exact ⟨ret_int (by simp [tokE]), (by repeat (first | exact Below.refl _ _ | assumption | refine below_step ?_ (by assumption) | refine below_step ?_ (Joins.below_draws _ _ _) | (refine Below.alloc ?_ (by first | omega | (simp; done) | (simp; omega)) _) | (refine Below.setCell ?_ (by first | omega | (simp; done) | (simp; omega)) _) | refine Below.drew ?_))⟩
      by_cases k4 : k = 4
      · subst k4
        clear e2 k2 k1 hk
        go_enter Tryd.func10, Tryd.ntmps10
        go_wp2_with (go_at_call 27; refine (HK.out _).mono ?_; rintro e w' ⟨rfl, rfl⟩)
        refine (markList_any _).mono ?_
        rintro e w1 ⟨rfl, hb1, hX⟩
        obtain ⟨hc_w1, hf_w1⟩ := bcell hb1; have hs_w1 := hb1.size; (try simp only [World.size_alloc, World.size_drew, World.size_setCell] at hs_w1); (try simp only [World.size_drew, World.cell?_drew, World.frozen?_drew] at hc_w1 hf_w1)
        have z1 : w.heap.size < w1.heap.size := by omega
        go_wp2_with fail
        go_loopw [4] (fun i wr => ∃ q : Nat, q ≤ 17 ∧ i = .int .i64 q ∧ Below w1.heap.size w1 wr ∧ Hid (AllZ (isIn marksL s) q)) (fun i _ => 17 - (intOf i).toNat)
        case atStart => exact ⟨0, by omega, rfl, Below.refl _ _, allZ_zero _⟩
        case round =>
          obtain ⟨q, hq, rfl, hbr, AZ⟩ := hrel
          obtain ⟨hc_wr, hf_wr⟩ := bcell hbr; have hs_wr := hbr.size; (try simp only [World.size_alloc, World.size_drew, World.size_setCell] at hs_wr); (try simp only [World.size_drew, World.cell?_drew, World.frozen?_drew] at hc_wr hf_wr)
          by_cases hlt : q < 17
          · have hkl : q < marksL.length := hlt
            have hk14 : (q : Int) < 17 := by omega
            have d0 : wr.cell? ⟨w.heap.size + 1, q, none⟩ = some (.string marksL[q]) := by simpa using words_at (hX.below wordF_firm hbr) hkl
            have dT : wr.cell? ⟨w.heap.size, 1, none⟩ = some (.string s) := by simp [hc_wr, hc_w1, z1]
            by_cases hsm : sameS marksL[q] s = true
            · have hE : (marksL[q].toList == s.toList) = true := hsm
              have T : Hid (tokE 4 s 0 = 0) := by
                show _ = _
                have h1 : isIn marksL s q = 1 := by unfold isIn; rw [word_getD _ _ hkl, if_pos hsm]
                have := firstN_at (n := marksL.length) AZ.out hkl (by rw [h1]; omega)
                have hh : hasW marksL s = true := hasW_seek.2 (by rw [this, h1]; omega)
                simp [tokE, hh]
              clear hsm
              generalize marksL[q] = x at d0 hE
              go_wp2_with fail
              go_quiet (fail)
              go_wp2
              go_ret
              exact ⟨ret_int T.out.symm, (by repeat (first | exact Below.refl _ _ | assumption | refine below_step ?_ (by assumption) | refine below_step ?_ (Joins.below_draws _ _ _) | (refine Below.alloc ?_ (by first | omega | (simp; done) | (simp; omega)) _) | (refine Below.setCell ?_ (by first | omega | (simp; done) | (simp; omega)) _) | refine Below.drew ?_))⟩
            · have hE : (marksL[q].toList == s.toList) = false := by simpa [sameS] using hsm
              have HZ : Hid (AllZ (isIn marksL s) (q + 1)) := allZ_succ AZ.out (by unfold isIn; rw [word_getD _ _ hkl, if_neg hsm])
              clear hsm
              generalize marksL[q] = x at d0 hE
              go_wp2_with fail
              go_quiet (fail)
              go_wp2
              go_roundw
              case rel => exact ⟨q + 1, by omega, by go_num, (by repeat (first | exact Below.refl _ _ | assumption | refine below_step ?_ (by assumption) | refine below_step ?_ (Joins.below_draws _ _ _) | (refine Below.alloc ?_ (by first | omega | (simp; done) | (simp; omega)) _) | (refine Below.setCell ?_ (by first | omega | (simp; done) | (simp; omega)) _) | refine Below.drew ?_)), HZ⟩
              case measure => simp [intOf]; omega
          · have hkn : Hid (q = 17) := by show _ = _; omega
            have T : Hid (tokE 4 s 0 = 4) := by
              show _ = _
              have h1 := AZ.out
              rw [hkn.out] at h1
              have hh : ¬ hasW marksL s = true := fun h => hasW_seek.1 h (firstN_zero h1)
              simp [tokE, hh]
            go_wp2
            go_ret
            exact ⟨ret_int T.out.symm, (by repeat (first | exact Below.refl _ _ | assumption | refine below_step ?_ (by assumption) | refine below_step ?_ (Joins.below_draws _ _ _) | (refine Below.alloc ?_ (by first | omega | (simp; done) | (simp; omega)) _) | (refine Below.setCell ?_ (by first | omega | (simp; done) | (simp; omega)) _) | refine Below.drew ?_))⟩
      · have k3 : k = 3 := by omega
        subst k3
        clear e2 k2 k1 k4 hk
        have QS := Lib.hid (quo_same s)
        go_enter Tryd.func10, Tryd.ntmps10
        go_wp2_with (go_at_call 27; refine (HK.out _).mono ?_; rintro e w' ⟨rfl, rfl⟩)
        go_loopw [5] (fun i wr => ∃ q : Nat, q ≤ s.size ∧ i = .int .i64 q ∧ Hid (AllZ (quoE s) q) ∧ Below w.heap.size w wr ∧ wr.cell? ⟨w.heap.size, 1, none⟩ = some (.string s)) (fun i _ => s.size - (intOf i).toNat)
        case atStart => exact ⟨0, by omega, rfl, allZ_zero _, (by repeat (first | exact Below.refl _ _ | assumption | refine below_step ?_ (by assumption) | refine below_step ?_ (Joins.below_draws _ _ _) | (refine Below.alloc ?_ (by first | omega | (simp; done) | (simp; omega)) _) | (refine Below.setCell ?_ (by first | omega | (simp; done) | (simp; omega)) _) | refine Below.drew ?_)), by simp⟩
        case round =>
          obtain ⟨q, hq, rfl, AZ, hbr, dT⟩ := hrel
          by_cases hlt : q < s.size
          · have hb : Hid ((s[q].toNat : Int) = byteAt s q) := byteAt_eq s q hlt
            by_cases hc : (s[q].toNat : Int) = 34
            · have hE : ((s[q].toNat : Int) == 34) = true := by simp [hc]
              have T : Hid (tokE 3 s 0 = 4) := by
                show _ = _
                have h1 : quoE s q = 1 := by unfold quoE; rw [← hb.out, if_pos hc]
                have := firstN_at (n := s.size) AZ.out hlt (by rw [h1]; omega)
                have hq : quoB s = true := by rw [QS.out, this, h1]; rfl
                simp [tokE, hq]
              clear hc
              go_wp2
              go_ret
              exact ⟨ret_int T.out.symm, (by repeat (first | exact Below.refl _ _ | assumption | refine below_step ?_ (by assumption) | refine below_step ?_ (Joins.below_draws _ _ _) | (refine Below.alloc ?_ (by first | omega | (simp; done) | (simp; omega)) _) | (refine Below.setCell ?_ (by first | omega | (simp; done) | (simp; omega)) _) | refine Below.drew ?_))⟩
            · have hE : ((s[q].toNat : Int) == 34) = false := by simpa using hc
              have HZ : Hid (AllZ (quoE s) (q + 1)) := allZ_succ AZ.out (by unfold quoE; rw [← hb.out, if_neg hc])
              clear hc
              go_wp2
              go_roundw
              case rel => exact ⟨q + 1, by omega, by go_num, HZ, hbr, dT⟩
              case measure => simp [intOf]; omega
          · have hkn : Hid (q = s.size) := by show _ = _; omega
            have hq : quoB s = false := by
              rw [QS.out]
              have h1 := AZ.out
              rw [hkn.out] at h1
              rw [firstN_zero h1]; rfl
            by_cases h20 : s.size ≤ 20
            · have T : Hid (tokE 3 s 0 = 0) := by show _ = _; simp [tokE, hq, h20]
              have h20' : (s.size : Int) ≤ 20 := by omega
              clear hq
              go_wp2
              go_ret
              exact ⟨ret_int T.out.symm, (by repeat (first | exact Below.refl _ _ | assumption | refine below_step ?_ (by assumption) | refine below_step ?_ (Joins.below_draws _ _ _) | (refine Below.alloc ?_ (by first | omega | (simp; done) | (simp; omega)) _) | (refine Below.setCell ?_ (by first | omega | (simp; done) | (simp; omega)) _) | refine Below.drew ?_))⟩
            · have T : Hid (tokE 3 s 0 = 1) := by show _ = _; simp [tokE, hq, h20]
              have h20' : 20 < (s.size : Int) := by omega
              clear hq h20
              go_wp2
              go_ret
              exact ⟨ret_int T.out.symm, (by repeat (first | exact Below.refl _ _ | assumption | refine below_step ?_ (by assumption) | refine below_step ?_ (Joins.below_draws _ _ _) | (refine Below.alloc ?_ (by first | omega | (simp; done) | (simp; omega)) _) | (refine Below.setCell ?_ (by first | omega | (simp; done) | (simp; omega)) _) | refine Below.drew ?_))⟩
    · have e0 : (i != 0) = true := by simpa using hi
      have T : Hid (tokE k s i = 4) := by
        show _ = _
        unfold tokE
        by_cases k1 : k = 1
        · simp [k1, hi]
        · by_cases k3 : k = 3
          · simp [k3, hi]
          · have k4 : k = 4 := by omega
            simp [k4, hi]
      clear hi k2
      go_enter Tryd.func10, Tryd.ntmps10
      go_wp2_with (go_at_call 27; refine (HK.out _).mono ?_; rintro e w' ⟨rfl, rfl⟩)
      go_ret
      exact ⟨ret_int T.out.symm, (by repeat (first | exact Below.refl _ _ | assumption | refine below_step ?_ (by assumption) | refine below_step ?_ (Joins.below_draws _ _ _) | (refine Below.alloc ?_ (by first | omega | (simp; done) | (simp; omega)) _) | (refine Below.setCell ?_ (by first | omega | (simp; done) | (simp; omega)) _) | refine Below.drew ?_))⟩
  · have hk' : inB k 1 4 = false := by simpa using hk
    have HK := Lib.hid (in_is k 1 4 false hk')
    rw [inB_false] at hk'
    have T : Hid (tokE k s i = 3) := by
      show _ = _
      unfold tokE
      rw [if_neg (by omega), if_neg (by omega), if_neg (by omega), if_neg (by omega)]
    clear hk hk'
    go_enter Tryd.func10, Tryd.ntmps10
    go_wp2_with (go_at_call 27; refine (HK.out _).mono ?_; rintro e w' ⟨rfl, rfl⟩)
    go_ret
    exact ⟨ret_int T.out.symm, (by repeat (first | exact Below.refl _ _ | assumption | refine below_step ?_ (by assumption) | refine below_step ?_ (Joins.below_draws _ _ _) | (refine Below.alloc ?_ (by first | omega | (simp; done) | (simp; omega)) _) | (refine Below.setCell ?_ (by first | omega | (simp; done) | (simp; omega)) _) | refine Below.drew ?_))⟩
end Go.Proofs.YtobnaokknkmlcaaDoor
