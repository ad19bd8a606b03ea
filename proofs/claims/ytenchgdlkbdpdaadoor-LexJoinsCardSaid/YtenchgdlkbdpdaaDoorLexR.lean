/-
  The walks of lex and its reference, sixth part: the reference's token from a place.
-/
import Derived.Test.YtenchgdlkbdpdaaDoorLexT
namespace Go.Proofs.YtenchgdlkbdpdaaDoor
open Go.RowKit
set_option linter.unusedVariables false
set_option linter.unusedSimpArgs false

/-- A string from a place on. -/
def suf (s : ByteArray) (k : Nat) : ByteArray := s.extract k s.size
theorem suf_list (s : ByteArray) (k : Nat) : (suf s k).data.toList = s.data.toList.drop k := Lib.extract_to_end s k
theorem suf_size (s : ByteArray) (k : Nat) : (suf s k).size = s.size - k := by simp [suf]
theorem ba_ext {a b : ByteArray} (h : a.data.toList = b.data.toList) : a = b := by
  apply ByteArray.ext
  exact Array.toList_inj.1 h
theorem suf_cut (s : ByteArray) (k a b : Nat) (hb : k + b ≤ s.size) : (suf s k).extract a b = s.extract (k + a) (k + b) := by
  apply ba_ext
  rw [Lib.extract_data, suf_list, Lib.extract_data, List.drop_drop]
  congr 1
  omega
/-- The answer from a place. -/
def TokR.from (r : TokR) (k : Nat) : Value := .tuple #[.agg #[.int .i64 r.kind, .string r.text, .int .i64 r.int], .int .i64 (if r.code = 0 then (k + r.len : Nat) else 0 : Nat), .int .i64 r.code]

set_option maxHeartbeats 4000000 in
theorem from_word (s : ByteArray) (p : Nat) (w : World) (hs : s.size ≤ maxLen) (h0 : p < s.size) (hc : isLet s[p] = true) : Calls Tryd.prog 30 #[.string s, .int .i64 p] w fun e w' => e = .returned ((wordV (suf s p)).from p) ∧ Below w.heap.size w w' := by
  have HB : Hid (∀ k (h : k < s.size), 0 ≤ (s[k].toNat : Int) ∧ (s[k].toNat : Int) < 256) := fun k h => by have := s[k].toNat_lt; omega
  have HL0 : Hid (∀ wx, Calls Tryd.prog 52 #[.int .u8 (s[p].toNat : Int)] wx fun e w' => e = .returned (.bool true) ∧ w' = wx) := fun wx => by rw [← hc]; exact smallLetter_any _ (HB.out p h0).1 (HB.out p h0).2 wx
  unfold maxLen at hs
  clear hc
  go_enter Tryd.func30, Tryd.ntmps30
  go_wp2_with (go_at_call 52; refine (HL0.out _).mono ?_; rintro e w' ⟨rfl, rfl⟩)
  go_loop [8] (fun i => ∃ k : Nat, p + 1 ≤ k ∧ k ≤ s.size ∧ i = .int .i64 k ∧ Hid (1 + run isWrd ((suf s p).data.toList.drop 1) = (k - p) + run isWrd (s.data.toList.drop k))) (fun i => s.size - (intOf i).toNat)
  case atStart => exact ⟨p + 1, by omega, by omega, by go_num, (by show _ = _; rw [suf_list, List.drop_drop]; congr 1; omega)⟩
  case round =>
    obtain ⟨k, hk1, hk, rfl, HR⟩ := hrel
    have done : run isWrd (s.data.toList.drop k) = 0 → Hid (wordV (suf s p) = if 10 < k - p then tokErr 1 else ⟨0, 1, s.extract p k, 0, k - p⟩) := fun h => by
      have := HR.out
      rw [h, Nat.add_zero] at this
      show wordV (suf s p) = _
      unfold wordV
      rw [this, suf_cut s p 0 (k - p) (by omega)]
      have e1 : p + (k - p) = k := by omega
      rw [e1]; rfl
    have HD := Lib.hid done
    clear done
    by_cases hlt : k < s.size
    · by_cases hl : isLet s[k] = true
      · have HL : Hid (∀ wx, Calls Tryd.prog 52 #[.int .u8 (s[k].toNat : Int)] wx fun e w' => e = .returned (.bool true) ∧ w' = wx) := fun wx => by rw [← hl]; exact smallLetter_any _ (HB.out k hlt).1 (HB.out k hlt).2 wx
        have HR' : Hid (1 + run isWrd ((suf s p).data.toList.drop 1) = (k + 1 - p) + run isWrd (s.data.toList.drop (k + 1))) := by
          show _ = _
          rw [HR.out, run_yes hlt (by simp [isWrd, hl])]; omega
        clear hl
        go_wp2_with (go_at_call 52; refine (HL.out _).mono ?_; rintro e w' ⟨rfl, rfl⟩)
        go_round
        case rel => exact ⟨k + 1, by omega, by omega, by go_num, HR'⟩
        case measure => simp [intOf]; omega
      · have hl' : isLet s[k] = false := by simpa using hl
        have HL : Hid (∀ wx, Calls Tryd.prog 52 #[.int .u8 (s[k].toNat : Int)] wx fun e w' => e = .returned (.bool false) ∧ w' = wx) := fun wx => by rw [← hl']; exact smallLetter_any _ (HB.out k hlt).1 (HB.out k hlt).2 wx
        by_cases hd : isDig s[k] = true
        · have HG : Hid (∀ wx, Calls Tryd.prog 53 #[.int .u8 (s[k].toNat : Int)] wx fun e w' => e = .returned (.bool true) ∧ w' = wx) := fun wx => by rw [← hd]; exact oneDigit_any _ (HB.out k hlt).1 (HB.out k hlt).2 wx
          have HR' : Hid (1 + run isWrd ((suf s p).data.toList.drop 1) = (k + 1 - p) + run isWrd (s.data.toList.drop (k + 1))) := by
            show _ = _
            rw [HR.out, run_yes hlt (by simp [isWrd, hd])]; omega
          clear hl hl' hd
          go_wp2_with (first | (go_at_call 52; refine (HL.out _).mono ?_; rintro e w' ⟨rfl, rfl⟩) | (go_at_call 53; refine (HG.out _).mono ?_; rintro e w' ⟨rfl, rfl⟩))
          go_round
          case rel => exact ⟨k + 1, by omega, by omega, by go_num, HR'⟩
          case measure => simp [intOf]; omega
        · have hd' : isDig s[k] = false := by simpa using hd
          have HG : Hid (∀ wx, Calls Tryd.prog 53 #[.int .u8 (s[k].toNat : Int)] wx fun e w' => e = .returned (.bool false) ∧ w' = wx) := fun wx => by rw [← hd']; exact oneDigit_any _ (HB.out k hlt).1 (HB.out k hlt).2 wx
          have HV := HD.out (run_no hlt (by simp [isWrd, hl', hd']))
          clear hl hl' hd hd'
          by_cases h10 : 10 < k - p
          · have h10' : (10 : Int) < (k : Int) - p := by omega
            go_wp2_with (first | (go_at_call 52; refine (HL.out _).mono ?_; rintro e w' ⟨rfl, rfl⟩) | (go_at_call 53; refine (HG.out _).mono ?_; rintro e w' ⟨rfl, rfl⟩))
            refine bodyPost_ret (v := (tokErr 1).from p) (by simp [results, Tryd.results30, go_sem, tokErr, TokR.from]; try rfl) rfl ?_
            exact ⟨by rw [HV.out, if_pos h10], (by repeat (first | exact Below.refl _ _ | assumption | refine below_step ?_ (by assumption) | refine below_step ?_ (Joins.below_draws _ _ _) | (refine Below.alloc ?_ (by first | omega | (simp; done) | (simp; omega)) _) | (refine Below.setCell ?_ (by first | omega | (simp; done) | (simp; omega)) _) | refine Below.drew ?_))⟩
          · have h10' : (k : Int) - p ≤ 10 := by omega
            have hkp : Hid (p + (k - p) = k) := by show _ = _; omega
            go_wp2_with (first | (go_at_call 52; refine (HL.out _).mono ?_; rintro e w' ⟨rfl, rfl⟩) | (go_at_call 53; refine (HG.out _).mono ?_; rintro e w' ⟨rfl, rfl⟩))
            refine bodyPost_ret (v := (⟨0, 1, s.extract p k, 0, k - p⟩ : TokR).from p) (by simp [results, Tryd.results30, go_sem, TokR.from, hkp.out]; try rfl) rfl ?_
            exact ⟨by rw [HV.out, if_neg h10], (by repeat (first | exact Below.refl _ _ | assumption | refine below_step ?_ (by assumption) | refine below_step ?_ (Joins.below_draws _ _ _) | (refine Below.alloc ?_ (by first | omega | (simp; done) | (simp; omega)) _) | (refine Below.setCell ?_ (by first | omega | (simp; done) | (simp; omega)) _) | refine Below.drew ?_))⟩
    · have HV := HD.out (run_end (by omega))
      by_cases h10 : 10 < k - p
      · have h10' : (10 : Int) < (k : Int) - p := by omega
        go_wp2
        refine bodyPost_ret (v := (tokErr 1).from p) (by simp [results, Tryd.results30, go_sem, tokErr, TokR.from]; try rfl) rfl ?_
        exact ⟨by rw [HV.out, if_pos h10], (by repeat (first | exact Below.refl _ _ | assumption | refine below_step ?_ (by assumption) | refine below_step ?_ (Joins.below_draws _ _ _) | (refine Below.alloc ?_ (by first | omega | (simp; done) | (simp; omega)) _) | (refine Below.setCell ?_ (by first | omega | (simp; done) | (simp; omega)) _) | refine Below.drew ?_))⟩
      · have h10' : (k : Int) - p ≤ 10 := by omega
        have hkp : Hid (p + (k - p) = k) := by show _ = _; omega
        go_wp2
        refine bodyPost_ret (v := (⟨0, 1, s.extract p k, 0, k - p⟩ : TokR).from p) (by simp [results, Tryd.results30, go_sem, TokR.from, hkp.out]; try rfl) rfl ?_
        exact ⟨by rw [HV.out, if_neg h10], (by repeat (first | exact Below.refl _ _ | assumption | refine below_step ?_ (by assumption) | refine below_step ?_ (Joins.below_draws _ _ _) | (refine Below.alloc ?_ (by first | omega | (simp; done) | (simp; omega)) _) | (refine Below.setCell ?_ (by first | omega | (simp; done) | (simp; omega)) _) | refine Below.drew ?_))⟩

set_option maxHeartbeats 8000000 in
theorem from_num (s : ByteArray) (p : Nat) (w : World) (hs : s.size ≤ maxLen) (h0 : p < s.size) (hl0 : isLet s[p] = false) (hd0 : isDig s[p] = true) : Calls Tryd.prog 30 #[.string s, .int .i64 p] w fun e w' => e = .returned ((numV (suf s p)).from p) ∧ Below w.heap.size w w' := by
  have HB : Hid (∀ k (h : k < s.size), 0 ≤ (s[k].toNat : Int) ∧ (s[k].toNat : Int) < 256) := fun k h => by have := s[k].toNat_lt; omega
  have HL0 : Hid (∀ wx, Calls Tryd.prog 52 #[.int .u8 (s[p].toNat : Int)] wx fun e w' => e = .returned (.bool false) ∧ w' = wx) := fun wx => by rw [← hl0]; exact smallLetter_any _ (HB.out p h0).1 (HB.out p h0).2 wx
  have HD0 : Hid (∀ wx, Calls Tryd.prog 53 #[.int .u8 (s[p].toNat : Int)] wx fun e w' => e = .returned (.bool true) ∧ w' = wx) := fun wx => by rw [← hd0]; exact oneDigit_any _ (HB.out p h0).1 (HB.out p h0).2 wx
  have hb0 : Hid (byteAt (suf s p) 0 = (s[p].toNat : Int)) := by
    show _ = _
    unfold byteAt
    rw [suf_list, drop_byte s p h0]; rfl
  have ND : Hid (isDig s[p] = true) := hd0
  unfold maxLen at hs
  clear hl0 hd0
  go_enter Tryd.func30, Tryd.ntmps30
  go_wp2_with (first | (go_at_call 52; refine (HL0.out _).mono ?_; rintro e w' ⟨rfl, rfl⟩) | (go_at_call 53; refine (HD0.out _).mono ?_; rintro e w' ⟨rfl, rfl⟩))
  go_loop [8, 9] (fun i n => ∃ (k : Nat) (acc : Int), p ≤ k ∧ k ≤ s.size ∧ i = .int .i64 k ∧ n = .int .i64 acc ∧ 0 ≤ acc ∧ acc ≤ 1125899906842624 ∧ Hid (numA 0 (suf s p).data.toList = numA acc (s.data.toList.drop k)) ∧ Hid (run isDig (suf s p).data.toList = (k - p) + run isDig (s.data.toList.drop k))) (fun i _ => s.size - (intOf i).toNat)
  case atStart => exact ⟨p, 0, by omega, by omega, rfl, rfl, by omega, by omega, (by show _ = _; rw [suf_list]), (by show _ = _; rw [suf_list]; omega)⟩
  case round =>
    obtain ⟨k, acc, hk1, hk, rfl, rfl, ha0, ha1, HN, HR⟩ := hrel
    have hkp : Hid (p + (k - p) = k) := by show _ = _; omega
    by_cases hlt : k < s.size
    · by_cases hd : isDig s[k] = true
      · have hd2 : 48 ≤ (s[k].toNat : Int) ∧ (s[k].toNat : Int) ≤ 57 := inB_true.1 hd
        obtain ⟨g1, g2⟩ := hd2
        have HG : Hid (∀ wx, Calls Tryd.prog 53 #[.int .u8 (s[k].toNat : Int)] wx fun e w' => e = .returned (.bool true) ∧ w' = wx) := fun wx => by rw [← hd]; exact oneDigit_any _ (HB.out k hlt).1 (HB.out k hlt).2 wx
        have NY := Lib.hid (numA_yes (acc := acc) hlt hd)
        have RY := Lib.hid (run_yes hlt hd)
        clear hd
        by_cases hgt : 1125899906842624 < 10 * acc + ((s[k].toNat : Int) - 48)
        · have HF : Hid (numV (suf s p) = tokErr 2) := by show _ = _; unfold numV; rw [HN.out, NY.out, if_pos hgt]
          go_wp2_with (go_at_call 53; refine (HG.out _).mono ?_; rintro e w' ⟨rfl, rfl⟩)
          refine bodyPost_ret (v := (tokErr 2).from p) (by simp [results, Tryd.results30, go_sem, tokErr, TokR.from]; try rfl) rfl ?_
          exact ⟨by rw [HF.out], (by repeat (first | exact Below.refl _ _ | assumption | refine below_step ?_ (by assumption) | refine below_step ?_ (Joins.below_draws _ _ _) | (refine Below.alloc ?_ (by first | omega | (simp; done) | (simp; omega)) _) | (refine Below.setCell ?_ (by first | omega | (simp; done) | (simp; omega)) _) | refine Below.drew ?_))⟩
        · have hle : 10 * acc + ((s[k].toNat : Int) - 48) ≤ 1125899906842624 := by omega
          have HF : Hid (numA 0 (suf s p).data.toList = numA (10 * acc + ((s[k].toNat : Int) - 48)) (s.data.toList.drop (k + 1))) := by show _ = _; rw [HN.out, NY.out, if_neg hgt]
          have HR' : Hid (run isDig (suf s p).data.toList = (k + 1 - p) + run isDig (s.data.toList.drop (k + 1))) := by show _ = _; rw [HR.out, RY.out]; omega
          clear hgt
          go_wp2_with (go_at_call 53; refine (HG.out _).mono ?_; rintro e w' ⟨rfl, rfl⟩)
          go_round
          case rel => exact ⟨k + 1, _, by omega, by omega, by go_num, rfl, by omega, hle, HF, HR'⟩
          case measure => simp [intOf]; omega
      · have hd' : isDig s[k] = false := by simpa using hd
        have HG : Hid (∀ wx, Calls Tryd.prog 53 #[.int .u8 (s[k].toNat : Int)] wx fun e w' => e = .returned (.bool false) ∧ w' = wx) := fun wx => by rw [← hd']; exact oneDigit_any _ (HB.out k hlt).1 (HB.out k hlt).2 wx
        have HRR : Hid (run isDig (suf s p).data.toList = k - p) := by show _ = _; rw [HR.out, run_no hlt hd']; omega
        have HV : Hid (numV (suf s p) = if numEnd (suf s p) (k - p) = true ∨ (byteAt (suf s p) 0 = 48 ∧ 1 < k - p) then tokErr 4 else ⟨0, 2, ByteArray.empty, acc, k - p⟩) := by show _ = _; unfold numV; rw [HN.out, numA_no hlt hd', HRR.out]
        have hE0 : Hid (numEnd (suf s p) (k - p) = isLet s[k]) := by
          show _ = _
          unfold numEnd
          rw [suf_list, List.getElem?_drop, hkp.out, byte_at s k hlt]
        clear hd hd'
        by_cases hle : isLet s[k] = true
        · have HLE : Hid (∀ wx, Calls Tryd.prog 52 #[.int .u8 (s[k].toNat : Int)] wx fun e w' => e = .returned (.bool true) ∧ w' = wx) := fun wx => by rw [← hle]; exact smallLetter_any _ (HB.out k hlt).1 (HB.out k hlt).2 wx
          have HE : Hid (numEnd (suf s p) (k - p) = true) := by show _ = _; rw [hE0.out, hle]
          clear hle
          have HW : Hid (numV (suf s p) = tokErr 4) := by show _ = _; rw [HV.out, if_pos (Or.inl HE.out)]
          by_cases g1 : (s[p].toNat : Int) = 48
          · have g1' : ((s[p].toNat : Int) == 48) = true := by simp [g1]
            by_cases g2 : p + 1 < k
            · have g2' : (p : Int) + 1 < k := by omega
              clear g1
              go_wp2_with (first | (go_at_call 53; refine (HG.out _).mono ?_; rintro e w' ⟨rfl, rfl⟩) | (go_at_call 52; refine (HLE.out _).mono ?_; rintro e w' ⟨rfl, rfl⟩) | fail)
              refine bodyPost_ret (v := (tokErr 4).from p) (by simp [results, Tryd.results30, go_sem, tokErr, TokR.from]; try rfl) rfl ?_
              exact ⟨by rw [HW.out], (by repeat (first | exact Below.refl _ _ | assumption | refine below_step ?_ (by assumption) | refine below_step ?_ (Joins.below_draws _ _ _) | (refine Below.alloc ?_ (by first | omega | (simp; done) | (simp; omega)) _) | (refine Below.setCell ?_ (by first | omega | (simp; done) | (simp; omega)) _) | refine Below.drew ?_))⟩
            · have g2' : (k : Int) ≤ (p : Int) + 1 := by omega
              clear g1
              go_wp2_with (first | (go_at_call 53; refine (HG.out _).mono ?_; rintro e w' ⟨rfl, rfl⟩) | (go_at_call 52; refine (HLE.out _).mono ?_; rintro e w' ⟨rfl, rfl⟩) | fail)
              refine bodyPost_ret (v := (tokErr 4).from p) (by simp [results, Tryd.results30, go_sem, tokErr, TokR.from]; try rfl) rfl ?_
              exact ⟨by rw [HW.out], (by repeat (first | exact Below.refl _ _ | assumption | refine below_step ?_ (by assumption) | refine below_step ?_ (Joins.below_draws _ _ _) | (refine Below.alloc ?_ (by first | omega | (simp; done) | (simp; omega)) _) | (refine Below.setCell ?_ (by first | omega | (simp; done) | (simp; omega)) _) | refine Below.drew ?_))⟩
          · have g1' : ((s[p].toNat : Int) == 48) = false := by simpa using g1
            clear g1
            go_wp2_with (first | (go_at_call 53; refine (HG.out _).mono ?_; rintro e w' ⟨rfl, rfl⟩) | (go_at_call 52; refine (HLE.out _).mono ?_; rintro e w' ⟨rfl, rfl⟩) | fail)
            refine bodyPost_ret (v := (tokErr 4).from p) (by simp [results, Tryd.results30, go_sem, tokErr, TokR.from]; try rfl) rfl ?_
            exact ⟨by rw [HW.out], (by repeat (first | exact Below.refl _ _ | assumption | refine below_step ?_ (by assumption) | refine below_step ?_ (Joins.below_draws _ _ _) | (refine Below.alloc ?_ (by first | omega | (simp; done) | (simp; omega)) _) | (refine Below.setCell ?_ (by first | omega | (simp; done) | (simp; omega)) _) | refine Below.drew ?_))⟩
        · have hle' : isLet s[k] = false := by simpa using hle
          have HLE : Hid (∀ wx, Calls Tryd.prog 52 #[.int .u8 (s[k].toNat : Int)] wx fun e w' => e = .returned (.bool false) ∧ w' = wx) := fun wx => by rw [← hle']; exact smallLetter_any _ (HB.out k hlt).1 (HB.out k hlt).2 wx
          have HE : Hid (numEnd (suf s p) (k - p) = false) := by show _ = _; rw [hE0.out, hle']
          clear hle hle'
          by_cases g1 : (s[p].toNat : Int) = 48
          · have g1' : ((s[p].toNat : Int) == 48) = true := by simp [g1]
            by_cases g2 : p + 1 < k
            · have g2' : (p : Int) + 1 < k := by omega
              have HW : Hid (numV (suf s p) = tokErr 4) := by show _ = _; rw [HV.out, if_pos (Or.inr ⟨by rw [hb0.out]; exact g1, by omega⟩)]
              clear g1
              go_wp2_with (first | (go_at_call 53; refine (HG.out _).mono ?_; rintro e w' ⟨rfl, rfl⟩) | (go_at_call 52; refine (HLE.out _).mono ?_; rintro e w' ⟨rfl, rfl⟩) | fail)
              refine bodyPost_ret (v := (tokErr 4).from p) (by simp [results, Tryd.results30, go_sem, tokErr, TokR.from]; try rfl) rfl ?_
              exact ⟨by rw [HW.out], (by repeat (first | exact Below.refl _ _ | assumption | refine below_step ?_ (by assumption) | refine below_step ?_ (Joins.below_draws _ _ _) | (refine Below.alloc ?_ (by first | omega | (simp; done) | (simp; omega)) _) | (refine Below.setCell ?_ (by first | omega | (simp; done) | (simp; omega)) _) | refine Below.drew ?_))⟩
            · have g2' : (k : Int) ≤ (p : Int) + 1 := by omega
              have HW : Hid (numV (suf s p) = ⟨0, 2, ByteArray.empty, acc, k - p⟩) := by show _ = _; rw [HV.out, if_neg (by rintro (h | ⟨_, h⟩); (rw [HE.out] at h; cases h); omega)]
              clear g1
              go_wp2_with (first | (go_at_call 53; refine (HG.out _).mono ?_; rintro e w' ⟨rfl, rfl⟩) | (go_at_call 52; refine (HLE.out _).mono ?_; rintro e w' ⟨rfl, rfl⟩) | fail)
              refine bodyPost_ret (v := (⟨0, 2, ByteArray.empty, acc, k - p⟩ : TokR).from p) (by simp [results, Tryd.results30, go_sem, TokR.from, hkp.out]; try rfl) rfl ?_
              exact ⟨by rw [HW.out], (by repeat (first | exact Below.refl _ _ | assumption | refine below_step ?_ (by assumption) | refine below_step ?_ (Joins.below_draws _ _ _) | (refine Below.alloc ?_ (by first | omega | (simp; done) | (simp; omega)) _) | (refine Below.setCell ?_ (by first | omega | (simp; done) | (simp; omega)) _) | refine Below.drew ?_))⟩
          · have g1' : ((s[p].toNat : Int) == 48) = false := by simpa using g1
            have HW : Hid (numV (suf s p) = ⟨0, 2, ByteArray.empty, acc, k - p⟩) := by show _ = _; rw [HV.out, if_neg (by rintro (h | ⟨h, _⟩); (rw [HE.out] at h; cases h); (rw [hb0.out] at h; exact g1 h))]
            clear g1
            go_wp2_with (first | (go_at_call 53; refine (HG.out _).mono ?_; rintro e w' ⟨rfl, rfl⟩) | (go_at_call 52; refine (HLE.out _).mono ?_; rintro e w' ⟨rfl, rfl⟩) | fail)
            refine bodyPost_ret (v := (⟨0, 2, ByteArray.empty, acc, k - p⟩ : TokR).from p) (by simp [results, Tryd.results30, go_sem, TokR.from, hkp.out]; try rfl) rfl ?_
            exact ⟨by rw [HW.out], (by repeat (first | exact Below.refl _ _ | assumption | refine below_step ?_ (by assumption) | refine below_step ?_ (Joins.below_draws _ _ _) | (refine Below.alloc ?_ (by first | omega | (simp; done) | (simp; omega)) _) | (refine Below.setCell ?_ (by first | omega | (simp; done) | (simp; omega)) _) | refine Below.drew ?_))⟩
    · have HRR : Hid (run isDig (suf s p).data.toList = k - p) := by show _ = _; rw [HR.out, run_end (by omega)]; omega
      have HV : Hid (numV (suf s p) = if numEnd (suf s p) (k - p) = true ∨ (byteAt (suf s p) 0 = 48 ∧ 1 < k - p) then tokErr 4 else ⟨0, 2, ByteArray.empty, acc, k - p⟩) := by show _ = _; unfold numV; rw [HN.out, numA_end (by omega), HRR.out]
      have HE : Hid (numEnd (suf s p) (k - p) = false) := by
        show _ = _
        unfold numEnd
        rw [suf_list, List.getElem?_drop, hkp.out, List.getElem?_eq_none (by simp; omega)]
      by_cases g1 : (s[p].toNat : Int) = 48
      · have g1' : ((s[p].toNat : Int) == 48) = true := by simp [g1]
        by_cases g2 : p + 1 < k
        · have g2' : (p : Int) + 1 < k := by omega
          have HW : Hid (numV (suf s p) = tokErr 4) := by show _ = _; rw [HV.out, if_pos (Or.inr ⟨by rw [hb0.out]; exact g1, by omega⟩)]
          clear g1
          go_wp2_with (first | (go_at_call 53; refine (HG.out _).mono ?_; rintro e w' ⟨rfl, rfl⟩) | fail)
          refine bodyPost_ret (v := (tokErr 4).from p) (by simp [results, Tryd.results30, go_sem, tokErr, TokR.from]; try rfl) rfl ?_
          exact ⟨by rw [HW.out], (by repeat (first | exact Below.refl _ _ | assumption | refine below_step ?_ (by assumption) | refine below_step ?_ (Joins.below_draws _ _ _) | (refine Below.alloc ?_ (by first | omega | (simp; done) | (simp; omega)) _) | (refine Below.setCell ?_ (by first | omega | (simp; done) | (simp; omega)) _) | refine Below.drew ?_))⟩
        · have g2' : (k : Int) ≤ (p : Int) + 1 := by omega
          have HW : Hid (numV (suf s p) = ⟨0, 2, ByteArray.empty, acc, k - p⟩) := by show _ = _; rw [HV.out, if_neg (by rintro (h | ⟨_, h⟩); (rw [HE.out] at h; cases h); omega)]
          clear g1
          go_wp2_with (first | (go_at_call 53; refine (HG.out _).mono ?_; rintro e w' ⟨rfl, rfl⟩) | fail)
          refine bodyPost_ret (v := (⟨0, 2, ByteArray.empty, acc, k - p⟩ : TokR).from p) (by simp [results, Tryd.results30, go_sem, TokR.from, hkp.out]; try rfl) rfl ?_
          exact ⟨by rw [HW.out], (by repeat (first | exact Below.refl _ _ | assumption | refine below_step ?_ (by assumption) | refine below_step ?_ (Joins.below_draws _ _ _) | (refine Below.alloc ?_ (by first | omega | (simp; done) | (simp; omega)) _) | (refine Below.setCell ?_ (by first | omega | (simp; done) | (simp; omega)) _) | refine Below.drew ?_))⟩
      · have g1' : ((s[p].toNat : Int) == 48) = false := by simpa using g1
        have HW : Hid (numV (suf s p) = ⟨0, 2, ByteArray.empty, acc, k - p⟩) := by show _ = _; rw [HV.out, if_neg (by rintro (h | ⟨h, _⟩); (rw [HE.out] at h; cases h); (rw [hb0.out] at h; exact g1 h))]
        clear g1
        go_wp2_with (first | (go_at_call 53; refine (HG.out _).mono ?_; rintro e w' ⟨rfl, rfl⟩) | fail)
        refine bodyPost_ret (v := (⟨0, 2, ByteArray.empty, acc, k - p⟩ : TokR).from p) (by simp [results, Tryd.results30, go_sem, TokR.from, hkp.out]; try rfl) rfl ?_
        exact ⟨by rw [HW.out], (by repeat (first | exact Below.refl _ _ | assumption | refine below_step ?_ (by assumption) | refine below_step ?_ (Joins.below_draws _ _ _) | (refine Below.alloc ?_ (by first | omega | (simp; done) | (simp; omega)) _) | (refine Below.setCell ?_ (by first | omega | (simp; done) | (simp; omega)) _) | refine Below.drew ?_))⟩
end Go.Proofs.YtenchgdlkbdpdaaDoor
