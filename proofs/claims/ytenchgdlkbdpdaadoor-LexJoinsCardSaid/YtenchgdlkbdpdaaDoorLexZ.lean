/-
  The walks of lex and its reference, fourth part: a token at a string's beginning.
-/
import Derived.Test.YtenchgdlkbdpdaaDoorLexY
import Derived.Lib.RabinKarpLaws
namespace Go.Proofs.YtenchgdlkbdpdaaDoor
open Go.RowKit
set_option linter.unusedVariables false
set_option linter.unusedSimpArgs false

/-- A token, how long it is, and what it is refused for. -/
structure TokR where
  code : Int
  kind : Int
  text : ByteArray
  int : Int
  len : Nat
def tokErr (e : Int) : TokR := ⟨e, 0, ByteArray.empty, 0, 0⟩
def TokR.val (r : TokR) : Value := .tuple #[.agg #[.int .i64 r.kind, .string r.text, .int .i64 r.int], .int .i64 r.len, .int .i64 r.code]
def isWrd (c : UInt8) : Bool := isLet c || isDig c
def wordV (s : ByteArray) : TokR := if 10 < 1 + run isWrd (s.data.toList.drop 1) then tokErr 1 else ⟨0, 1, s.extract 0 (1 + run isWrd (s.data.toList.drop 1)), 0, 1 + run isWrd (s.data.toList.drop 1)⟩
def numEnd (s : ByteArray) (i : Nat) : Bool := match s.data.toList[i]? with
  | some c => isLet c
  | none => false
def numV (s : ByteArray) : TokR := match numA 0 s.data.toList with
  | none => tokErr 2
  | some v => if numEnd s (run isDig s.data.toList) = true ∨ (byteAt s 0 = 48 ∧ 1 < run isDig s.data.toList) then tokErr 4 else ⟨0, 2, ByteArray.empty, v, run isDig s.data.toList⟩

set_option maxHeartbeats 2000000 in
theorem token_word (s : ByteArray) (w : World) (hs : s.size ≤ maxLen) (h0 : 0 < s.size) (hc : isLet s[0] = true) : Calls Tryd.prog 28 #[.string s] w fun e w' => e = .returned (wordV s).val ∧ Below w.heap.size w w' := by
  unfold maxLen at hs
  have HL0 : Hid (∀ wx, Calls Tryd.prog 47 #[.int .u8 (s[0].toNat : Int)] wx fun e w' => e = .returned (.bool true) ∧ w' = wx) := fun wx => by rw [← hc]; exact letter_any _ wx
  clear hc
  go_enter Tryd.func28, Tryd.ntmps28
  go_wp2_with (go_at_call 47; refine (HL0.out _).mono ?_; rintro e w' ⟨rfl, rfl⟩)
  go_loop [6] (fun i => ∃ k : Nat, 1 ≤ k ∧ k ≤ s.size ∧ i = .int .i64 k ∧ Hid (1 + run isWrd (s.data.toList.drop 1) = k + run isWrd (s.data.toList.drop k))) (fun i => s.size - (intOf i).toNat)
  case atStart => exact ⟨1, by omega, by omega, rfl, rfl⟩
  case round =>
    obtain ⟨k, hk1, hk, rfl, HR⟩ := hrel
    have done : run isWrd (s.data.toList.drop k) = 0 → Hid (wordV s = if 10 < k then tokErr 1 else ⟨0, 1, s.extract 0 k, 0, k⟩) := fun h => by
      have := HR.out
      rw [h, Nat.add_zero] at this
      show wordV s = _
      unfold wordV
      rw [this]
    have HD := Lib.hid done
    clear done
    by_cases hlt : k < s.size
    · by_cases hl : isLet s[k] = true
      · have HL : Hid (∀ wx, Calls Tryd.prog 47 #[.int .u8 (s[k].toNat : Int)] wx fun e w' => e = .returned (.bool true) ∧ w' = wx) := fun wx => by rw [← hl]; exact letter_any _ wx
        have HR' : Hid (1 + run isWrd (s.data.toList.drop 1) = (k + 1 : Nat) + run isWrd (s.data.toList.drop (k + 1))) := by
          show _ = _
          rw [HR.out, run_yes hlt (by simp [isWrd, hl])]; omega
        clear hl
        go_wp2_with (go_at_call 47; refine (HL.out _).mono ?_; rintro e w' ⟨rfl, rfl⟩)
        go_round
        case rel => exact ⟨k + 1, by omega, by omega, by go_num, HR'⟩
        case measure => simp [intOf]; omega
      · have hl' : isLet s[k] = false := by simpa using hl
        have HL : Hid (∀ wx, Calls Tryd.prog 47 #[.int .u8 (s[k].toNat : Int)] wx fun e w' => e = .returned (.bool false) ∧ w' = wx) := fun wx => by rw [← hl']; exact letter_any _ wx
        by_cases hd : isDig s[k] = true
        · have HG : Hid (∀ wx, Calls Tryd.prog 48 #[.int .u8 (s[k].toNat : Int)] wx fun e w' => e = .returned (.bool true) ∧ w' = wx) := fun wx => by rw [← hd]; exact digit_any _ wx
          have HR' : Hid (1 + run isWrd (s.data.toList.drop 1) = (k + 1 : Nat) + run isWrd (s.data.toList.drop (k + 1))) := by
            show _ = _
            rw [HR.out, run_yes hlt (by simp [isWrd, hd])]; omega
          clear hl hl' hd
          go_wp2_with (first | (go_at_call 47; refine (HL.out _).mono ?_; rintro e w' ⟨rfl, rfl⟩) | (go_at_call 48; refine (HG.out _).mono ?_; rintro e w' ⟨rfl, rfl⟩))
          go_round
          case rel => exact ⟨k + 1, by omega, by omega, by go_num, HR'⟩
          case measure => simp [intOf]; omega
        · have hd' : isDig s[k] = false := by simpa using hd
          have HG : Hid (∀ wx, Calls Tryd.prog 48 #[.int .u8 (s[k].toNat : Int)] wx fun e w' => e = .returned (.bool false) ∧ w' = wx) := fun wx => by rw [← hd']; exact digit_any _ wx
          have HV := HD.out (run_no hlt (by simp [isWrd, hl', hd']))
          clear hl hl' hd hd'
          by_cases h10 : 10 < k
          · have h10' : (10 : Int) < k := by omega
            go_wp2_with (first | (go_at_call 47; refine (HL.out _).mono ?_; rintro e w' ⟨rfl, rfl⟩) | (go_at_call 48; refine (HG.out _).mono ?_; rintro e w' ⟨rfl, rfl⟩))
            refine bodyPost_ret (v := (tokErr 1).val) (by simp [results, Tryd.results28, go_sem, tokErr, TokR.val]; try rfl) rfl ?_
            exact ⟨by rw [HV.out, if_pos h10], (by repeat (first | exact Below.refl _ _ | assumption | refine below_step ?_ (by assumption) | refine below_step ?_ (Joins.below_draws _ _ _) | (refine Below.alloc ?_ (by first | omega | (simp; done) | (simp; omega)) _) | (refine Below.setCell ?_ (by first | omega | (simp; done) | (simp; omega)) _) | refine Below.drew ?_))⟩
          · have h10' : (k : Int) ≤ 10 := by omega
            go_wp2_with (first | (go_at_call 47; refine (HL.out _).mono ?_; rintro e w' ⟨rfl, rfl⟩) | (go_at_call 48; refine (HG.out _).mono ?_; rintro e w' ⟨rfl, rfl⟩))
            refine bodyPost_ret (v := (⟨0, 1, s.extract 0 k, 0, k⟩ : TokR).val) (by simp [results, Tryd.results28, go_sem, TokR.val]; try rfl) rfl ?_
            exact ⟨by rw [HV.out, if_neg h10], (by repeat (first | exact Below.refl _ _ | assumption | refine below_step ?_ (by assumption) | refine below_step ?_ (Joins.below_draws _ _ _) | (refine Below.alloc ?_ (by first | omega | (simp; done) | (simp; omega)) _) | (refine Below.setCell ?_ (by first | omega | (simp; done) | (simp; omega)) _) | refine Below.drew ?_))⟩
    · have HV := HD.out (run_end (by omega))
      by_cases h10 : 10 < k
      · have h10' : (10 : Int) < k := by omega
        go_wp2
        refine bodyPost_ret (v := (tokErr 1).val) (by simp [results, Tryd.results28, go_sem, tokErr, TokR.val]; try rfl) rfl ?_
        exact ⟨by rw [HV.out, if_pos h10], (by repeat (first | exact Below.refl _ _ | assumption | refine below_step ?_ (by assumption) | refine below_step ?_ (Joins.below_draws _ _ _) | (refine Below.alloc ?_ (by first | omega | (simp; done) | (simp; omega)) _) | (refine Below.setCell ?_ (by first | omega | (simp; done) | (simp; omega)) _) | refine Below.drew ?_))⟩
      · have h10' : (k : Int) ≤ 10 := by omega
        go_wp2
        refine bodyPost_ret (v := (⟨0, 1, s.extract 0 k, 0, k⟩ : TokR).val) (by simp [results, Tryd.results28, go_sem, TokR.val]; try rfl) rfl ?_
        exact ⟨by rw [HV.out, if_neg h10], (by repeat (first | exact Below.refl _ _ | assumption | refine below_step ?_ (by assumption) | refine below_step ?_ (Joins.below_draws _ _ _) | (refine Below.alloc ?_ (by first | omega | (simp; done) | (simp; omega)) _) | (refine Below.setCell ?_ (by first | omega | (simp; done) | (simp; omega)) _) | refine Below.drew ?_))⟩

set_option maxHeartbeats 4000000 in
theorem token_num (s : ByteArray) (w : World) (hs : s.size ≤ maxLen) (h0 : 0 < s.size) (hl : isLet s[0] = false) (hd : isDig s[0] = true) : Calls Tryd.prog 28 #[.string s] w fun e w' => e = .returned (numV s).val ∧ Below w.heap.size w w' := by
  have HL0 : Hid (∀ wx, Calls Tryd.prog 47 #[.int .u8 (s[0].toNat : Int)] wx fun e w' => e = .returned (.bool false) ∧ w' = wx) := fun wx => by rw [← hl]; exact letter_any _ wx
  have HD0 : Hid (∀ wx, Calls Tryd.prog 48 #[.int .u8 (s[0].toNat : Int)] wx fun e w' => e = .returned (.bool true) ∧ w' = wx) := fun wx => by rw [← hd]; exact digit_any _ wx
  have HNum := Lib.hid (fun wx => number_any s wx hs)
  have hb0 : Hid ((s[0].toNat : Int) = byteAt s 0) := byteAt_eq s 0 h0
  have hrl := run_le isDig s.data.toList
  simp only [Array.length_toList, ByteArray.size_data] at hrl
  unfold maxLen at hs
  clear hl hd
  cases hn : numA 0 s.data.toList with
  | none =>
    have HV : Hid (numV s = tokErr 2) := by show _ = _; unfold numV; rw [hn]
    have HP : Hid (∀ wx, Calls Tryd.prog 49 #[.string s] wx fun e w' => ∃ i : Int, e = .returned (.tuple #[.int .i64 0, .int .i64 i, .bool false]) ∧ w' = wx) := fun wx => (HNum.out wx).mono fun e w' ⟨hw, h⟩ => by
      rcases h with ⟨v, h1, _⟩ | ⟨_, i, h1⟩
      · rw [hn] at h1; cases h1
      · exact ⟨i, h1, hw⟩
    clear hn HNum
    go_enter Tryd.func28, Tryd.ntmps28
    go_wp2_with (first | (go_at_call 47; refine (HL0.out _).mono ?_; rintro e w' ⟨rfl, rfl⟩) | (go_at_call 48; refine (HD0.out _).mono ?_; rintro e w' ⟨rfl, rfl⟩) | (go_at_call 49; refine (HP.out _).mono ?_; rintro e w' ⟨i, rfl, rfl⟩))
    refine bodyPost_ret (v := (tokErr 2).val) (by simp [results, Tryd.results28, go_sem, tokErr, TokR.val]; try rfl) rfl ?_
    exact ⟨by rw [HV.out], (by repeat (first | exact Below.refl _ _ | assumption | refine below_step ?_ (by assumption) | refine below_step ?_ (Joins.below_draws _ _ _) | (refine Below.alloc ?_ (by first | omega | (simp; done) | (simp; omega)) _) | (refine Below.setCell ?_ (by first | omega | (simp; done) | (simp; omega)) _) | refine Below.drew ?_))⟩
  | some v =>
    have HP : Hid (∀ wx, Calls Tryd.prog 49 #[.string s] wx fun e w' => e = .returned (.tuple #[.int .i64 v, .int .i64 (run isDig s.data.toList), .bool true]) ∧ w' = wx) := fun wx => (HNum.out wx).mono fun e w' ⟨hw, h⟩ => by
      rcases h with ⟨v', h1, h2⟩ | ⟨h1, _⟩
      · rw [hn] at h1; injection h1 with h1; subst h1; exact ⟨h2, hw⟩
      · rw [hn] at h1; cases h1
    have HV : Hid (numV s = if numEnd s (run isDig s.data.toList) = true ∨ (byteAt s 0 = 48 ∧ 1 < run isDig s.data.toList) then tokErr 4 else ⟨0, 2, ByteArray.empty, v, run isDig s.data.toList⟩) := by show _ = _; unfold numV; rw [hn]
    clear hn HNum
    generalize run isDig s.data.toList = r at hrl HP HV
    -- the end: is a letter behind the digits?
    by_cases hlt : r < s.size
    · have hE : Hid (numEnd s r = isLet s[r]) := by
        show _ = _
        unfold numEnd
        rw [byte_at s r hlt]
      by_cases hle : isLet s[r] = true
      · have HL : Hid (∀ wx, Calls Tryd.prog 47 #[.int .u8 (s[r].toNat : Int)] wx fun e w' => e = .returned (.bool true) ∧ w' = wx) := fun wx => by rw [← hle]; exact letter_any _ wx
        have HW : Hid (numV s = tokErr 4) := by show _ = _; rw [HV.out, if_pos (Or.inl (by rw [hE.out, hle]))]
        clear hle
        go_enter Tryd.func28, Tryd.ntmps28
        go_wp2_with (first | (go_at_call 47; (with_reducible refine (HL0.out _).mono ?_); rintro e w' ⟨rfl, rfl⟩) | (go_at_call 47; (with_reducible refine (HL.out _).mono ?_); rintro e w' ⟨rfl, rfl⟩) | (go_at_call 48; refine (HD0.out _).mono ?_; rintro e w' ⟨rfl, rfl⟩) | (go_at_call 49; refine (HP.out _).mono ?_; rintro e w' ⟨rfl, rfl⟩))
        refine bodyPost_ret (v := (tokErr 4).val) (by simp [results, Tryd.results28, go_sem, tokErr, TokR.val]; try rfl) rfl ?_
        exact ⟨by rw [HW.out], (by repeat (first | exact Below.refl _ _ | assumption | refine below_step ?_ (by assumption) | refine below_step ?_ (Joins.below_draws _ _ _) | (refine Below.alloc ?_ (by first | omega | (simp; done) | (simp; omega)) _) | (refine Below.setCell ?_ (by first | omega | (simp; done) | (simp; omega)) _) | refine Below.drew ?_))⟩
      · have hle' : isLet s[r] = false := by simpa using hle
        have HL : Hid (∀ wx, Calls Tryd.prog 47 #[.int .u8 (s[r].toNat : Int)] wx fun e w' => e = .returned (.bool false) ∧ w' = wx) := fun wx => by rw [← hle']; exact letter_any _ wx
        by_cases h48 : (s[0].toNat : Int) = 48 ∧ 1 < r
        · have HW : Hid (numV s = tokErr 4) := by show _ = _; rw [HV.out, if_pos (Or.inr ⟨by rw [← hb0.out]; exact h48.1, h48.2⟩)]
          obtain ⟨g1, g2⟩ := h48
          have g1' : ((s[0].toNat : Int) == 48) = true := by simp [g1]
          have g2' : (1 : Int) < r := by omega
          clear hle hle' g1
          go_enter Tryd.func28, Tryd.ntmps28
          go_wp2_with (first | (go_at_call 47; (with_reducible refine (HL0.out _).mono ?_); rintro e w' ⟨rfl, rfl⟩) | (go_at_call 47; (with_reducible refine (HL.out _).mono ?_); rintro e w' ⟨rfl, rfl⟩) | (go_at_call 48; refine (HD0.out _).mono ?_; rintro e w' ⟨rfl, rfl⟩) | (go_at_call 49; refine (HP.out _).mono ?_; rintro e w' ⟨rfl, rfl⟩))
          refine bodyPost_ret (v := (tokErr 4).val) (by simp [results, Tryd.results28, go_sem, tokErr, TokR.val]; try rfl) rfl ?_
          exact ⟨by rw [HW.out], (by repeat (first | exact Below.refl _ _ | assumption | refine below_step ?_ (by assumption) | refine below_step ?_ (Joins.below_draws _ _ _) | (refine Below.alloc ?_ (by first | omega | (simp; done) | (simp; omega)) _) | (refine Below.setCell ?_ (by first | omega | (simp; done) | (simp; omega)) _) | refine Below.drew ?_))⟩
        · have HW : Hid (numV s = ⟨0, 2, ByteArray.empty, v, r⟩) := by
            show _ = _
            rw [HV.out, if_neg]
            rintro (h | ⟨h1, h2⟩)
            · rw [hE.out, hle'] at h; cases h
            · exact h48 ⟨by rw [hb0.out]; exact h1, h2⟩
          clear hle hle'
          by_cases g1 : (s[0].toNat : Int) = 48
          · have g1' : ((s[0].toNat : Int) == 48) = true := by simp [g1]
            have g2' : (r : Int) ≤ 1 := by have : ¬ 1 < r := fun h => h48 ⟨g1, h⟩; omega
            clear g1 h48
            go_enter Tryd.func28, Tryd.ntmps28
            go_wp2_with (first | (go_at_call 47; (with_reducible refine (HL0.out _).mono ?_); rintro e w' ⟨rfl, rfl⟩) | (go_at_call 47; (with_reducible refine (HL.out _).mono ?_); rintro e w' ⟨rfl, rfl⟩) | (go_at_call 48; refine (HD0.out _).mono ?_; rintro e w' ⟨rfl, rfl⟩) | (go_at_call 49; refine (HP.out _).mono ?_; rintro e w' ⟨rfl, rfl⟩))
            refine bodyPost_ret (v := (⟨0, 2, ByteArray.empty, v, r⟩ : TokR).val) (by simp [results, Tryd.results28, go_sem, TokR.val]; try rfl) rfl ?_
            exact ⟨by rw [HW.out], (by repeat (first | exact Below.refl _ _ | assumption | refine below_step ?_ (by assumption) | refine below_step ?_ (Joins.below_draws _ _ _) | (refine Below.alloc ?_ (by first | omega | (simp; done) | (simp; omega)) _) | (refine Below.setCell ?_ (by first | omega | (simp; done) | (simp; omega)) _) | refine Below.drew ?_))⟩
          · have g1' : ((s[0].toNat : Int) == 48) = false := by simpa using g1
            clear g1 h48
            go_enter Tryd.func28, Tryd.ntmps28
            go_wp2_with (first | (go_at_call 47; (with_reducible refine (HL0.out _).mono ?_); rintro e w' ⟨rfl, rfl⟩) | (go_at_call 47; (with_reducible refine (HL.out _).mono ?_); rintro e w' ⟨rfl, rfl⟩) | (go_at_call 48; refine (HD0.out _).mono ?_; rintro e w' ⟨rfl, rfl⟩) | (go_at_call 49; refine (HP.out _).mono ?_; rintro e w' ⟨rfl, rfl⟩))
            refine bodyPost_ret (v := (⟨0, 2, ByteArray.empty, v, r⟩ : TokR).val) (by simp [results, Tryd.results28, go_sem, TokR.val]; try rfl) rfl ?_
            exact ⟨by rw [HW.out], (by repeat (first | exact Below.refl _ _ | assumption | refine below_step ?_ (by assumption) | refine below_step ?_ (Joins.below_draws _ _ _) | (refine Below.alloc ?_ (by first | omega | (simp; done) | (simp; omega)) _) | (refine Below.setCell ?_ (by first | omega | (simp; done) | (simp; omega)) _) | refine Below.drew ?_))⟩
    · have hE : Hid (numEnd s r = false) := by
        show _ = _
        unfold numEnd
        rw [List.getElem?_eq_none (by simp; omega)]
      by_cases h48 : (s[0].toNat : Int) = 48 ∧ 1 < r
      · have HW : Hid (numV s = tokErr 4) := by show _ = _; rw [HV.out, if_pos (Or.inr ⟨by rw [← hb0.out]; exact h48.1, h48.2⟩)]
        obtain ⟨g1, g2⟩ := h48
        have g1' : ((s[0].toNat : Int) == 48) = true := by simp [g1]
        have g2' : (1 : Int) < r := by omega
        clear g1
        go_enter Tryd.func28, Tryd.ntmps28
        go_wp2_with (first | (go_at_call 47; (with_reducible refine (HL0.out _).mono ?_); rintro e w' ⟨rfl, rfl⟩) | (go_at_call 48; refine (HD0.out _).mono ?_; rintro e w' ⟨rfl, rfl⟩) | (go_at_call 49; refine (HP.out _).mono ?_; rintro e w' ⟨rfl, rfl⟩))
        refine bodyPost_ret (v := (tokErr 4).val) (by simp [results, Tryd.results28, go_sem, tokErr, TokR.val]; try rfl) rfl ?_
        exact ⟨by rw [HW.out], (by repeat (first | exact Below.refl _ _ | assumption | refine below_step ?_ (by assumption) | refine below_step ?_ (Joins.below_draws _ _ _) | (refine Below.alloc ?_ (by first | omega | (simp; done) | (simp; omega)) _) | (refine Below.setCell ?_ (by first | omega | (simp; done) | (simp; omega)) _) | refine Below.drew ?_))⟩
      · have HW : Hid (numV s = ⟨0, 2, ByteArray.empty, v, r⟩) := by
          show _ = _
          rw [HV.out, if_neg]
          rintro (h | ⟨h1, h2⟩)
          · rw [hE.out] at h; cases h
          · exact h48 ⟨by rw [hb0.out]; exact h1, h2⟩
        by_cases g1 : (s[0].toNat : Int) = 48
        · have g1' : ((s[0].toNat : Int) == 48) = true := by simp [g1]
          have g2' : (r : Int) ≤ 1 := by have : ¬ 1 < r := fun h => h48 ⟨g1, h⟩; omega
          clear g1 h48
          go_enter Tryd.func28, Tryd.ntmps28
          go_wp2_with (first | (go_at_call 47; (with_reducible refine (HL0.out _).mono ?_); rintro e w' ⟨rfl, rfl⟩) | (go_at_call 48; refine (HD0.out _).mono ?_; rintro e w' ⟨rfl, rfl⟩) | (go_at_call 49; refine (HP.out _).mono ?_; rintro e w' ⟨rfl, rfl⟩))
          refine bodyPost_ret (v := (⟨0, 2, ByteArray.empty, v, r⟩ : TokR).val) (by simp [results, Tryd.results28, go_sem, TokR.val]; try rfl) rfl ?_
          exact ⟨by rw [HW.out], (by repeat (first | exact Below.refl _ _ | assumption | refine below_step ?_ (by assumption) | refine below_step ?_ (Joins.below_draws _ _ _) | (refine Below.alloc ?_ (by first | omega | (simp; done) | (simp; omega)) _) | (refine Below.setCell ?_ (by first | omega | (simp; done) | (simp; omega)) _) | refine Below.drew ?_))⟩
        · have g1' : ((s[0].toNat : Int) == 48) = false := by simpa using g1
          clear g1 h48
          go_enter Tryd.func28, Tryd.ntmps28
          go_wp2_with (first | (go_at_call 47; (with_reducible refine (HL0.out _).mono ?_); rintro e w' ⟨rfl, rfl⟩) | (go_at_call 48; refine (HD0.out _).mono ?_; rintro e w' ⟨rfl, rfl⟩) | (go_at_call 49; refine (HP.out _).mono ?_; rintro e w' ⟨rfl, rfl⟩))
          refine bodyPost_ret (v := (⟨0, 2, ByteArray.empty, v, r⟩ : TokR).val) (by simp [results, Tryd.results28, go_sem, TokR.val]; try rfl) rfl ?_
          exact ⟨by rw [HW.out], (by repeat (first | exact Below.refl _ _ | assumption | refine below_step ?_ (by assumption) | refine below_step ?_ (Joins.below_draws _ _ _) | (refine Below.alloc ?_ (by first | omega | (simp; done) | (simp; omega)) _) | (refine Below.setCell ?_ (by first | omega | (simp; done) | (simp; omega)) _) | refine Below.drew ?_))⟩
end Go.Proofs.YtenchgdlkbdpdaaDoor
