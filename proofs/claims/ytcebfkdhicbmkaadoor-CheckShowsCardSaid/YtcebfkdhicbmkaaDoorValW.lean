/-
  The walks of package value and of its reference, first part: names and values.
-/
import Derived.Test.YtcebfkdhicbmkaaDoorProg
import Derived.Test.YtcebfkdhicbmkaaDoorPlain
import Derived.Test.YtcebfkdhicbmkaaDoorRep
import Derived.WalkSpells
import Derived.WalkLawsBesides
import Derived.Deep.Light
import Derived.Deep.QuietTactic
import Derived.BigQuiet
namespace Go.Proofs.YtcebfkdhicbmkaaDoor
open Go.RowKit
set_option linter.unusedVariables false
set_option linter.unusedSimpArgs false

set_option maxHeartbeats 400000 in
theorem in_any (n lo hi : Int) (w : World) :
    Calls Tryd.prog 45 #[.int .i64 n, .int .i64 lo, .int .i64 hi] w fun e w' => e = .returned (.bool (inB n lo hi)) ∧ w' = w := by
  go_enter Tryd.func45, Tryd.ntmps45
  go_wp2
  all_goals (go_ret; refine ⟨?_, rfl⟩; exact ret_bool (by go_light; unfold inB; first | (simp; done) | (rw [Bool.eq_iff_iff]; simp []; done) | (rw [Bool.eq_iff_iff]; simp []; omega)))
set_option maxHeartbeats 400000 in
theorem name_any (s : ByteArray) (w : World) (hs : s.size ≤ maxLen) :
    Calls Tryd.prog 32 #[.string s] w fun e w' => e = .returned (.int .i64 (nameE s)) ∧ w' = w := by
  unfold maxLen at hs
  by_cases h1 : s.size < 1
  · have : (s.size : Int) < 1 := by omega
    go_enter Tryd.func32, Tryd.ntmps32
    go_wp2
    go_ret
    exact ⟨ret_int (by simp [nameE]; omega), rfl⟩
  by_cases h2 : 10 < s.size
  · have : (10 : Int) < (s.size : Int) := by omega
    go_enter Tryd.func32, Tryd.ntmps32
    go_wp2
    go_ret
    exact ⟨ret_int (by simp [nameE]; omega), rfl⟩
  have g1 : (decide ((s.size : Int) < 1) || decide ((10 : Int) < (s.size : Int))) = false := by simp; omega
  have g2 : decide ((s.size : Int) < 1) = false := by simp; omega
  have g3 : decide ((10 : Int) < (s.size : Int)) = false := by simp; omega
  go_enter Tryd.func32, Tryd.ntmps32
  go_wp2_with fail
  go_loop [15] (fun i => ∃ k : Nat, k ≤ s.size ∧ i = .int .i64 k ∧ AllZ (charE s) k) (fun i => s.size - (intOf i).toNat)
  case atStart => exact ⟨0, by omega, rfl, allZ_zero _⟩
  case round =>
    obtain ⟨k, hk, rfl, hz⟩ := hrel
    by_cases hlt : k < s.size
    · have hb : Hid ((s[k].toNat : Int) = byteAt s k) := byteAt_eq s k hlt
      by_cases hk0 : k = 0
      · have e0 : ((k : Int) == 0) = true := by simp [hk0]
        have hk0' : Hid (k = 0) := hk0; clear hk0
        go_wp2
        all_goals first
          | (go_ret; have hc : charE s k = 4 := by (go_light; unfold charE; rw [← hb.out, if_neg]; have := hk0'.out; (try simp only [Bool.not_eq_true', Bool.not_eq_false', decide_eq_true_eq, decide_eq_false_iff_not, beq_iff_eq, beq_eq_false_iff_ne, bne_iff_ne, ne_eq, Bool.or_eq_true, Bool.and_eq_true, Bool.or_eq_false_iff, Bool.and_eq_false_imp, bne_eq_false_iff_eq, List.isEmpty_iff, List.isEmpty_eq_false_iff] at *); omega)
             exact ⟨ret_int (by simp [nameE, firstN_at hz hlt (by rw [hc]; omega), hc]; omega), rfl⟩)
          | (have hc : charE s k = 0 := by (go_light; unfold charE; rw [← hb.out, if_pos]; have := hk0'.out; (try simp only [Bool.not_eq_true', Bool.not_eq_false', decide_eq_true_eq, decide_eq_false_iff_not, beq_iff_eq, beq_eq_false_iff_ne, bne_iff_ne, ne_eq, Bool.or_eq_true, Bool.and_eq_true, Bool.or_eq_false_iff, Bool.and_eq_false_imp, bne_eq_false_iff_eq, List.isEmpty_iff, List.isEmpty_eq_false_iff] at *); omega)
             go_round
             case rel => exact ⟨k + 1, by omega, by go_num, allZ_succ hz hc⟩
             case measure => simp [intOf]; omega)
      · have e0 : ((k : Int) == 0) = false := by simp [hk0]
        have hk0' : Hid (¬ k = 0) := hk0; clear hk0
        go_wp2
        all_goals first
          | (go_ret; have hc : charE s k = 4 := by (go_light; unfold charE; rw [← hb.out, if_neg]; have := hk0'.out; (try simp only [Bool.not_eq_true', Bool.not_eq_false', decide_eq_true_eq, decide_eq_false_iff_not, beq_iff_eq, beq_eq_false_iff_ne, bne_iff_ne, ne_eq, Bool.or_eq_true, Bool.and_eq_true, Bool.or_eq_false_iff, Bool.and_eq_false_imp, bne_eq_false_iff_eq, List.isEmpty_iff, List.isEmpty_eq_false_iff] at *); omega)
             exact ⟨ret_int (by simp [nameE, firstN_at hz hlt (by rw [hc]; omega), hc]; omega), rfl⟩)
          | (have hc : charE s k = 0 := by (go_light; unfold charE; rw [← hb.out, if_pos]; have := hk0'.out; (try simp only [Bool.not_eq_true', Bool.not_eq_false', decide_eq_true_eq, decide_eq_false_iff_not, beq_iff_eq, beq_eq_false_iff_ne, bne_iff_ne, ne_eq, Bool.or_eq_true, Bool.and_eq_true, Bool.or_eq_false_iff, Bool.and_eq_false_imp, bne_eq_false_iff_eq, List.isEmpty_iff, List.isEmpty_eq_false_iff] at *); omega)
             go_round
             case rel => exact ⟨k + 1, by omega, by go_num, allZ_succ hz hc⟩
             case measure => simp [intOf]; omega)
    · go_wp2
      go_ret
      obtain rfl : k = s.size := by omega
      exact ⟨ret_int (by simp [nameE, firstN_zero hz]; omega), rfl⟩

set_option maxHeartbeats 400000 in
theorem nameFault_any (s : ByteArray) (w : World) (hs : s.size ≤ maxLen) :
    Calls Tryd.prog 44 #[.string s] w fun e w' => e = .returned (.int .i64 (nameE s)) ∧ w' = w := by
  unfold maxLen at hs
  cases hr : inB (s.size : Int) 1 10 with
  | false =>
    go_enter Tryd.func44, Tryd.ntmps44
    go_wp2_with (go_at_call 45; refine (in_any _ _ _ _).mono ?_; rintro e w' ⟨rfl, rfl⟩)
    go_ret
    rw [inB_false] at hr
    exact ⟨ret_int (by simp [nameE]; omega), rfl⟩
  | true =>
    have hr' : Hid (1 ≤ (s.size : Int) ∧ (s.size : Int) ≤ 10) := inB_true.1 hr
    go_enter Tryd.func44, Tryd.ntmps44
    go_wp2_with (go_at_call 45; refine (in_any _ _ _ _).mono ?_; rintro e w' ⟨rfl, rfl⟩)
    go_loop [3] (fun i => ∃ k : Nat, k ≤ s.size ∧ i = .int .i64 k ∧ AllZ (charE s) k) (fun i => s.size - (intOf i).toNat)
    case atStart => exact ⟨0, by omega, rfl, allZ_zero _⟩
    case round =>
      obtain ⟨k, hk, rfl, hz⟩ := hrel
      by_cases hlt : k < s.size
      · have hb : Hid ((s[k].toNat : Int) = byteAt s k) := byteAt_eq s k hlt
        have h256 : (s[k].toNat : Int) < 256 := by have := s[k].toNat_lt; omega
        have key : ∀ (a b c : Bool), inB (s[k].toNat : Int) 97 122 = a → inB (s[k].toNat : Int) 48 57 = b → ((k : Int) == 0) = c → charE s k = if a || (!c && b) then 0 else 4 := by
          intro a b c ha hb' hc
          unfold charE
          rw [← hb.out]
          subst ha hb' hc
          simp only [inB]
          by_cases q : k = 0
          · simp [q]
          · have q' : (k : Int) ≠ 0 := by omega
            simp [q, q']
        have Key : Hid (∀ (a b c : Bool), inB (s[k].toNat : Int) 97 122 = a → inB (s[k].toNat : Int) 48 57 = b → ((k : Int) == 0) = c → charE s k = if a || (!c && b) then 0 else 4) := key
        clear key
        cases ha : inB (s[k].toNat : Int) 97 122 <;> cases hb' : inB (s[k].toNat : Int) 48 57 <;> cases hc : ((k : Int) == 0)
        all_goals
          have hce := Key.out _ _ _ ha hb' hc
          simp only [Bool.or_true, Bool.true_or, Bool.or_false, Bool.false_or, Bool.not_true, Bool.not_false, Bool.and_true, Bool.and_false, Bool.true_and, Bool.false_and, if_true, Bool.false_eq_true, if_false] at hce
          have HC : Hid (charE s k = _) := hce
          clear hce
          go_wp2_with (go_at_call 45; refine (in_any _ _ _ _).mono ?_; rintro e w' ⟨rfl, rfl⟩)
          first
            | (go_ret; exact ⟨ret_int (by have h := hr'.out; simp [nameE, firstN_at hz hlt (by rw [HC.out]; omega), HC.out]; omega), rfl⟩)
            | (go_round
               case rel => exact ⟨k + 1, by omega, by go_num, allZ_succ hz HC.out⟩
               case measure => simp [intOf]; omega)
      · go_wp2
        go_ret
        obtain rfl : k = s.size := by omega
        exact ⟨ret_int (by have h := hr'.out; simp [nameE, firstN_zero hz]; omega), rfl⟩

theorem size_toList (s : ByteArray) : s.toList = [] ↔ s.size = 0 := by
  rw [ByteArray.toList_eq]; cases s with | mk d => simp [ByteArray.size]

set_option maxHeartbeats 400000 in
theorem valCheck_any (k i : Int) (s : ByteArray) (w : World) (hs : s.size ≤ maxLen) :
    Calls Tryd.prog 77 #[.agg #[.int .i64 k, .int .i64 i, .string s]] w fun e w' => e = .returned (.int .i64 (valE ⟨k, i, s⟩)) ∧ Below w.heap.size w w' := by
  unfold maxLen at hs
  go_enter Tryd.func77, Tryd.ntmps77
  go_wp2
  all_goals (go_ret; refine ⟨ret_int ?_, (by repeat (first | exact Below.refl _ _ | (refine Below.alloc ?_ (by omega) _)))⟩; go_light; simp only [valE]; (try simp only [Bool.not_eq_true', Bool.not_eq_false', decide_eq_true_eq, decide_eq_false_iff_not, beq_iff_eq, beq_eq_false_iff_ne, bne_iff_ne, ne_eq, Bool.or_eq_true, Bool.and_eq_true, Bool.or_eq_false_iff, Bool.and_eq_false_imp, bne_eq_false_iff_eq, List.isEmpty_iff, List.isEmpty_eq_false_iff, size_toList] at *); (repeat' split) <;> first | omega | (simp_all; done))
set_option maxHeartbeats 400000 in
theorem valFault_any (k i : Int) (s : ByteArray) (w : World) (hs : s.size ≤ maxLen) :
    Calls Tryd.prog 80 #[.agg #[.int .i64 k, .int .i64 i, .string s]] w fun e w' => e = .returned (.int .i64 (valE ⟨k, i, s⟩)) ∧ Below w.heap.size w w' := by
  unfold maxLen at hs
  go_enter Tryd.func80, Tryd.ntmps80
  go_wp2_with (go_at_call 45; refine (in_any _ _ _ _).mono ?_; rintro e w' ⟨rfl, rfl⟩)
  all_goals (go_ret; refine ⟨ret_int ?_, (by repeat (first | exact Below.refl _ _ | (refine Below.alloc ?_ (by omega) _)))⟩; go_light; simp only [valE]; (try simp only [Bool.not_eq_true', Bool.not_eq_false', decide_eq_true_eq, decide_eq_false_iff_not, beq_iff_eq, beq_eq_false_iff_ne, bne_iff_ne, ne_eq, Bool.or_eq_true, Bool.and_eq_true, Bool.or_eq_false_iff, Bool.and_eq_false_imp, bne_eq_false_iff_eq, List.isEmpty_iff, List.isEmpty_eq_false_iff, size_toList, inB_true, inB_false] at *); (repeat' split) <;> omega)
end Go.Proofs.YtcebfkdhicbmkaaDoor
