/-
  The walks of lex and its reference, second part: the reference's blanks; numbers and texts.
-/
import Derived.Test.YtenchgdlkbdpdaaDoorLexW
namespace Go.Proofs.YtenchgdlkbdpdaaDoor
open Go.RowKit
set_option linter.unusedVariables false
set_option linter.unusedSimpArgs false

/-- The place behind what stands between tokens. -/
def blankAt (s : ByteArray) (k : Nat) : Nat := k + blk false (s.data.toList.drop k)
theorem blankAt_le (s : ByteArray) (k : Nat) (h : k ≤ s.size) : k ≤ blankAt s k ∧ blankAt s k ≤ s.size := by
  have := blk_le false (s.data.toList.drop k)
  simp at this
  unfold blankAt; omega
theorem blankAt_suf (s : ByteArray) (k : Nat) : k + blankN (s.extract k s.size) = blankAt s k := by
  unfold blankAt blankN; rw [Lib.extract_to_end]
set_option maxHeartbeats 2000000 in
theorem blanksFrom_any (s : ByteArray) (k0 : Nat) (w : World) (hs : s.size ≤ maxLen) (h0 : k0 ≤ s.size) : Calls Tryd.prog 29 #[.string s, .int .i64 k0] w fun e w' => e = .returned (.int .i64 (blankAt s k0)) ∧ w' = w := by
  unfold maxLen at hs
  go_enter Tryd.func29, Tryd.ntmps29
  go_wp2_with fail
  go_loop [1, 5] (fun i n => ∃ (k : Nat) (b : Bool), k ≤ s.size ∧ i = .int .i64 k ∧ n = .bool b ∧ Hid (blankAt s k0 = k + blk b (s.data.toList.drop k))) (fun i _ => s.size - (intOf i).toNat)
  case atStart => exact ⟨k0, false, h0, rfl, rfl, rfl⟩
  case round =>
    obtain ⟨k, b, hk, rfl, rfl, HB⟩ := hrel
    by_cases hlt : k < s.size
    · cases b with
      | false =>
        rcases blk_ways s k hlt with ⟨hc, h2, _⟩ | ⟨hc, h1⟩ | ⟨c1, c2, c3, c4, c5, h1⟩
        · have HB' : Hid (blankAt s k0 = (k + 1 : Nat) + blk true (s.data.toList.drop (k + 1))) := by
            show _ = _
            rw [HB.out, h2]; omega
          clear h2
          go_wp2
          go_round
          case rel => exact ⟨k + 1, true, by omega, by go_num, rfl, HB'⟩
          case measure => simp [intOf]; omega
        · have HB' : Hid (blankAt s k0 = (k + 1 : Nat) + blk false (s.data.toList.drop (k + 1))) := by
            show _ = _
            rw [HB.out, h1]; omega
          clear h1
          rcases hc with hc | hc | hc | hc
          all_goals
            go_wp2
            go_round
            case rel => exact ⟨k + 1, false, by omega, by go_num, rfl, HB'⟩
            case measure => simp [intOf]; omega
        · have HN : Hid (blankAt s k0 = k) := by show _ = _; rw [HB.out, h1]; omega
          have d1 : ((s[k].toNat : Int) == 35) = false := by simpa using c1
          have d2 : ((s[k].toNat : Int) != 32) = true := by simpa using c2
          have d3 : ((s[k].toNat : Int) != 9) = true := by simpa using c3
          have d4 : ((s[k].toNat : Int) != 10) = true := by simpa using c4
          have d5 : ((s[k].toNat : Int) != 13) = true := by simpa using c5
          clear c1 c2 c3 c4 c5 h1
          go_wp2
          go_ret
          exact ⟨ret_int (by rw [HN.out]), rfl⟩
      | true =>
        have e10 : s[k] = 10 ↔ (s[k].toNat : Int) = 10 := byte_eq (by decide)
        by_cases hc : (s[k].toNat : Int) = 10
        · have HB' : Hid (blankAt s k0 = (k + 1 : Nat) + blk false (s.data.toList.drop (k + 1))) := by
            show _ = _
            rw [HB.out, drop_byte s k hlt]
            simp only [blk]
            rw [e10.2 hc]
            have : ((10 : UInt8) != 10) = false := by decide
            rw [this]; omega
          clear e10
          go_wp2
          go_round
          case rel => exact ⟨k + 1, false, by omega, by go_num, rfl, HB'⟩
          case measure => simp [intOf]; omega
        · have HB' : Hid (blankAt s k0 = (k + 1 : Nat) + blk true (s.data.toList.drop (k + 1))) := by
            show _ = _
            rw [HB.out, drop_byte s k hlt]
            simp only [blk]
            have : (s[k] != 10) = true := by simpa using fun h => hc (e10.1 h)
            rw [this]; omega
          have d4 : ((s[k].toNat : Int) == 10) = false := by simpa using hc
          clear e10 hc
          go_wp2
          go_round
          case rel => exact ⟨k + 1, true, by omega, by go_num, rfl, HB'⟩
          case measure => simp [intOf]; omega
    · have HN : Hid (blankAt s k0 = k) := by
        show _ = _
        have : s.data.toList.drop k = [] := List.drop_of_length_le (by simp; omega)
        rw [HB.out, this]; cases b <;> rfl
      go_wp2
      go_ret
      exact ⟨ret_int (by rw [HN.out]), rfl⟩
end Go.Proofs.YtenchgdlkbdpdaaDoor
