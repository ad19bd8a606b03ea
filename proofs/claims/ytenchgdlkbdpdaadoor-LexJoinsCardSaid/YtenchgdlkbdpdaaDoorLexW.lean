/-
  The walks of lex and its reference, first part: kinds of bytes; what stands between tokens.
-/
import Derived.Test.YtenchgdlkbdpdaaDoorTokW
import Derived.Lib.IndexLaws
import Derived.Lib.IndexBytes
namespace Go.Proofs.YtenchgdlkbdpdaaDoor
open Go.RowKit
set_option linter.unusedVariables false
set_option linter.unusedSimpArgs false

theorem letter_any (c : Int) (w : World) : Calls Tryd.prog 47 #[.int .u8 c] w fun e w' => e = .returned (.bool (inB c 97 122)) ∧ w' = w := by
  go_enter Tryd.func47, Tryd.ntmps47
  go_wp2
  all_goals (go_ret; refine ⟨?_, rfl⟩; exact ret_bool (by go_light; unfold inB; first | (simp; done) | (rw [Bool.eq_iff_iff]; simp []; done) | (rw [Bool.eq_iff_iff]; simp []; omega)))
theorem digit_any (c : Int) (w : World) : Calls Tryd.prog 48 #[.int .u8 c] w fun e w' => e = .returned (.bool (inB c 48 57)) ∧ w' = w := by
  go_enter Tryd.func48, Tryd.ntmps48
  go_wp2
  all_goals (go_ret; refine ⟨?_, rfl⟩; exact ret_bool (by go_light; unfold inB; first | (simp; done) | (rw [Bool.eq_iff_iff]; simp []; done) | (rw [Bool.eq_iff_iff]; simp []; omega)))
theorem smallLetter_any (c : Int) (h0 : 0 ≤ c) (h : c < 256) (w : World) : Calls Tryd.prog 52 #[.int .u8 c] w fun e w' => e = .returned (.bool (inB c 97 122)) ∧ w' = w := by
  go_enter Tryd.func52, Tryd.ntmps52
  go_wp2_with (go_at_call 24; refine (in_any _ _ _ _).mono ?_; rintro e w' ⟨rfl, rfl⟩)
  go_ret
  exact ⟨rfl, rfl⟩
theorem oneDigit_any (c : Int) (h0 : 0 ≤ c) (h : c < 256) (w : World) : Calls Tryd.prog 53 #[.int .u8 c] w fun e w' => e = .returned (.bool (inB c 48 57)) ∧ w' = w := by
  go_enter Tryd.func53, Tryd.ntmps53
  go_wp2_with (go_at_call 24; refine (in_any _ _ _ _).mono ?_; rintro e w' ⟨rfl, rfl⟩)
  go_ret
  exact ⟨rfl, rfl⟩

/-- How many bytes stand between tokens at a list's beginning; within a note or not. -/
def blk : Bool → List UInt8 → Nat
  | _, [] => 0
  | true, c :: l => 1 + blk (c != 10) l
  | false, c :: l => if c = 35 then 1 + blk true l else if c = 32 ∨ c = 9 ∨ c = 10 ∨ c = 13 then 1 + blk false l else 0
theorem blk_le : ∀ (b : Bool) (l : List UInt8), blk b l ≤ l.length
  | true, [] => Nat.le_refl _
  | false, [] => Nat.le_refl _
  | true, c :: l => by have := blk_le (c != 10) l; simp only [blk, List.length_cons]; omega
  | false, c :: l => by
    have h1 := blk_le true l
    have h2 := blk_le false l
    simp only [blk, List.length_cons]
    split
    · omega
    · split <;> omega
theorem blk_none : ∀ {l : List UInt8}, (∀ k : Nat, l[k]? ≠ some 10) → blk true l = l.length
  | [], _ => rfl
  | c :: l, h => by
    have hc : (c != 10) = true := by
      have := h 0
      simpa using this
    simp only [blk, hc, List.length_cons]
    rw [blk_none (l := l) fun k hk => h (k + 1) (by simpa using hk)]
    omega
theorem blk_some : ∀ {l : List UInt8} {n : Nat}, l[n]? = some 10 → (∀ k : Nat, k < n → l[k]? ≠ some 10) → blk true l = n + blk false (l.drop n)
  | [], _, h, _ => by simp at h
  | c :: l, 0, h, _ => by
    have hc : c = 10 := by simpa using h
    subst hc
    simp [blk]
  | c :: l, n + 1, h, hk => by
    have hc : (c != 10) = true := by
      have := hk 0 (by omega)
      simpa using this
    simp only [blk, hc, List.drop_succ_cons]
    rw [blk_some (l := l) (n := n) (by simpa using h) (fun k hk' => by simpa using hk (k + 1) (by omega))]
    omega
theorem drop_byte (s : ByteArray) (k : Nat) (h : k < s.size) : s.data.toList.drop k = s[k] :: s.data.toList.drop (k + 1) := by
  have h' : k < s.data.toList.length := by simpa using h
  rw [List.drop_eq_getElem_cons h']
  rfl
theorem byte_eq {b : UInt8} {n : Nat} (hn : n < 256) : b = UInt8.ofNat n ↔ (b.toNat : Int) = n := by
  constructor
  · rintro rfl
    simp [UInt8.toNat_ofNat', Nat.mod_eq_of_lt hn]
  · intro h
    apply UInt8.toNat_inj.1
    simp [UInt8.toNat_ofNat', Nat.mod_eq_of_lt hn]
    omega
/-- How the bytes between tokens part. -/
theorem blk_ways (s : ByteArray) (k : Nat) (h : k < s.size) :
    ((s[k].toNat : Int) = 35 ∧ blk false (s.data.toList.drop k) = 1 + blk true (s.data.toList.drop (k + 1)) ∧ blk false (s.data.toList.drop k) = blk true (s.data.toList.drop k)) ∨
    (((s[k].toNat : Int) = 32 ∨ (s[k].toNat : Int) = 9 ∨ (s[k].toNat : Int) = 10 ∨ (s[k].toNat : Int) = 13) ∧ blk false (s.data.toList.drop k) = 1 + blk false (s.data.toList.drop (k + 1))) ∨
    ((s[k].toNat : Int) ≠ 35 ∧ (s[k].toNat : Int) ≠ 32 ∧ (s[k].toNat : Int) ≠ 9 ∧ (s[k].toNat : Int) ≠ 10 ∧ (s[k].toNat : Int) ≠ 13 ∧ blk false (s.data.toList.drop k) = 0) := by
  have e35 : s[k] = 35 ↔ (s[k].toNat : Int) = 35 := byte_eq (by decide)
  have e32 : s[k] = 32 ↔ (s[k].toNat : Int) = 32 := byte_eq (by decide)
  have e9 : s[k] = 9 ↔ (s[k].toNat : Int) = 9 := byte_eq (by decide)
  have e10 : s[k] = 10 ↔ (s[k].toNat : Int) = 10 := byte_eq (by decide)
  have e13 : s[k] = 13 ↔ (s[k].toNat : Int) = 13 := byte_eq (by decide)
  rw [drop_byte s k h]
  by_cases h35 : s[k] = 35
  · refine Or.inl ⟨e35.1 h35, ?_, ?_⟩
    · simp only [blk]; rw [if_pos h35]
    · simp only [blk]; rw [if_pos h35]
      have : (s[k] != 10) = true := by rw [h35]; rfl
      rw [this]
  · by_cases hb : s[k] = 32 ∨ s[k] = 9 ∨ s[k] = 10 ∨ s[k] = 13
    · refine Or.inr (Or.inl ⟨?_, ?_⟩)
      · rcases hb with hb | hb | hb | hb
        · exact Or.inl (e32.1 hb)
        · exact Or.inr (Or.inl (e9.1 hb))
        · exact Or.inr (Or.inr (Or.inl (e10.1 hb)))
        · exact Or.inr (Or.inr (Or.inr (e13.1 hb)))
      · simp only [blk]; rw [if_neg h35, if_pos hb]
    · refine Or.inr (Or.inr ⟨fun h => h35 (e35.2 h), fun h => hb (Or.inl (e32.2 h)), fun h => hb (Or.inr (Or.inl (e9.2 h))), fun h => hb (Or.inr (Or.inr (Or.inl (e10.2 h)))), fun h => hb (Or.inr (Or.inr (Or.inr (e13.2 h)))), ?_⟩)
      simp only [blk]; rw [if_neg h35, if_neg hb]

def blankN (s : ByteArray) : Nat := blk false s.data.toList
theorem blankN_le (s : ByteArray) : blankN s ≤ s.size := by
  have := blk_le false s.data.toList
  simpa [blankN] using this
set_option maxHeartbeats 2000000 in
theorem blank_any (s : ByteArray) (w : World) (hs : s.size ≤ maxLen) : Calls Tryd.prog 27 #[.string s] w fun e w' => e = .returned (.int .i64 (blankN s)) ∧ w' = w := by
  unfold maxLen at hs
  go_enter Tryd.func27, Tryd.ntmps27
  go_wp2_with fail
  go_loop [3] (fun i => ∃ k : Nat, k ≤ s.size ∧ i = .int .i64 k ∧ Hid (blankN s = k + blk false (s.data.toList.drop k))) (fun i => s.size - (intOf i).toNat)
  case atStart => exact ⟨0, by omega, rfl, (by show _ = _; simp [blankN])⟩
  case round =>
    obtain ⟨k, hk, rfl, HB⟩ := hrel
    by_cases hlt : k < s.size
    · rcases blk_ways s k hlt with ⟨hc, _, h2⟩ | ⟨hc, h1⟩ | ⟨c1, c2, c3, c4, c5, h1⟩
      · have H2 := Lib.hid h2
        clear h2
        have HI : Hid (∀ wx, Calls Tryd.prog 23 #[.string (s.extract k s.size), .int .u8 10] wx fun e w' => e = .returned (.int .i64 (Lib.indexByte (s.data.toList.drop k) 10)) ∧ w' = wx) := fun wx => by
          rw [← Lib.extract_to_end]; exact Tryd.strings_IndexByte (s.extract k s.size) 10 wx
        have hge := Lib.indexByte_ge (s.data.toList.drop k) 10
        by_cases hn : Lib.indexByte (s.data.toList.drop k) 10 < 0
        · have HN : Hid (blankN s = s.size) := by
            show _ = _
            rw [HB.out, H2.out, blk_none (Lib.indexByte_none (by omega))]
            simp; omega
          go_wp2_with (go_at_call 23; refine (HI.out _).mono ?_; rintro e w' ⟨rfl, rfl⟩)
          go_ret
          exact ⟨ret_int (by rw [HN.out]), rfl⟩
        · obtain ⟨n, hnn⟩ : ∃ n : Nat, Lib.indexByte (s.data.toList.drop k) 10 = n := ⟨(Lib.indexByte (s.data.toList.drop k) 10).toNat, by omega⟩
          obtain ⟨g1, g2⟩ := Lib.indexByte_some hnn
          have hnlt : k + n < s.size := by
            have := (List.getElem?_eq_some_iff.1 g1).1
            simp at this; omega
          have hn0 : n ≠ 0 := by
            rintro rfl
            rw [drop_byte s k hlt] at g1
            simp at g1
            rw [g1] at hc
            exact absurd hc (by decide)
          have HB' : Hid (blankN s = (k + n : Nat) + blk false (s.data.toList.drop (k + n))) := by
            show _ = _
            rw [HB.out, H2.out, blk_some g1 g2, List.drop_drop]
            omega
          rw [hnn] at HI
          clear hn hge hnn g1 g2
          go_wp2_with (go_at_call 23; refine (HI.out _).mono ?_; rintro e w' ⟨rfl, rfl⟩)
          go_round
          case rel => exact ⟨k + n, by omega, by go_num, HB'⟩
          case measure => simp [intOf]; omega
      · have HB' : Hid (blankN s = (k + 1 : Nat) + blk false (s.data.toList.drop (k + 1))) := by
          show _ = _
          rw [HB.out, h1]; omega
        clear h1
        rcases hc with hc | hc | hc | hc
        all_goals
          go_wp2
          go_round
          case rel => exact ⟨k + 1, by omega, by go_num, HB'⟩
          case measure => simp [intOf]; omega
      · have HN : Hid (blankN s = k) := by show _ = _; rw [HB.out, h1]; omega
        have d1 : ((s[k].toNat : Int) == 35) = false := by simpa using c1
        have d2 : ((s[k].toNat : Int) == 32) = false := by simpa using c2
        have d3 : ((s[k].toNat : Int) == 9) = false := by simpa using c3
        have d4 : ((s[k].toNat : Int) == 10) = false := by simpa using c4
        have d5 : ((s[k].toNat : Int) == 13) = false := by simpa using c5
        clear c1 c2 c3 c4 c5 h1
        go_wp2
        go_ret
        exact ⟨ret_int (by rw [HN.out]), rfl⟩
    · have HN : Hid (blankN s = k) := by
        show _ = _
        have : s.data.toList.drop k = [] := List.drop_of_length_le (by simp; omega)
        rw [HB.out, this]; rfl
      go_wp2
      go_ret
      exact ⟨ret_int (by rw [HN.out]), rfl⟩
end Go.Proofs.YtenchgdlkbdpdaaDoor
