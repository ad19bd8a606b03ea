/-
  The walks of lex and its reference, eighth part: the reference's token from a place, whatever it is.
-/
import Derived.Test.YtenchgdlkbdpdaaDoorLexS
namespace Go.Proofs.YtenchgdlkbdpdaaDoor
open Go.RowKit
set_option linter.unusedVariables false
set_option linter.unusedSimpArgs false

theorem marks_some {l : List UInt8} {m : ByteArray} (h : markFrom l 0 = some m) : m ∈ marksL ∧ Lib.hasPrefix l m.data.toList = true := by
  unfold markFrom at h
  rw [List.drop_zero] at h
  exact ⟨List.mem_of_find?_eq_some h, by simpa using List.find?_some h⟩
theorem marks_nonempty : ∀ m ∈ marksL, m.data.toList ≠ [] := by decide
set_option maxHeartbeats 4000000 in
theorem from_mark (s : ByteArray) (p : Nat) (w : World) (hs : s.size ≤ 3000) (h0 : p < s.size) (hl0 : isLet s[p] = false) (hd0 : isDig s[p] = false) (hq : ¬ (s[p].toNat : Int) = 34) : Calls Tryd.prog 30 #[.string s, .int .i64 p] w fun e w' => e = .returned ((markV (suf s p)).from p) ∧ Below w.heap.size w w' := by
  have HB : Hid (∀ k (h : k < s.size), 0 ≤ (s[k].toNat : Int) ∧ (s[k].toNat : Int) < 256) := fun k h => by have := s[k].toNat_lt; omega
  have HL0 : Hid (∀ wx, Calls Tryd.prog 52 #[.int .u8 (s[p].toNat : Int)] wx fun e w' => e = .returned (.bool false) ∧ w' = wx) := fun wx => by rw [← hl0]; exact smallLetter_any _ (HB.out p h0).1 (HB.out p h0).2 wx
  have HD0 : Hid (∀ wx, Calls Tryd.prog 53 #[.int .u8 (s[p].toNat : Int)] wx fun e w' => e = .returned (.bool false) ∧ w' = wx) := fun wx => by rw [← hd0]; exact oneDigit_any _ (HB.out p h0).1 (HB.out p h0).2 wx
  have hq' : ((s[p].toNat : Int) == 34) = false := by simpa using hq
  have HM := Lib.hid (fun wx => markAt_any s p wx hs h0)
  clear hl0 hd0 hq
  cases hm : markFrom (s.data.toList.drop p) 0 with
  | some m =>
    obtain ⟨g1, g2⟩ := marks_some hm
    have hne : m.toList ≠ [] := by rw [ByteArray.toList_eq]; exact marks_nonempty m g1
    have hne' : m.toList.isEmpty = false := by simpa using hne
    have hms : m.size ≤ s.size - p := by
      rw [prefix_take] at g2
      have := congrArg List.length (beq_iff_eq.1 g2)
      simp at this; omega
    have HV : Hid (markV (suf s p) = ⟨0, 4, m, 0, m.size⟩) := by show _ = _; unfold markV; rw [suf_list, hm]
    have HMM : Hid (∀ wx, Calls Tryd.prog 54 #[.string s, .int .i64 p] wx fun e w' => e = .returned (.string m) ∧ Below wx.heap.size wx w') := fun wx => by
      have := HM.out wx
      unfold markS at this
      rw [hm] at this
      exact this
    clear hm g1 g2 HM
    go_enter Tryd.func30, Tryd.ntmps30
    go_wp2_with (first | (go_at_call 52; refine (HL0.out _).mono ?_; rintro e w' ⟨rfl, rfl⟩) | (go_at_call 53; refine (HD0.out _).mono ?_; rintro e w' ⟨rfl, rfl⟩) | (go_at_call 54; refine (HMM.out _).mono ?_; rintro e w1 ⟨rfl, hb1⟩; obtain ⟨hc_w1, hf_w1⟩ := bcell hb1; have hs_w1 := hb1.size; (try simp only [World.size_alloc, World.size_drew, World.size_setCell] at hs_w1); (try simp only [World.size_drew, World.cell?_drew, World.frozen?_drew] at hc_w1 hf_w1); have z0_w1 : w.heap.size < w1.heap.size := (by omega)))
    refine bodyPost_ret (v := (⟨0, 4, m, 0, m.size⟩ : TokR).from p) (by simp [results, Tryd.results30, go_sem, TokR.from, hc_w1, z0_w1, World.cell?_setCell_other]; try rfl) rfl ?_
    exact ⟨by rw [HV.out], (by repeat (first | exact Below.refl _ _ | assumption | refine below_step ?_ (by assumption) | refine below_step ?_ (Joins.below_draws _ _ _) | (refine Below.alloc ?_ (by first | omega | (simp; done) | (simp; omega)) _) | (refine Below.setCell ?_ (by first | omega | (simp; done) | (simp; omega)) _) | refine Below.drew ?_))⟩
  | none =>
    have HV : Hid (markV (suf s p) = tokErr 4) := by show _ = _; unfold markV; rw [suf_list, hm]
    have HMM : Hid (∀ wx, Calls Tryd.prog 54 #[.string s, .int .i64 p] wx fun e w' => e = .returned (.string ByteArray.empty) ∧ Below wx.heap.size wx w') := fun wx => by
      have := HM.out wx
      unfold markS at this
      rw [hm] at this
      exact this
    clear hm HM
    go_enter Tryd.func30, Tryd.ntmps30
    go_wp2_with (first | (go_at_call 52; refine (HL0.out _).mono ?_; rintro e w' ⟨rfl, rfl⟩) | (go_at_call 53; refine (HD0.out _).mono ?_; rintro e w' ⟨rfl, rfl⟩) | (go_at_call 54; refine (HMM.out _).mono ?_; rintro e w1 ⟨rfl, hb1⟩; obtain ⟨hc_w1, hf_w1⟩ := bcell hb1; have hs_w1 := hb1.size; (try simp only [World.size_alloc, World.size_drew, World.size_setCell] at hs_w1); (try simp only [World.size_drew, World.cell?_drew, World.frozen?_drew] at hc_w1 hf_w1); have z0_w1 : w.heap.size < w1.heap.size := (by omega)))
    refine bodyPost_ret (v := (tokErr 4).from p) (by simp [results, Tryd.results30, go_sem, tokErr, TokR.from, hc_w1, z0_w1, World.cell?_setCell_other]; try rfl) rfl ?_
    exact ⟨by rw [HV.out], (by repeat (first | exact Below.refl _ _ | assumption | refine below_step ?_ (by assumption) | refine below_step ?_ (Joins.below_draws _ _ _) | (refine Below.alloc ?_ (by first | omega | (simp; done) | (simp; omega)) _) | (refine Below.setCell ?_ (by first | omega | (simp; done) | (simp; omega)) _) | refine Below.drew ?_))⟩

theorem suf_at (s : ByteArray) (p : Nat) (h : p < s.size) (h' : 0 < (suf s p).size) : (suf s p)[0] = s[p] := by
  have h1 := drop_byte (suf s p) 0 h'
  rw [List.drop_zero, suf_list, drop_byte s p h] at h1
  injection h1 with h1
  exact h1.symm
theorem from_any (s : ByteArray) (p : Nat) (w : World) (hs' : s.size ≤ 3000) (h0 : p < s.size) : Calls Tryd.prog 30 #[.string s, .int .i64 p] w fun e w' => e = .returned ((tokenV (suf s p)).from p) ∧ Below w.heap.size w w' := by
  have hs : s.size ≤ maxLen := by unfold maxLen; omega
  have h' : 0 < (suf s p).size := by rw [suf_size]; omega
  rw [tokenV_at (suf s p) h', suf_at s p h0 h']
  by_cases h1 : isLet s[p] = true
  · rw [if_pos h1]; exact from_word s p w hs h0 h1
  · have h1' : isLet s[p] = false := by simpa using h1
    rw [if_neg h1]
    by_cases h2 : isDig s[p] = true
    · rw [if_pos h2]; exact from_num s p w hs h0 h1' h2
    · have h2' : isDig s[p] = false := by simpa using h2
      rw [if_neg h2]
      by_cases h3 : (s[p].toNat : Int) = 34
      · rw [if_pos h3]; exact from_text s p w hs h0 h1' h2' h3
      · rw [if_neg h3]; exact from_mark s p w hs' h0 h1' h2' h3
end Go.Proofs.YtenchgdlkbdpdaaDoor
