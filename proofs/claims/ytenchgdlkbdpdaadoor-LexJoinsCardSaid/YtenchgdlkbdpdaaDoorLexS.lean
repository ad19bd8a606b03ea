/-
  The walks of lex and its reference, seventh part: the reference's texts and marks; any token from a place.
-/
import Derived.Test.YtenchgdlkbdpdaaDoorLexR
namespace Go.Proofs.YtenchgdlkbdpdaaDoor
open Go.RowKit
set_option linter.unusedVariables false
set_option linter.unusedSimpArgs false

theorem indexByte_is {l : List UInt8} {c : UInt8} {n : Nat} (h : l[n]? = some c) (hk : ∀ k : Nat, k < n → l[k]? ≠ some c) : Lib.indexByte l c = n := by
  have hge := Lib.indexByte_ge l c
  by_cases h1 : Lib.indexByte l c = -1
  · exact absurd h (Lib.indexByte_none h1 n)
  · obtain ⟨m, hm⟩ : ∃ m : Nat, Lib.indexByte l c = m := ⟨(Lib.indexByte l c).toNat, by omega⟩
    obtain ⟨g1, g2⟩ := Lib.indexByte_some hm
    have : m = n := by
      rcases Nat.lt_trichotomy m n with hlt | he | hgt
      · exact absurd g1 (hk m hlt)
      · exact he
      · exact absurd h (g2 n hgt)
    rw [hm, this]
theorem indexByte_not {l : List UInt8} {c : UInt8} (hk : ∀ k : Nat, k < l.length → l[k]? ≠ some c) : Lib.indexByte l c = -1 := by
  have hge := Lib.indexByte_ge l c
  by_cases h1 : Lib.indexByte l c = -1
  · exact h1
  · obtain ⟨m, hm⟩ : ∃ m : Nat, Lib.indexByte l c = m := ⟨(Lib.indexByte l c).toNat, by omega⟩
    obtain ⟨g1, g2⟩ := Lib.indexByte_some hm
    exact absurd g1 (hk m (List.getElem?_eq_some_iff.1 g1).1)
theorem suf_suf (s : ByteArray) (p : Nat) (h : p < s.size) : (suf s p).extract 1 (suf s p).size = suf s (p + 1) := by
  rw [suf_cut s p 1 _ (by rw [suf_size]; omega), suf_size]
  have : p + (s.size - p) = s.size := by omega
  rw [this]; rfl

set_option maxHeartbeats 4000000 in
theorem from_text (s : ByteArray) (p : Nat) (w : World) (hs : s.size ≤ maxLen) (h0 : p < s.size) (hl0 : isLet s[p] = false) (hd0 : isDig s[p] = false) (hq : (s[p].toNat : Int) = 34) : Calls Tryd.prog 30 #[.string s, .int .i64 p] w fun e w' => e = .returned ((textV (suf s p)).from p) ∧ Below w.heap.size w w' := by
  have HB : Hid (∀ k (h : k < s.size), 0 ≤ (s[k].toNat : Int) ∧ (s[k].toNat : Int) < 256) := fun k h => by have := s[k].toNat_lt; omega
  have HL0 : Hid (∀ wx, Calls Tryd.prog 52 #[.int .u8 (s[p].toNat : Int)] wx fun e w' => e = .returned (.bool false) ∧ w' = wx) := fun wx => by rw [← hl0]; exact smallLetter_any _ (HB.out p h0).1 (HB.out p h0).2 wx
  have HD0 : Hid (∀ wx, Calls Tryd.prog 53 #[.int .u8 (s[p].toNat : Int)] wx fun e w' => e = .returned (.bool false) ∧ w' = wx) := fun wx => by rw [← hd0]; exact oneDigit_any _ (HB.out p h0).1 (HB.out p h0).2 wx
  have hq' : ((s[p].toNat : Int) == 34) = true := by simp [hq]
  have HL : Hid ((suf s p).data.toList.drop 1 = s.data.toList.drop (p + 1)) := by show _ = _; rw [suf_list, List.drop_drop]
  unfold maxLen at hs
  clear hl0 hd0 hq
  go_enter Tryd.func30, Tryd.ntmps30
  go_wp2_with (first | (go_at_call 52; refine (HL0.out _).mono ?_; rintro e w' ⟨rfl, rfl⟩) | (go_at_call 53; refine (HD0.out _).mono ?_; rintro e w' ⟨rfl, rfl⟩))
  go_loop [8] (fun i => ∃ k : Nat, p + 1 ≤ k ∧ k ≤ s.size ∧ i = .int .i64 k ∧ Hid (∀ j : Nat, j < k - (p + 1) → (s.data.toList.drop (p + 1))[j]? ≠ some 34)) (fun i => s.size - (intOf i).toNat)
  case atStart => exact ⟨p + 1, by omega, by omega, by go_num, fun j hj => by omega⟩
  case round =>
    obtain ⟨k, hk1, hk, rfl, HN⟩ := hrel
    by_cases hlt : k < s.size
    · have e34 : s[k] = 34 ↔ (s[k].toNat : Int) = 34 := byte_eq (by decide)
      have HK : Hid ((s.data.toList.drop (p + 1))[k - (p + 1)]? = some s[k]) := by
        show _ = _
        rw [List.getElem?_drop]
        have : p + 1 + (k - (p + 1)) = k := by omega
        rw [this, byte_at s k hlt]
      by_cases hc : (s[k].toNat : Int) = 34
      · have hc' : ((s[k].toNat : Int) != 34) = false := by simp [hc]
        have HI : Hid (Lib.indexByte ((suf s p).data.toList.drop 1) 34 = (k - (p + 1) : Nat)) := by
          show _ = _
          rw [HL.out]
          exact indexByte_is (by rw [HK.out, e34.2 hc]) HN.out
        have hks : ¬ (k : Int) = s.size := by omega
        have hks' : ((k : Int) == (s.size : Int)) = false := by simpa using hks
        clear hc e34 hks
        by_cases h20 : 20 < k - (p + 1)
        · have HV : Hid (textV (suf s p) = tokErr 1) := by show _ = _; unfold textV; rw [HI.out, if_neg (by omega), if_pos (by omega)]
          have h20' : (20 : Int) < (k : Int) - p - 1 := by omega
          go_wp2
          refine bodyPost_ret (v := (tokErr 1).from p) (by simp [results, Tryd.results30, go_sem, tokErr, TokR.from]; try rfl) rfl ?_
          exact ⟨by rw [HV.out], (by repeat (first | exact Below.refl _ _ | assumption | refine below_step ?_ (by assumption) | refine below_step ?_ (Joins.below_draws _ _ _) | (refine Below.alloc ?_ (by first | omega | (simp; done) | (simp; omega)) _) | (refine Below.setCell ?_ (by first | omega | (simp; done) | (simp; omega)) _) | refine Below.drew ?_))⟩
        · have HV : Hid (textV (suf s p) = ⟨0, 3, s.extract (p + 1) k, 0, k - p + 1⟩) := by
            show _ = _
            unfold textV
            rw [HI.out, if_neg (by omega), if_neg (by omega), suf_suf s p h0, suf_cut s (p + 1) 0 _ (by simp; omega)]
            have e1 : p + 1 + 0 = p + 1 := rfl
            have e2 : p + 1 + ((k - (p + 1) : Nat) : Int).toNat = k := by simp; omega
            have e3 : ((k - (p + 1) : Nat) : Int).toNat + 2 = k - p + 1 := by simp; omega
            rw [e1, e2, e3]
          have h20' : (k : Int) - p - 1 ≤ 20 := by omega
          have hkp : Hid (p + (k - p + 1) = k + 1) := by show _ = _; omega
          go_wp2
          refine bodyPost_ret (v := (⟨0, 3, s.extract (p + 1) k, 0, k - p + 1⟩ : TokR).from p) (by simp [results, Tryd.results30, go_sem, TokR.from, hkp.out]; try rfl) rfl ?_
          exact ⟨by rw [HV.out], (by repeat (first | exact Below.refl _ _ | assumption | refine below_step ?_ (by assumption) | refine below_step ?_ (Joins.below_draws _ _ _) | (refine Below.alloc ?_ (by first | omega | (simp; done) | (simp; omega)) _) | (refine Below.setCell ?_ (by first | omega | (simp; done) | (simp; omega)) _) | refine Below.drew ?_))⟩
      · have hc' : ((s[k].toNat : Int) != 34) = true := by simpa using hc
        have HN' : Hid (∀ j : Nat, j < k + 1 - (p + 1) → (s.data.toList.drop (p + 1))[j]? ≠ some 34) := fun j hj => by
          by_cases h : j < k - (p + 1)
          · exact HN.out j h
          · have : j = k - (p + 1) := by omega
            rw [this, HK.out]
            intro h; injection h with h; exact hc (e34.1 h)
        clear hc e34
        go_wp2
        go_round
        case rel => exact ⟨k + 1, by omega, by omega, by go_num, HN'⟩
        case measure => simp [intOf]; omega
    · have HI : Hid (Lib.indexByte ((suf s p).data.toList.drop 1) 34 = -1) := by
        show _ = _
        rw [HL.out]
        exact indexByte_not fun j hj => HN.out j (by simp at hj; omega)
      have HV : Hid (textV (suf s p) = tokErr 5) := by show _ = _; unfold textV; rw [HI.out, if_pos (by omega)]
      have hks' : ((k : Int) == (s.size : Int)) = true := by simp; omega
      go_wp2
      refine bodyPost_ret (v := (tokErr 5).from p) (by simp [results, Tryd.results30, go_sem, tokErr, TokR.from]; try rfl) rfl ?_
      exact ⟨by rw [HV.out], (by repeat (first | exact Below.refl _ _ | assumption | refine below_step ?_ (by assumption) | refine below_step ?_ (Joins.below_draws _ _ _) | (refine Below.alloc ?_ (by first | omega | (simp; done) | (simp; omega)) _) | (refine Below.setCell ?_ (by first | omega | (simp; done) | (simp; omega)) _) | refine Below.drew ?_))⟩

theorem prefix_take {l m : List UInt8} : Lib.hasPrefix l m = (l.take m.length == m) := by
  unfold Lib.hasPrefix
  rw [Bool.eq_iff_iff, List.isPrefixOf_iff_prefix, List.prefix_iff_eq_take, beq_iff_eq]
  exact ⟨fun h => h.symm, fun h => h.symm⟩
theorem ba_len (m : ByteArray) : m.data.toList.length = m.size := by simp
def markS (s : ByteArray) (p : Nat) : ByteArray := (markFrom (s.data.toList.drop p) 0).getD ByteArray.empty
set_option maxHeartbeats 4000000 in
theorem markAt_any (s : ByteArray) (p : Nat) (w : World) (hs : s.size ≤ 3000) (h0 : p < s.size) : Calls Tryd.prog 54 #[.string s, .int .i64 p] w fun e w' => e = .returned (.string (markS s p)) ∧ Below w.heap.size w w' := by
  go_enter Tryd.func54, Tryd.ntmps54
  go_wp2_with fail
  refine (markList_any _).mono ?_
  rintro e w1 ⟨rfl, hb1, hX⟩
  go_wp2_with fail
  go_loopw [6] (fun i wr => ∃ k : Nat, k ≤ 17 ∧ i = .int .i64 k ∧ Below w1.heap.size w1 wr ∧ Hid (markFrom (s.data.toList.drop p) 0 = markFrom (s.data.toList.drop p) k)) (fun i _ => 17 - (intOf i).toNat)
  case atStart => exact ⟨0, by omega, rfl, Below.refl _ _, rfl⟩
  case round =>
    obtain ⟨k, hk, rfl, hbr, HM⟩ := hrel
    by_cases hlt : k < 17
    · have hkl : k < marksL.length := hlt
      have hk1 : (k : Int) < 17 := by omega
      have hms := marks_size k hkl
      have d0 : wr.cell? ⟨w.heap.size, k, none⟩ = some (.string marksL[k]) := by simpa using words_at (hX.below wordF_firm hbr) hkl
      have MY := Lib.hid (markFrom_yes (l := s.data.toList.drop p) hkl)
      have MN := Lib.hid (markFrom_no (l := s.data.toList.drop p) hkl)
      generalize marksL[k] = m at hms d0 MY MN
      by_cases hfit : p + m.size ≤ s.size
      · have hfit' : (p : Int) + m.size ≤ s.size := by omega
        have hpre : Lib.hasPrefix (s.data.toList.drop p) m.data.toList = ((s.extract p (p + m.size)).toList == m.toList) := by
          rw [prefix_take, ba_len, ByteArray.toList_eq, ByteArray.toList_eq, Lib.extract_data]
          have : p + m.size - p = m.size := by omega
          rw [this]
        by_cases hp : ((s.extract p (p + m.size)).toList == m.toList) = true
        · have HV : Hid (markS s p = m) := by show _ = _; unfold markS; rw [HM.out, MY.out (by rw [hpre]; exact hp)]; rfl
          clear hpre
          go_wp2_with fail
          go_quiet (fail)
          have d0' : (wr.drewN nq).cell? ⟨w.heap.size, k, none⟩ = some (.string m) := by simpa using d0
          go_wp2
          go_ret
          exact ⟨by rw [HV.out]; rfl, (by repeat (first | exact Below.refl _ _ | assumption | refine below_step ?_ (by assumption) | refine below_step ?_ (Joins.below_draws _ _ _) | (refine Below.alloc ?_ (by first | omega | (simp; done) | (simp; omega)) _) | (refine Below.setCell ?_ (by first | omega | (simp; done) | (simp; omega)) _) | refine Below.drew ?_))⟩
        · have hp' : ((s.extract p (p + m.size)).toList == m.toList) = false := by simpa using hp
          have HM' : Hid (markFrom (s.data.toList.drop p) 0 = markFrom (s.data.toList.drop p) (k + 1)) := by show _ = _; rw [HM.out, MN.out (by rw [hpre]; exact hp')]
          clear hpre hp
          go_wp2_with fail
          go_quiet (fail)
          go_wp2
          go_roundw
          case rel => exact ⟨k + 1, by omega, by go_num, (by repeat (first | exact Below.refl _ _ | assumption | refine below_step ?_ (by assumption) | refine below_step ?_ (Joins.below_draws _ _ _) | (refine Below.alloc ?_ (by first | omega | (simp; done) | (simp; omega)) _) | (refine Below.setCell ?_ (by first | omega | (simp; done) | (simp; omega)) _) | refine Below.drew ?_)), HM'⟩
          case measure => simp [intOf]; omega
      · have hfit' : decide ((p : Int) + m.size ≤ s.size) = false := by simp; omega
        have hpre : Lib.hasPrefix (s.data.toList.drop p) m.data.toList = false := by
          rw [prefix_take]
          apply beq_false_of_ne
          intro h
          have := congrArg List.length h
          simp at this
          omega
        have HM' : Hid (markFrom (s.data.toList.drop p) 0 = markFrom (s.data.toList.drop p) (k + 1)) := by show _ = _; rw [HM.out, MN.out hpre]
        clear hpre
        go_wp2_with fail
        go_quiet (fail)
        go_wp2
        go_roundw
        case rel => exact ⟨k + 1, by omega, by go_num, (by repeat (first | exact Below.refl _ _ | assumption | refine below_step ?_ (by assumption) | refine below_step ?_ (Joins.below_draws _ _ _) | (refine Below.alloc ?_ (by first | omega | (simp; done) | (simp; omega)) _) | (refine Below.setCell ?_ (by first | omega | (simp; done) | (simp; omega)) _) | refine Below.drew ?_)), HM'⟩
        case measure => simp [intOf]; omega
    · have HV : Hid (markS s p = ByteArray.empty) := by show _ = _; unfold markS; rw [HM.out, markFrom_end (by show 17 ≤ k; omega)]; rfl
      have hk1 : (17 : Int) ≤ k := by omega
      go_wp2
      go_ret
      exact ⟨by rw [HV.out]; rfl, (by repeat (first | exact Below.refl _ _ | assumption | refine below_step ?_ (by assumption) | refine below_step ?_ (Joins.below_draws _ _ _) | (refine Below.alloc ?_ (by first | omega | (simp; done) | (simp; omega)) _) | (refine Below.setCell ?_ (by first | omega | (simp; done) | (simp; omega)) _) | refine Below.drew ?_))⟩
end Go.Proofs.YtenchgdlkbdpdaaDoor
