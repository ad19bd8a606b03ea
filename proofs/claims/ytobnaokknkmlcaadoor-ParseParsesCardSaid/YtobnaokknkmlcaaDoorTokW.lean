/-
  The walks of tokens: may one be? And the law LexChecks.
-/
import Derived.Test.YtobnaokknkmlcaaDoorKeptW
import Derived.Test.YtobnaokknkmlcaaDoorNamW
import Derived.Test.YtobnaokknkmlcaaDoorShelf
import Derived.Lib.IndexAny
namespace Go.Proofs.YtobnaokknkmlcaaDoor
open Go.RowKit
set_option linter.unusedVariables false
set_option linter.unusedSimpArgs false

/-- Is a quote in a string? -/
def quoB (s : ByteArray) : Bool := decide (0 ≤ Lib.indexByte s.data.toList 34)
def quoE (s : ByteArray) (j : Nat) : Int := if byteAt s j = 34 then 1 else 0
theorem quo_same (s : ByteArray) : quoB s = decide (firstN (quoE s) s.size ≠ 0) := by
  unfold quoB
  rw [← Lib.contains_iff_indexByte, Bool.eq_iff_iff, decide_eq_true_iff, firstN_some, List.contains_iff_mem, List.mem_iff_getElem]
  constructor
  · rintro ⟨j, hj, h⟩
    have hj' : j < s.size := by simpa using hj
    refine ⟨j, hj', ?_⟩
    unfold quoE byteAt
    rw [List.getD_eq_getElem?_getD, List.getElem?_eq_getElem hj, h]
    simp
  · rintro ⟨j, hj, h⟩
    have hj' : j < s.data.toList.length := by simpa using hj
    refine ⟨j, hj', ?_⟩
    unfold quoE byteAt at h
    rw [List.getD_eq_getElem?_getD, List.getElem?_eq_getElem hj'] at h
    have h2 : ((s.data.toList[j]).toNat : Int) = 34 := by
      apply Classical.byContradiction
      intro hne
      simp only [Option.getD_some] at h
      rw [if_neg hne] at h
      exact h rfl
    have h3 : (s.data.toList[j]).toNat = 34 := by omega
    exact UInt8.toNat_inj.1 h3
/-- What a token is refused for. -/
def tokE (k : Int) (s : ByteArray) (i : Int) : Int :=
  if k = 1 then (if i = 0 then nameE s else 4)
  else if k = 2 then (if s.toList = [] then (if 0 ≤ i ∧ i ≤ 1125899906842624 then 0 else 2) else 4)
  else if k = 3 then (if i = 0 ∧ quoB s = false then (if s.size ≤ 20 then 0 else 1) else 4)
  else if k = 4 then (if i = 0 ∧ hasW marksL s = true then 0 else 4)
  else 3

set_option maxHeartbeats 2000000 in
theorem tokCheck_any (F : Nat → Prop) (k : Int) (s : ByteArray) (i : Int) (w : World) (hs : s.size ≤ maxLen) (hM : SlF F w 1 wordF (some ⟨0, 0, none⟩) 17 17 marksL) :
    Calls Tryd.prog 8 #[.agg #[.int .i64 k, .string s, .int .i64 i]] w fun e w' => e = .returned (.int .i64 (tokE k s i)) ∧ Below w.heap.size w w' := by
  have HN := Lib.hid (fun wx => name_any s wx hs)
  have HQ : Hid (∀ wx, Calls Tryd.prog 18 #[.string s, .int .u8 34] wx fun e w' => e = .returned (.int .i64 (Lib.indexByte s.data.toList 34)) ∧ w' = wx) := fun wx => Tryd.strings_IndexByte s 34 wx
  have HM : Hid (∀ wx, Below w.heap.size w wx → Calls Tryd.prog 19 #[.slice (some ⟨0, 0, none⟩) 17 17, .string s] wx fun e w' => e = .returned (.bool (hasW marksL s)) ∧ w' = wx) := fun wx hb =>
    (contains_any F _ _ _ marksL s wx (hM.below wordF_firm hb)).mono fun e w' h => ⟨h.1, h.2.symm⟩
  unfold maxLen at hs
  by_cases k1 : k = 1
  · subst k1
    by_cases hi : i = 0
    · subst hi
      go_enter Tryd.func8, Tryd.ntmps8
      go_wp2_with (go_at_call 17; refine (HN.out _).mono ?_; rintro e w' ⟨rfl, rfl⟩)
      go_ret
      exact ⟨ret_int (by simp [tokE]), (by repeat (first | exact Below.refl _ _ | assumption | refine below_step ?_ (by assumption) | refine below_step ?_ (Joins.below_draws _ _ _) | (refine Below.alloc ?_ (by first | omega | (simp; done) | (simp; omega)) _) | (refine Below.setCell ?_ (by first | omega | (simp; done) | (simp; omega)) _) | refine Below.drew ?_))⟩
    · have e0 : (i != 0) = true := by simpa using hi
      have I := Lib.hid hi
      clear hi
      go_enter Tryd.func8, Tryd.ntmps8
      go_wp2
      go_ret
      exact ⟨ret_int (by simp [tokE, I.out]), (by repeat (first | exact Below.refl _ _ | assumption | refine below_step ?_ (by assumption) | refine below_step ?_ (Joins.below_draws _ _ _) | (refine Below.alloc ?_ (by first | omega | (simp; done) | (simp; omega)) _) | (refine Below.setCell ?_ (by first | omega | (simp; done) | (simp; omega)) _) | refine Below.drew ?_))⟩
  by_cases k2 : k = 2
  · subst k2
    by_cases hz : s.toList = []
    · have hz' : (!s.toList.isEmpty) = false := by simp [hz]
      by_cases h1 : i < 0
      · have T : Hid (tokE 2 s i = 2) := by show _ = _; simp [tokE, hz]; omega
        go_enter Tryd.func8, Tryd.ntmps8
        go_wp2
        go_ret
        exact ⟨ret_int T.out.symm, (by repeat (first | exact Below.refl _ _ | assumption | refine below_step ?_ (by assumption) | refine below_step ?_ (Joins.below_draws _ _ _) | (refine Below.alloc ?_ (by first | omega | (simp; done) | (simp; omega)) _) | (refine Below.setCell ?_ (by first | omega | (simp; done) | (simp; omega)) _) | refine Below.drew ?_))⟩
      · by_cases h2 : 1125899906842624 < i
        · have T : Hid (tokE 2 s i = 2) := by show _ = _; simp [tokE, hz]; omega
          have h1' : 0 ≤ i := by omega
          clear h1
          go_enter Tryd.func8, Tryd.ntmps8
          go_wp2
          go_ret
          exact ⟨ret_int T.out.symm, (by repeat (first | exact Below.refl _ _ | assumption | refine below_step ?_ (by assumption) | refine below_step ?_ (Joins.below_draws _ _ _) | (refine Below.alloc ?_ (by first | omega | (simp; done) | (simp; omega)) _) | (refine Below.setCell ?_ (by first | omega | (simp; done) | (simp; omega)) _) | refine Below.drew ?_))⟩
        · have T : Hid (tokE 2 s i = 0) := by show _ = _; simp [tokE, hz]; omega
          have h1' : 0 ≤ i := by omega
          have h2' : i ≤ 1125899906842624 := by omega
          clear h1 h2
          go_enter Tryd.func8, Tryd.ntmps8
          go_wp2
          go_ret
          exact ⟨ret_int T.out.symm, (by repeat (first | exact Below.refl _ _ | assumption | refine below_step ?_ (by assumption) | refine below_step ?_ (Joins.below_draws _ _ _) | (refine Below.alloc ?_ (by first | omega | (simp; done) | (simp; omega)) _) | (refine Below.setCell ?_ (by first | omega | (simp; done) | (simp; omega)) _) | refine Below.drew ?_))⟩
    · have hz' : (!s.toList.isEmpty) = true := by simpa using hz
      have T : Hid (tokE 2 s i = 4) := by show _ = _; simp [tokE, hz]
      go_enter Tryd.func8, Tryd.ntmps8
      go_wp2
      go_ret
      exact ⟨ret_int T.out.symm, (by repeat (first | exact Below.refl _ _ | assumption | refine below_step ?_ (by assumption) | refine below_step ?_ (Joins.below_draws _ _ _) | (refine Below.alloc ?_ (by first | omega | (simp; done) | (simp; omega)) _) | (refine Below.setCell ?_ (by first | omega | (simp; done) | (simp; omega)) _) | refine Below.drew ?_))⟩
  by_cases k3 : k = 3
  · subst k3
    have hge := Lib.indexByte_ge s.data.toList 34
    by_cases hi : i = 0
    · subst hi
      by_cases hq : 0 ≤ Lib.indexByte s.data.toList 34
      · have T : Hid (tokE 3 s 0 = 4) := by show _ = _; simp [tokE, quoB, hq]
        go_enter Tryd.func8, Tryd.ntmps8
        go_wp2_with (go_at_call 18; refine (HQ.out _).mono ?_; rintro e w' ⟨rfl, rfl⟩)
        go_ret
        exact ⟨ret_int T.out.symm, (by repeat (first | exact Below.refl _ _ | assumption | refine below_step ?_ (by assumption) | refine below_step ?_ (Joins.below_draws _ _ _) | (refine Below.alloc ?_ (by first | omega | (simp; done) | (simp; omega)) _) | (refine Below.setCell ?_ (by first | omega | (simp; done) | (simp; omega)) _) | refine Below.drew ?_))⟩
      · have hq' : Lib.indexByte s.data.toList 34 < 0 := by omega
        by_cases h20 : s.size ≤ 20
        · have T : Hid (tokE 3 s 0 = 0) := by show _ = _; simp [tokE, quoB, hq, h20]
          have h20' : (s.size : Int) ≤ 20 := by omega
          clear hq
          go_enter Tryd.func8, Tryd.ntmps8
          go_wp2_with (go_at_call 18; refine (HQ.out _).mono ?_; rintro e w' ⟨rfl, rfl⟩)
          go_ret
          exact ⟨ret_int T.out.symm, (by repeat (first | exact Below.refl _ _ | assumption | refine below_step ?_ (by assumption) | refine below_step ?_ (Joins.below_draws _ _ _) | (refine Below.alloc ?_ (by first | omega | (simp; done) | (simp; omega)) _) | (refine Below.setCell ?_ (by first | omega | (simp; done) | (simp; omega)) _) | refine Below.drew ?_))⟩
        · have T : Hid (tokE 3 s 0 = 1) := by show _ = _; simp [tokE, quoB, hq, h20]
          have h20' : 20 < (s.size : Int) := by omega
          clear hq h20
          go_enter Tryd.func8, Tryd.ntmps8
          go_wp2_with (go_at_call 18; refine (HQ.out _).mono ?_; rintro e w' ⟨rfl, rfl⟩)
          go_ret
          exact ⟨ret_int T.out.symm, (by repeat (first | exact Below.refl _ _ | assumption | refine below_step ?_ (by assumption) | refine below_step ?_ (Joins.below_draws _ _ _) | (refine Below.alloc ?_ (by first | omega | (simp; done) | (simp; omega)) _) | (refine Below.setCell ?_ (by first | omega | (simp; done) | (simp; omega)) _) | refine Below.drew ?_))⟩
    · have e0 : (i != 0) = true := by simpa using hi
      have T : Hid (tokE 3 s i = 4) := by show _ = _; simp [tokE, hi]
      clear hi
      go_enter Tryd.func8, Tryd.ntmps8
      go_wp2
      go_ret
      exact ⟨ret_int T.out.symm, (by repeat (first | exact Below.refl _ _ | assumption | refine below_step ?_ (by assumption) | refine below_step ?_ (Joins.below_draws _ _ _) | (refine Below.alloc ?_ (by first | omega | (simp; done) | (simp; omega)) _) | (refine Below.setCell ?_ (by first | omega | (simp; done) | (simp; omega)) _) | refine Below.drew ?_))⟩
  by_cases k4 : k = 4
  · subst k4
    by_cases hi : i = 0
    · subst hi
      by_cases hq : hasW marksL s = true
      · have T : Hid (tokE 4 s 0 = 0) := by show _ = _; simp [tokE, hq]
        have HM1 : Hid (∀ wx, Below w.heap.size w wx → Calls Tryd.prog 19 #[.slice (some ⟨0, 0, none⟩) 17 17, .string s] wx fun e w' => e = .returned (.bool true) ∧ w' = wx) := by rw [← hq]; exact HM
        clear hq HM
        go_enter Tryd.func8, Tryd.ntmps8
        go_wp2_with fail
        go_quiet ((go_at_call 19; exact Calls.quiet_of_same (HM1.out _ (by repeat (first | exact Below.refl _ _ | assumption | refine below_step ?_ (by assumption) | refine below_step ?_ (Joins.below_draws _ _ _) | (refine Below.alloc ?_ (by first | omega | (simp; done) | (simp; omega)) _) | (refine Below.setCell ?_ (by first | omega | (simp; done) | (simp; omega)) _) | refine Below.drew ?_)))))
        go_wp2
        go_ret
        exact ⟨ret_int T.out.symm, (by repeat (first | exact Below.refl _ _ | assumption | refine below_step ?_ (by assumption) | refine below_step ?_ (Joins.below_draws _ _ _) | (refine Below.alloc ?_ (by first | omega | (simp; done) | (simp; omega)) _) | (refine Below.setCell ?_ (by first | omega | (simp; done) | (simp; omega)) _) | refine Below.drew ?_))⟩
      · have T : Hid (tokE 4 s 0 = 4) := by show _ = _; simp [tokE, hq]
        have hq' : hasW marksL s = false := by simpa using hq
        have HM1 : Hid (∀ wx, Below w.heap.size w wx → Calls Tryd.prog 19 #[.slice (some ⟨0, 0, none⟩) 17 17, .string s] wx fun e w' => e = .returned (.bool false) ∧ w' = wx) := by rw [← hq']; exact HM
        clear hq hq' HM
        go_enter Tryd.func8, Tryd.ntmps8
        go_wp2_with fail
        go_quiet ((go_at_call 19; exact Calls.quiet_of_same (HM1.out _ (by repeat (first | exact Below.refl _ _ | assumption | refine below_step ?_ (by assumption) | refine below_step ?_ (Joins.below_draws _ _ _) | (refine Below.alloc ?_ (by first | omega | (simp; done) | (simp; omega)) _) | (refine Below.setCell ?_ (by first | omega | (simp; done) | (simp; omega)) _) | refine Below.drew ?_)))))
        go_wp2
        go_ret
        exact ⟨ret_int T.out.symm, (by repeat (first | exact Below.refl _ _ | assumption | refine below_step ?_ (by assumption) | refine below_step ?_ (Joins.below_draws _ _ _) | (refine Below.alloc ?_ (by first | omega | (simp; done) | (simp; omega)) _) | (refine Below.setCell ?_ (by first | omega | (simp; done) | (simp; omega)) _) | refine Below.drew ?_))⟩
    · have e0 : (i != 0) = true := by simpa using hi
      have T : Hid (tokE 4 s i = 4) := by show _ = _; simp [tokE, hi]
      clear hi
      go_enter Tryd.func8, Tryd.ntmps8
      go_wp2_with fail
      go_quiet (fail)
      go_wp2
      go_ret
      exact ⟨ret_int T.out.symm, (by repeat (first | exact Below.refl _ _ | assumption | refine below_step ?_ (by assumption) | refine below_step ?_ (Joins.below_draws _ _ _) | (refine Below.alloc ?_ (by first | omega | (simp; done) | (simp; omega)) _) | (refine Below.setCell ?_ (by first | omega | (simp; done) | (simp; omega)) _) | refine Below.drew ?_))⟩
  have e1 : (k == 1) = false := by simpa using k1
  have e2 : (k == 2) = false := by simpa using k2
  have e3 : (k == 3) = false := by simpa using k3
  have e4 : (k == 4) = false := by simpa using k4
  have K : Hid (tokE k s i = 3) := by show _ = _; simp [tokE, k1, k2, k3, k4]
  clear k1 k2 k3 k4
  go_enter Tryd.func8, Tryd.ntmps8
  go_wp2
  go_ret
  exact ⟨ret_int K.out.symm, (by repeat (first | exact Below.refl _ _ | assumption | refine below_step ?_ (by assumption) | refine below_step ?_ (Joins.below_draws _ _ _) | (refine Below.alloc ?_ (by first | omega | (simp; done) | (simp; omega)) _) | (refine Below.setCell ?_ (by first | omega | (simp; done) | (simp; omega)) _) | refine Below.drew ?_))⟩
end Go.Proofs.YtobnaokknkmlcaaDoor
