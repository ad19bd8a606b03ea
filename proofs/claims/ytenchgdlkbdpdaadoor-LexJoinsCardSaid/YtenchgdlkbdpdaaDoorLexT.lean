/-
  The walks of lex and its reference, fifth part: a token that is a text or a mark; any token.
-/
import Derived.Test.YtenchgdlkbdpdaaDoorLexZ
import Derived.Test.YtenchgdlkbdpdaaDoorTokX
namespace Go.Proofs.YtenchgdlkbdpdaaDoor
open Go.RowKit
set_option linter.unusedVariables false
set_option linter.unusedSimpArgs false

def textV (s : ByteArray) : TokR := if Lib.indexByte (s.data.toList.drop 1) 34 < 0 then tokErr 5 else if 20 < Lib.indexByte (s.data.toList.drop 1) 34 then tokErr 1
  else ⟨0, 3, (s.extract 1 s.size).extract 0 (Lib.indexByte (s.data.toList.drop 1) 34).toNat, 0, (Lib.indexByte (s.data.toList.drop 1) 34).toNat + 2⟩
set_option maxHeartbeats 2000000 in
theorem token_text (s : ByteArray) (w : World) (hs : s.size ≤ maxLen) (h0 : 0 < s.size) (hl : isLet s[0] = false) (hd : isDig s[0] = false) (hq : (s[0].toNat : Int) = 34) : Calls Tryd.prog 28 #[.string s] w fun e w' => e = .returned (textV s).val ∧ Below w.heap.size w w' := by
  have HL0 : Hid (∀ wx, Calls Tryd.prog 47 #[.int .u8 (s[0].toNat : Int)] wx fun e w' => e = .returned (.bool false) ∧ w' = wx) := fun wx => by rw [← hl]; exact letter_any _ wx
  have HD0 : Hid (∀ wx, Calls Tryd.prog 48 #[.int .u8 (s[0].toNat : Int)] wx fun e w' => e = .returned (.bool false) ∧ w' = wx) := fun wx => by rw [← hd]; exact digit_any _ wx
  have hq' : ((s[0].toNat : Int) == 34) = true := by simp [hq]
  have hsz : (s.extract 1 s.size).size = s.size - 1 := by simp
  have HT := Lib.hid (fun wx => text_any (s.extract 1 s.size) wx (by rw [hsz]; omega))
  have hge := Lib.indexByte_ge (s.data.toList.drop 1) 34
  have h1 : (1 : Int) ≤ s.size := by omega
  unfold maxLen at hs
  clear hl hd hq
  by_cases hn : Lib.indexByte (s.data.toList.drop 1) 34 < 0
  · have HV : Hid (textV s = tokErr 5) := by show _ = _; unfold textV; rw [if_pos hn]
    have HP : Hid (∀ wx, Calls Tryd.prog 50 #[.string (s.extract 1 s.size)] wx fun e w' => e = .returned (.tuple #[.string ByteArray.empty, .int .i64 0, .bool false]) ∧ w' = wx) := fun wx => (HT.out wx).mono fun e w' ⟨hw, h⟩ => by
      rcases h with ⟨n, h2, _⟩ | ⟨_, h2⟩
      · rw [Lib.extract_to_end] at h2; omega
      · exact ⟨h2, hw⟩
    clear hn HT hge hsz
    go_enter Tryd.func28, Tryd.ntmps28
    go_wp2_with (first | (go_at_call 47; refine (HL0.out _).mono ?_; rintro e w' ⟨rfl, rfl⟩) | (go_at_call 48; refine (HD0.out _).mono ?_; rintro e w' ⟨rfl, rfl⟩) | (go_at_call 50; refine (HP.out _).mono ?_; rintro e w' ⟨rfl, rfl⟩))
    refine bodyPost_ret (v := (tokErr 5).val) (by simp [results, Tryd.results28, go_sem, tokErr, TokR.val]; try rfl) rfl ?_
    exact ⟨by rw [HV.out], (by repeat (first | exact Below.refl _ _ | assumption | refine below_step ?_ (by assumption) | refine below_step ?_ (Joins.below_draws _ _ _) | (refine Below.alloc ?_ (by first | omega | (simp; done) | (simp; omega)) _) | (refine Below.setCell ?_ (by first | omega | (simp; done) | (simp; omega)) _) | refine Below.drew ?_))⟩
  · obtain ⟨n, hnn⟩ : ∃ n : Nat, Lib.indexByte (s.data.toList.drop 1) 34 = n := ⟨(Lib.indexByte (s.data.toList.drop 1) 34).toNat, by omega⟩
    have hlt : n < s.size - 1 := by
      have := (List.getElem?_eq_some_iff.1 (Lib.indexByte_some hnn).1).1
      simp at this; omega
    have hsz2 : ((s.extract 1 s.size).extract 0 n).size = n := by simp; omega
    have HP : Hid (∀ wx, Calls Tryd.prog 50 #[.string (s.extract 1 s.size)] wx fun e w' => e = .returned (.tuple #[.string ((s.extract 1 s.size).extract 0 n), .int .i64 (n + 1 : Nat), .bool true]) ∧ w' = wx) := fun wx => (HT.out wx).mono fun e w' ⟨hw, h⟩ => by
      rcases h with ⟨m, h2, h3⟩ | ⟨h2, _⟩
      · rw [Lib.extract_to_end] at h2
        have : m = n := by omega
        subst this
        exact ⟨h3, hw⟩
      · rw [Lib.extract_to_end] at h2; omega
    by_cases h20 : 20 < n
    · have HV : Hid (textV s = tokErr 1) := by show _ = _; unfold textV; rw [if_neg hn, if_pos (by omega)]
      have h20' : (20 : Int) < n := by omega
      clear hn HT hge hnn hsz
      generalize (s.extract 1 s.size).extract 0 n = t at hsz2 HP
      go_enter Tryd.func28, Tryd.ntmps28
      go_wp2_with (first | (go_at_call 47; refine (HL0.out _).mono ?_; rintro e w' ⟨rfl, rfl⟩) | (go_at_call 48; refine (HD0.out _).mono ?_; rintro e w' ⟨rfl, rfl⟩) | (go_at_call 50; refine (HP.out _).mono ?_; rintro e w' ⟨rfl, rfl⟩))
      refine bodyPost_ret (v := (tokErr 1).val) (by simp [results, Tryd.results28, go_sem, tokErr, TokR.val]; try rfl) rfl ?_
      exact ⟨by rw [HV.out], (by repeat (first | exact Below.refl _ _ | assumption | refine below_step ?_ (by assumption) | refine below_step ?_ (Joins.below_draws _ _ _) | (refine Below.alloc ?_ (by first | omega | (simp; done) | (simp; omega)) _) | (refine Below.setCell ?_ (by first | omega | (simp; done) | (simp; omega)) _) | refine Below.drew ?_))⟩
    · have HV : Hid (textV s = ⟨0, 3, (s.extract 1 s.size).extract 0 n, 0, n + 2⟩) := by show _ = _; unfold textV; rw [if_neg hn, if_neg (by omega), hnn]; rfl
      have h20' : (n : Int) ≤ 20 := by omega
      clear hn HT hge hnn hsz h20
      generalize (s.extract 1 s.size).extract 0 n = t at hsz2 HP HV
      go_enter Tryd.func28, Tryd.ntmps28
      go_wp2_with (first | (go_at_call 47; refine (HL0.out _).mono ?_; rintro e w' ⟨rfl, rfl⟩) | (go_at_call 48; refine (HD0.out _).mono ?_; rintro e w' ⟨rfl, rfl⟩) | (go_at_call 50; refine (HP.out _).mono ?_; rintro e w' ⟨rfl, rfl⟩))
      refine bodyPost_ret (v := (⟨0, 3, t, 0, n + 2⟩ : TokR).val) (by simp [results, Tryd.results28, go_sem, TokR.val]; try rfl) rfl ?_
      exact ⟨by rw [HV.out], (by repeat (first | exact Below.refl _ _ | assumption | refine below_step ?_ (by assumption) | refine below_step ?_ (Joins.below_draws _ _ _) | (refine Below.alloc ?_ (by first | omega | (simp; done) | (simp; omega)) _) | (refine Below.setCell ?_ (by first | omega | (simp; done) | (simp; omega)) _) | refine Below.drew ?_))⟩

/-- The first mark at a list's beginning, from the k-th on. -/
def markFrom (l : List UInt8) (k : Nat) : Option ByteArray := (marksL.drop k).find? fun m => Lib.hasPrefix l m.data.toList
theorem markFrom_yes {l : List UInt8} {k : Nat} (h : k < marksL.length) (hp : Lib.hasPrefix l marksL[k].data.toList = true) : markFrom l k = some marksL[k] := by
  unfold markFrom; rw [List.drop_eq_getElem_cons h, List.find?_cons]; simp only [hp]
theorem markFrom_no {l : List UInt8} {k : Nat} (h : k < marksL.length) (hp : Lib.hasPrefix l marksL[k].data.toList = false) : markFrom l k = markFrom l (k + 1) := by
  unfold markFrom; rw [List.drop_eq_getElem_cons h, List.find?_cons]; simp only [hp]
theorem markFrom_end {l : List UInt8} {k : Nat} (h : marksL.length ≤ k) : markFrom l k = none := by
  unfold markFrom; rw [List.drop_of_length_le h]; rfl
def markV (s : ByteArray) : TokR := match markFrom s.data.toList 0 with
  | some m => ⟨0, 4, m, 0, m.size⟩
  | none => tokErr 4
theorem marks_index' (k : Nat) (h17 : k < 17) (wx : World) : (Instr.index 44 (.agg #[.string ⟨#[60, 61]⟩, .string ⟨#[62, 61]⟩, .string ⟨#[47, 61]⟩, .string ⟨#[123]⟩, .string ⟨#[125]⟩, .string ⟨#[91]⟩, .string ⟨#[93]⟩, .string ⟨#[40]⟩, .string ⟨#[41]⟩, .string ⟨#[58]⟩, .string ⟨#[59]⟩, .string ⟨#[44]⟩, .string ⟨#[46]⟩, .string ⟨#[61]⟩, .string ⟨#[60]⟩, .string ⟨#[62]⟩, .string ⟨#[45]⟩]) (.int .i64 (k : Int))).run Tryd.prog wx = .ok (.string (marksL.getD k ByteArray.empty)) wx := by
  have : k = 0 ∨ k = 1 ∨ k = 2 ∨ k = 3 ∨ k = 4 ∨ k = 5 ∨ k = 6 ∨ k = 7 ∨ k = 8 ∨ k = 9 ∨ k = 10 ∨ k = 11 ∨ k = 12 ∨ k = 13 ∨ k = 14 ∨ k = 15 ∨ k = 16 := by omega
  clear h17
  rcases this with rfl | rfl | rfl | rfl | rfl | rfl | rfl | rfl | rfl | rfl | rfl | rfl | rfl | rfl | rfl | rfl | rfl
  · exact (show (Instr.index 44 (.agg #[.string ⟨#[60, 61]⟩, .string ⟨#[62, 61]⟩, .string ⟨#[47, 61]⟩, .string ⟨#[123]⟩, .string ⟨#[125]⟩, .string ⟨#[91]⟩, .string ⟨#[93]⟩, .string ⟨#[40]⟩, .string ⟨#[41]⟩, .string ⟨#[58]⟩, .string ⟨#[59]⟩, .string ⟨#[44]⟩, .string ⟨#[46]⟩, .string ⟨#[61]⟩, .string ⟨#[60]⟩, .string ⟨#[62]⟩, .string ⟨#[45]⟩]) (.int .i64 ((0 : Nat) : Int))).run Tryd.prog wx = .ok (.string (marksL.getD 0 ByteArray.empty)) wx by kernel_rfl)
  · exact (show (Instr.index 44 (.agg #[.string ⟨#[60, 61]⟩, .string ⟨#[62, 61]⟩, .string ⟨#[47, 61]⟩, .string ⟨#[123]⟩, .string ⟨#[125]⟩, .string ⟨#[91]⟩, .string ⟨#[93]⟩, .string ⟨#[40]⟩, .string ⟨#[41]⟩, .string ⟨#[58]⟩, .string ⟨#[59]⟩, .string ⟨#[44]⟩, .string ⟨#[46]⟩, .string ⟨#[61]⟩, .string ⟨#[60]⟩, .string ⟨#[62]⟩, .string ⟨#[45]⟩]) (.int .i64 ((1 : Nat) : Int))).run Tryd.prog wx = .ok (.string (marksL.getD 1 ByteArray.empty)) wx by kernel_rfl)
  · exact (show (Instr.index 44 (.agg #[.string ⟨#[60, 61]⟩, .string ⟨#[62, 61]⟩, .string ⟨#[47, 61]⟩, .string ⟨#[123]⟩, .string ⟨#[125]⟩, .string ⟨#[91]⟩, .string ⟨#[93]⟩, .string ⟨#[40]⟩, .string ⟨#[41]⟩, .string ⟨#[58]⟩, .string ⟨#[59]⟩, .string ⟨#[44]⟩, .string ⟨#[46]⟩, .string ⟨#[61]⟩, .string ⟨#[60]⟩, .string ⟨#[62]⟩, .string ⟨#[45]⟩]) (.int .i64 ((2 : Nat) : Int))).run Tryd.prog wx = .ok (.string (marksL.getD 2 ByteArray.empty)) wx by kernel_rfl)
  · exact (show (Instr.index 44 (.agg #[.string ⟨#[60, 61]⟩, .string ⟨#[62, 61]⟩, .string ⟨#[47, 61]⟩, .string ⟨#[123]⟩, .string ⟨#[125]⟩, .string ⟨#[91]⟩, .string ⟨#[93]⟩, .string ⟨#[40]⟩, .string ⟨#[41]⟩, .string ⟨#[58]⟩, .string ⟨#[59]⟩, .string ⟨#[44]⟩, .string ⟨#[46]⟩, .string ⟨#[61]⟩, .string ⟨#[60]⟩, .string ⟨#[62]⟩, .string ⟨#[45]⟩]) (.int .i64 ((3 : Nat) : Int))).run Tryd.prog wx = .ok (.string (marksL.getD 3 ByteArray.empty)) wx by kernel_rfl)
  · exact (show (Instr.index 44 (.agg #[.string ⟨#[60, 61]⟩, .string ⟨#[62, 61]⟩, .string ⟨#[47, 61]⟩, .string ⟨#[123]⟩, .string ⟨#[125]⟩, .string ⟨#[91]⟩, .string ⟨#[93]⟩, .string ⟨#[40]⟩, .string ⟨#[41]⟩, .string ⟨#[58]⟩, .string ⟨#[59]⟩, .string ⟨#[44]⟩, .string ⟨#[46]⟩, .string ⟨#[61]⟩, .string ⟨#[60]⟩, .string ⟨#[62]⟩, .string ⟨#[45]⟩]) (.int .i64 ((4 : Nat) : Int))).run Tryd.prog wx = .ok (.string (marksL.getD 4 ByteArray.empty)) wx by kernel_rfl)
  · exact (show (Instr.index 44 (.agg #[.string ⟨#[60, 61]⟩, .string ⟨#[62, 61]⟩, .string ⟨#[47, 61]⟩, .string ⟨#[123]⟩, .string ⟨#[125]⟩, .string ⟨#[91]⟩, .string ⟨#[93]⟩, .string ⟨#[40]⟩, .string ⟨#[41]⟩, .string ⟨#[58]⟩, .string ⟨#[59]⟩, .string ⟨#[44]⟩, .string ⟨#[46]⟩, .string ⟨#[61]⟩, .string ⟨#[60]⟩, .string ⟨#[62]⟩, .string ⟨#[45]⟩]) (.int .i64 ((5 : Nat) : Int))).run Tryd.prog wx = .ok (.string (marksL.getD 5 ByteArray.empty)) wx by kernel_rfl)
  · exact (show (Instr.index 44 (.agg #[.string ⟨#[60, 61]⟩, .string ⟨#[62, 61]⟩, .string ⟨#[47, 61]⟩, .string ⟨#[123]⟩, .string ⟨#[125]⟩, .string ⟨#[91]⟩, .string ⟨#[93]⟩, .string ⟨#[40]⟩, .string ⟨#[41]⟩, .string ⟨#[58]⟩, .string ⟨#[59]⟩, .string ⟨#[44]⟩, .string ⟨#[46]⟩, .string ⟨#[61]⟩, .string ⟨#[60]⟩, .string ⟨#[62]⟩, .string ⟨#[45]⟩]) (.int .i64 ((6 : Nat) : Int))).run Tryd.prog wx = .ok (.string (marksL.getD 6 ByteArray.empty)) wx by kernel_rfl)
  · exact (show (Instr.index 44 (.agg #[.string ⟨#[60, 61]⟩, .string ⟨#[62, 61]⟩, .string ⟨#[47, 61]⟩, .string ⟨#[123]⟩, .string ⟨#[125]⟩, .string ⟨#[91]⟩, .string ⟨#[93]⟩, .string ⟨#[40]⟩, .string ⟨#[41]⟩, .string ⟨#[58]⟩, .string ⟨#[59]⟩, .string ⟨#[44]⟩, .string ⟨#[46]⟩, .string ⟨#[61]⟩, .string ⟨#[60]⟩, .string ⟨#[62]⟩, .string ⟨#[45]⟩]) (.int .i64 ((7 : Nat) : Int))).run Tryd.prog wx = .ok (.string (marksL.getD 7 ByteArray.empty)) wx by kernel_rfl)
  · exact (show (Instr.index 44 (.agg #[.string ⟨#[60, 61]⟩, .string ⟨#[62, 61]⟩, .string ⟨#[47, 61]⟩, .string ⟨#[123]⟩, .string ⟨#[125]⟩, .string ⟨#[91]⟩, .string ⟨#[93]⟩, .string ⟨#[40]⟩, .string ⟨#[41]⟩, .string ⟨#[58]⟩, .string ⟨#[59]⟩, .string ⟨#[44]⟩, .string ⟨#[46]⟩, .string ⟨#[61]⟩, .string ⟨#[60]⟩, .string ⟨#[62]⟩, .string ⟨#[45]⟩]) (.int .i64 ((8 : Nat) : Int))).run Tryd.prog wx = .ok (.string (marksL.getD 8 ByteArray.empty)) wx by kernel_rfl)
  · exact (show (Instr.index 44 (.agg #[.string ⟨#[60, 61]⟩, .string ⟨#[62, 61]⟩, .string ⟨#[47, 61]⟩, .string ⟨#[123]⟩, .string ⟨#[125]⟩, .string ⟨#[91]⟩, .string ⟨#[93]⟩, .string ⟨#[40]⟩, .string ⟨#[41]⟩, .string ⟨#[58]⟩, .string ⟨#[59]⟩, .string ⟨#[44]⟩, .string ⟨#[46]⟩, .string ⟨#[61]⟩, .string ⟨#[60]⟩, .string ⟨#[62]⟩, .string ⟨#[45]⟩]) (.int .i64 ((9 : Nat) : Int))).run Tryd.prog wx = .ok (.string (marksL.getD 9 ByteArray.empty)) wx by kernel_rfl)
  · exact (show (Instr.index 44 (.agg #[.string ⟨#[60, 61]⟩, .string ⟨#[62, 61]⟩, .string ⟨#[47, 61]⟩, .string ⟨#[123]⟩, .string ⟨#[125]⟩, .string ⟨#[91]⟩, .string ⟨#[93]⟩, .string ⟨#[40]⟩, .string ⟨#[41]⟩, .string ⟨#[58]⟩, .string ⟨#[59]⟩, .string ⟨#[44]⟩, .string ⟨#[46]⟩, .string ⟨#[61]⟩, .string ⟨#[60]⟩, .string ⟨#[62]⟩, .string ⟨#[45]⟩]) (.int .i64 ((10 : Nat) : Int))).run Tryd.prog wx = .ok (.string (marksL.getD 10 ByteArray.empty)) wx by kernel_rfl)
  · exact (show (Instr.index 44 (.agg #[.string ⟨#[60, 61]⟩, .string ⟨#[62, 61]⟩, .string ⟨#[47, 61]⟩, .string ⟨#[123]⟩, .string ⟨#[125]⟩, .string ⟨#[91]⟩, .string ⟨#[93]⟩, .string ⟨#[40]⟩, .string ⟨#[41]⟩, .string ⟨#[58]⟩, .string ⟨#[59]⟩, .string ⟨#[44]⟩, .string ⟨#[46]⟩, .string ⟨#[61]⟩, .string ⟨#[60]⟩, .string ⟨#[62]⟩, .string ⟨#[45]⟩]) (.int .i64 ((11 : Nat) : Int))).run Tryd.prog wx = .ok (.string (marksL.getD 11 ByteArray.empty)) wx by kernel_rfl)
  · exact (show (Instr.index 44 (.agg #[.string ⟨#[60, 61]⟩, .string ⟨#[62, 61]⟩, .string ⟨#[47, 61]⟩, .string ⟨#[123]⟩, .string ⟨#[125]⟩, .string ⟨#[91]⟩, .string ⟨#[93]⟩, .string ⟨#[40]⟩, .string ⟨#[41]⟩, .string ⟨#[58]⟩, .string ⟨#[59]⟩, .string ⟨#[44]⟩, .string ⟨#[46]⟩, .string ⟨#[61]⟩, .string ⟨#[60]⟩, .string ⟨#[62]⟩, .string ⟨#[45]⟩]) (.int .i64 ((12 : Nat) : Int))).run Tryd.prog wx = .ok (.string (marksL.getD 12 ByteArray.empty)) wx by kernel_rfl)
  · exact (show (Instr.index 44 (.agg #[.string ⟨#[60, 61]⟩, .string ⟨#[62, 61]⟩, .string ⟨#[47, 61]⟩, .string ⟨#[123]⟩, .string ⟨#[125]⟩, .string ⟨#[91]⟩, .string ⟨#[93]⟩, .string ⟨#[40]⟩, .string ⟨#[41]⟩, .string ⟨#[58]⟩, .string ⟨#[59]⟩, .string ⟨#[44]⟩, .string ⟨#[46]⟩, .string ⟨#[61]⟩, .string ⟨#[60]⟩, .string ⟨#[62]⟩, .string ⟨#[45]⟩]) (.int .i64 ((13 : Nat) : Int))).run Tryd.prog wx = .ok (.string (marksL.getD 13 ByteArray.empty)) wx by kernel_rfl)
  · exact (show (Instr.index 44 (.agg #[.string ⟨#[60, 61]⟩, .string ⟨#[62, 61]⟩, .string ⟨#[47, 61]⟩, .string ⟨#[123]⟩, .string ⟨#[125]⟩, .string ⟨#[91]⟩, .string ⟨#[93]⟩, .string ⟨#[40]⟩, .string ⟨#[41]⟩, .string ⟨#[58]⟩, .string ⟨#[59]⟩, .string ⟨#[44]⟩, .string ⟨#[46]⟩, .string ⟨#[61]⟩, .string ⟨#[60]⟩, .string ⟨#[62]⟩, .string ⟨#[45]⟩]) (.int .i64 ((14 : Nat) : Int))).run Tryd.prog wx = .ok (.string (marksL.getD 14 ByteArray.empty)) wx by kernel_rfl)
  · exact (show (Instr.index 44 (.agg #[.string ⟨#[60, 61]⟩, .string ⟨#[62, 61]⟩, .string ⟨#[47, 61]⟩, .string ⟨#[123]⟩, .string ⟨#[125]⟩, .string ⟨#[91]⟩, .string ⟨#[93]⟩, .string ⟨#[40]⟩, .string ⟨#[41]⟩, .string ⟨#[58]⟩, .string ⟨#[59]⟩, .string ⟨#[44]⟩, .string ⟨#[46]⟩, .string ⟨#[61]⟩, .string ⟨#[60]⟩, .string ⟨#[62]⟩, .string ⟨#[45]⟩]) (.int .i64 ((15 : Nat) : Int))).run Tryd.prog wx = .ok (.string (marksL.getD 15 ByteArray.empty)) wx by kernel_rfl)
  · exact (show (Instr.index 44 (.agg #[.string ⟨#[60, 61]⟩, .string ⟨#[62, 61]⟩, .string ⟨#[47, 61]⟩, .string ⟨#[123]⟩, .string ⟨#[125]⟩, .string ⟨#[91]⟩, .string ⟨#[93]⟩, .string ⟨#[40]⟩, .string ⟨#[41]⟩, .string ⟨#[58]⟩, .string ⟨#[59]⟩, .string ⟨#[44]⟩, .string ⟨#[46]⟩, .string ⟨#[61]⟩, .string ⟨#[60]⟩, .string ⟨#[62]⟩, .string ⟨#[45]⟩]) (.int .i64 ((16 : Nat) : Int))).run Tryd.prog wx = .ok (.string (marksL.getD 16 ByteArray.empty)) wx by kernel_rfl)
theorem marks_index (k : Nat) (h : k < marksL.length) (wx : World) : (Instr.index 44 (.agg #[.string ⟨#[60, 61]⟩, .string ⟨#[62, 61]⟩, .string ⟨#[47, 61]⟩, .string ⟨#[123]⟩, .string ⟨#[125]⟩, .string ⟨#[91]⟩, .string ⟨#[93]⟩, .string ⟨#[40]⟩, .string ⟨#[41]⟩, .string ⟨#[58]⟩, .string ⟨#[59]⟩, .string ⟨#[44]⟩, .string ⟨#[46]⟩, .string ⟨#[61]⟩, .string ⟨#[60]⟩, .string ⟨#[62]⟩, .string ⟨#[45]⟩]) (.int .i64 (k : Int))).run Tryd.prog wx = .ok (.string marksL[k]) wx := by
  rw [← word_getD marksL k h]; exact marks_index' k h wx
theorem marks_size' : ∀ k, k < 17 → (marksL.getD k ByteArray.empty).size ≤ 2 := by decide
theorem marks_size (k : Nat) (h : k < marksL.length) : marksL[k].size ≤ 2 := by
  rw [← word_getD marksL k h]; exact marks_size' k h
set_option maxHeartbeats 4000000 in
theorem token_mark (F : Nat → Prop) (s : ByteArray) (w : World) (hs : s.size ≤ maxLen) (h0 : 0 < s.size) (hl : isLet s[0] = false) (hd : isDig s[0] = false) (hq : ¬ (s[0].toNat : Int) = 34) (hM : SlF F w 1 wordF (some ⟨2, 0, none⟩) 17 17 marksL) : Calls Tryd.prog 28 #[.string s] w fun e w' => e = .returned (markV s).val ∧ Below w.heap.size w w' := by
  have HL0 : Hid (∀ wx, Calls Tryd.prog 47 #[.int .u8 (s[0].toNat : Int)] wx fun e w' => e = .returned (.bool false) ∧ w' = wx) := fun wx => by rw [← hl]; exact letter_any _ wx
  have HD0 : Hid (∀ wx, Calls Tryd.prog 48 #[.int .u8 (s[0].toNat : Int)] wx fun e w' => e = .returned (.bool false) ∧ w' = wx) := fun wx => by rw [← hd]; exact digit_any _ wx
  have hq' : ((s[0].toNat : Int) == 34) = false := by simpa using hq
  have hbl : 2 < w.heap.size := World.block_lt_of_cell? w ⟨2, 0, none⟩ (words_at hM (q := 0) (by decide))
  have m0 : w.cell? ⟨2, 0, none⟩ = some (.string ⟨#[60, 61]⟩) := words_at hM (q := 0) (by decide)
  have m1 : w.cell? ⟨2, 1, none⟩ = some (.string ⟨#[62, 61]⟩) := words_at hM (q := 1) (by decide)
  have m2 : w.cell? ⟨2, 2, none⟩ = some (.string ⟨#[47, 61]⟩) := words_at hM (q := 2) (by decide)
  have m3 : w.cell? ⟨2, 3, none⟩ = some (.string ⟨#[123]⟩) := words_at hM (q := 3) (by decide)
  have m4 : w.cell? ⟨2, 4, none⟩ = some (.string ⟨#[125]⟩) := words_at hM (q := 4) (by decide)
  have m5 : w.cell? ⟨2, 5, none⟩ = some (.string ⟨#[91]⟩) := words_at hM (q := 5) (by decide)
  have m6 : w.cell? ⟨2, 6, none⟩ = some (.string ⟨#[93]⟩) := words_at hM (q := 6) (by decide)
  have m7 : w.cell? ⟨2, 7, none⟩ = some (.string ⟨#[40]⟩) := words_at hM (q := 7) (by decide)
  have m8 : w.cell? ⟨2, 8, none⟩ = some (.string ⟨#[41]⟩) := words_at hM (q := 8) (by decide)
  have m9 : w.cell? ⟨2, 9, none⟩ = some (.string ⟨#[58]⟩) := words_at hM (q := 9) (by decide)
  have m10 : w.cell? ⟨2, 10, none⟩ = some (.string ⟨#[59]⟩) := words_at hM (q := 10) (by decide)
  have m11 : w.cell? ⟨2, 11, none⟩ = some (.string ⟨#[44]⟩) := words_at hM (q := 11) (by decide)
  have m12 : w.cell? ⟨2, 12, none⟩ = some (.string ⟨#[46]⟩) := words_at hM (q := 12) (by decide)
  have m13 : w.cell? ⟨2, 13, none⟩ = some (.string ⟨#[61]⟩) := words_at hM (q := 13) (by decide)
  have m14 : w.cell? ⟨2, 14, none⟩ = some (.string ⟨#[60]⟩) := words_at hM (q := 14) (by decide)
  have m15 : w.cell? ⟨2, 15, none⟩ = some (.string ⟨#[62]⟩) := words_at hM (q := 15) (by decide)
  have m16 : w.cell? ⟨2, 16, none⟩ = some (.string ⟨#[45]⟩) := words_at hM (q := 16) (by decide)
  unfold maxLen at hs
  clear hl hd hq
  go_enter Tryd.func28, Tryd.ntmps28
  go_wp2_with (first | (go_at_call 47; refine (HL0.out _).mono ?_; rintro e w' ⟨rfl, rfl⟩) | (go_at_call 48; refine (HD0.out _).mono ?_; rintro e w' ⟨rfl, rfl⟩))
  clear m0 m1 m2 m3 m4 m5 m6 m7 m8 m9 m10 m11 m12 m13 m14 m15 m16
  go_loop [106] (fun i => ∃ k : Nat, k ≤ 17 ∧ i = .int .i64 k ∧ Hid (markFrom s.data.toList 0 = markFrom s.data.toList k)) (fun i => 17 - (intOf i).toNat)
  case atStart => exact ⟨0, by omega, rfl, rfl⟩
  case round =>
    obtain ⟨k, hk, rfl, HM⟩ := hrel
    by_cases hlt : k < 17
    · have hkl : k < marksL.length := hlt
      have hk1 : (k : Int) < 17 := by omega
      have hidx := marks_index k hkl
      have hms := marks_size k hkl
      by_cases hp : Lib.hasPrefix s.data.toList marksL[k].data.toList = true
      · have HP : Hid (∀ wx, Calls Tryd.prog 51 #[.string s, .string marksL[k]] wx fun e w' => e = .returned (.bool true) ∧ w' = wx) := fun wx => by rw [← hp]; exact Tryd.strings_HasPrefix s marksL[k] wx
        have HV : Hid (markV s = ⟨0, 4, marksL[k], 0, marksL[k].size⟩) := by show _ = _; unfold markV; rw [HM.out, markFrom_yes hkl hp]
        clear hp
        generalize marksL[k] = m at hidx HP HV hms
        go_wp2_with (go_at_call 51; refine (HP.out _).mono ?_; rintro e w' ⟨rfl, rfl⟩)
        refine bodyPost_ret (v := (⟨0, 4, m, 0, m.size⟩ : TokR).val) (by simp [results, Tryd.results28, go_sem, TokR.val]; try rfl) rfl ?_
        exact ⟨by rw [HV.out], (by repeat (first | exact Below.refl _ _ | assumption | refine below_step ?_ (by assumption) | refine below_step ?_ (Joins.below_draws _ _ _) | (refine Below.alloc ?_ (by first | omega | (simp; done) | (simp; omega)) _) | (refine Below.setCell ?_ (by first | omega | (simp; done) | (simp; omega)) _) | refine Below.drew ?_))⟩
      · have hp' : Lib.hasPrefix s.data.toList marksL[k].data.toList = false := by simpa using hp
        have HP : Hid (∀ wx, Calls Tryd.prog 51 #[.string s, .string marksL[k]] wx fun e w' => e = .returned (.bool false) ∧ w' = wx) := fun wx => by rw [← hp']; exact Tryd.strings_HasPrefix s marksL[k] wx
        have HM' : Hid (markFrom s.data.toList 0 = markFrom s.data.toList (k + 1)) := by show _ = _; rw [HM.out, markFrom_no hkl hp']
        clear hp hp'
        generalize marksL[k] = m at hidx HP hms
        go_wp2_with (go_at_call 51; refine (HP.out _).mono ?_; rintro e w' ⟨rfl, rfl⟩)
        go_round
        case rel => exact ⟨k + 1, by omega, by go_num, HM'⟩
        case measure => simp [intOf]; omega
    · have HV : Hid (markV s = tokErr 4) := by show _ = _; unfold markV; rw [HM.out, markFrom_end (by show 17 ≤ k; omega)]
      have hk1 : (17 : Int) ≤ k := by omega
      go_wp2
      refine bodyPost_ret (v := (tokErr 4).val) (by simp [results, Tryd.results28, go_sem, tokErr, TokR.val]; try rfl) rfl ?_
      exact ⟨by rw [HV.out], (by repeat (first | exact Below.refl _ _ | assumption | refine below_step ?_ (by assumption) | refine below_step ?_ (Joins.below_draws _ _ _) | (refine Below.alloc ?_ (by first | omega | (simp; done) | (simp; omega)) _) | (refine Below.setCell ?_ (by first | omega | (simp; done) | (simp; omega)) _) | refine Below.drew ?_))⟩

/-- The token at a string's beginning. -/
def tokenV (s : ByteArray) : TokR := match s.data.toList with
  | [] => tokErr 4
  | c :: _ => if isLet c = true then wordV s else if isDig c = true then numV s else if (c.toNat : Int) = 34 then textV s else markV s
theorem tokenV_at (s : ByteArray) (h : 0 < s.size) : tokenV s = if isLet s[0] = true then wordV s else if isDig s[0] = true then numV s else if (s[0].toNat : Int) = 34 then textV s else markV s := by
  unfold tokenV
  have := drop_byte s 0 h
  rw [List.drop_zero] at this
  rw [this]
theorem token_any (F : Nat → Prop) (s : ByteArray) (w : World) (hs : s.size ≤ maxLen) (h0 : 0 < s.size) (hM : SlF F w 1 wordF (some ⟨2, 0, none⟩) 17 17 marksL) : Calls Tryd.prog 28 #[.string s] w fun e w' => e = .returned (tokenV s).val ∧ Below w.heap.size w w' := by
  rw [tokenV_at s h0]
  by_cases h1 : isLet s[0] = true
  · rw [if_pos h1]; exact token_word s w hs h0 h1
  · have h1' : isLet s[0] = false := by simpa using h1
    rw [if_neg h1]
    by_cases h2 : isDig s[0] = true
    · rw [if_pos h2]; exact token_num s w hs h0 h1' h2
    · have h2' : isDig s[0] = false := by simpa using h2
      rw [if_neg h2]
      by_cases h3 : (s[0].toNat : Int) = 34
      · rw [if_pos h3]; exact token_text s w hs h0 h1' h2' h3
      · rw [if_neg h3]; exact token_mark F s w hs h0 h1' h2' h3 hM
end Go.Proofs.YtenchgdlkbdpdaaDoor
