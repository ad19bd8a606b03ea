/-
  The walks of tokens joined, third part: the reference's join; the law LexJoins.
-/
import Derived.Test.YtenchgdlkbdpdaaDoorJoiX
namespace Go.Proofs.YtenchgdlkbdpdaaDoor
open Go.RowKit
set_option linter.unusedVariables false
set_option linter.unusedSimpArgs false

theorem SlF.imp {α : Type} {F : Nat → Prop} {w : World} {k : Nat} {R R' : (Nat → Prop) → World → List Value → α → Prop} {ao : Option Addr} {n cap : Nat} {xs : List α} (h : SlF F w k R ao n cap xs) (hR : ∀ row x, R F w row x → R' F w row x) : SlF F w k R' ao n cap xs := by
  obtain ⟨h1, h2, h3, h5, h4⟩ := h
  refine ⟨h1, h2, h3, h5, fun i hi => ?_⟩
  obtain ⟨b, off, row, e, hF, hlt, hr, hx⟩ := h4 i hi
  exact ⟨b, off, row, e, hF, hlt, hr, hR _ _ hx⟩
theorem str_piece (acc s : ByteArray) : ((acc ++ s) ++ (⟨#[32]⟩ : ByteArray)).data.toList = acc.data.toList ++ (s.data.toList ++ [32]) := by
  simp [ByteArray.data_append]
theorem str_quoted (acc s : ByteArray) : (((acc ++ (⟨#[34]⟩ : ByteArray)) ++ s) ++ (⟨#[34, 32]⟩ : ByteArray)).data.toList = acc.data.toList ++ (([34] ++ s.data.toList ++ [34]) ++ [32]) := by
  simp [ByteArray.data_append]
theorem str_end (s : ByteArray) : (⟨s.data.toList.toArray⟩ : ByteArray) = s := rfl
set_option maxHeartbeats 8000000 in
set_option maxRecDepth 100000 in
theorem joinOf_few (F : Nat → Prop) (ao : Option Addr) (n cap : Nat) (l : List Tok) (w : World) (hL : SlF F w 3 tokF ao n cap l) (h7 : n ≤ 700) : Calls Tryd.prog 16 #[.slice ao n cap] w (JoinPost l w) := by
  have h7' : (n : Int) ≤ 700 := by omega
  have hle := hL.le
  have NL : Hid (n = l.length) := hL.len
  have HV : Hid (joinV l = joinF (l.drop 0) []) := by show _ = _; unfold joinV; rw [if_neg (by have := hL.len; omega)]; rfl
  go_enter Tryd.func16, Tryd.ntmps16
  go_wp2_with fail
  go_loopw [4, 5] (fun s i wr => ∃ (k : Nat) (acc : ByteArray), k ≤ n ∧ s = .string acc ∧ i = .int .i64 k ∧ Below w.heap.size w wr ∧ Hid (acc.size ≤ 23 * k ∧ joinV l = joinF (l.drop k) acc.data.toList)) (fun _ i _ => n - (intOf i).toNat)
  case atStart => exact ⟨0, ByteArray.empty, by omega, rfl, rfl, (by repeat (first | exact Below.refl _ _ | assumption | refine below_step ?_ (by assumption) | refine below_step ?_ (Joins.below_draws _ _ _) | (refine Below.alloc ?_ (by first | omega | (simp; done) | (simp; omega)) _) | (refine Below.setCell ?_ (by first | omega | (simp; done) | (simp; omega)) _) | refine Below.drew ?_)), by simp, HV.out⟩
  case round =>
    obtain ⟨k, acc, hk, rfl, rfl, hbr, HC⟩ := hrel
    clear HV
    have hwr : w.heap.size ≤ wr.heap.size := hbr.size
    obtain ⟨hc1, hc2⟩ := HC.out
    have HCC := Lib.hid hc2
    clear hc2 HC
    by_cases hlt : k < n
    · have hkl : k < l.length := by have := NL.out; omega
      obtain ⟨b, off, row, hix, hblt, hrow, hrr⟩ := (hL.below tokF_firm hbr).toR.index (P := Tryd.prog) Tryd.underlying28 size_tok (i := k) hkl
      have HJ : Hid (joinV l = if tokE l[k].kind l[k].text l[k].int = 0 then joinF (l.drop (k + 1)) (acc.data.toList ++ pieceL l[k]) else (tokE l[k].kind l[k].text l[k].int, [])) := by show _ = _; rw [HCC.out, joinF_at hkl]
      have HP : Hid (tokE l[k].kind l[k].text l[k].int = 0 → (pieceL l[k]).length ≤ 23) := fun h => pieceL_len h
      clear HCC
      generalize l[k] = t at hrr HJ HP
      obtain ⟨hrr, hts⟩ := hrr
      subst hrr
      obtain ⟨c0, c1, c2⟩ := hrow.three
      obtain ⟨kind, text, int⟩ := t
      simp only at hts c0 c1 c2
      have HK : Hid (∀ wx, Calls Tryd.prog 11 #[.agg #[.int .i64 kind, .string text, .int .i64 int]] wx fun e w' => e = .returned (.int .i64 (tokE kind text int)) ∧ Below wx.heap.size wx w') := fun wx => tokFault_any kind text int wx (by unfold maxLen; omega)
      by_cases hE : tokE kind text int = 0
      · have HJ' : Hid (joinV l = joinF (l.drop (k + 1)) (acc.data.toList ++ pieceL ⟨kind, text, int⟩)) := by show _ = _; rw [HJ.out, if_pos hE]
        have HP' : Hid ((pieceL ⟨kind, text, int⟩).length ≤ 23) := HP.out hE
        clear HJ HP
        by_cases k2 : kind = 2
        · subst k2
          obtain ⟨g1, g2⟩ := tokE_num hE
          obtain ⟨m, rfl⟩ : ∃ m : Nat, int = m := ⟨int.toNat, by omega⟩
          rw [hE] at HK
          clear hE
          have HS : Hid (pieceL ⟨2, text, (m : Int)⟩ = (decV m).data.toList ++ [32]) := rfl
          rw [HS.out] at HJ' HP'
          have HD : Hid (∀ wx, Calls Tryd.prog 36 #[.int .i64 m] wx fun e w' => e = .returned (.string (decV m)) ∧ Below wx.heap.size wx w') := fun wx => dec_any m m wx (Nat.le_refl _) (by omega)
          have hsz : (decV m).size ≤ 22 := by have := HP'.out; simp at this; omega
          clear HS
          generalize decV m = s at HJ' HP' HD hsz
          have a1 : acc.size + s.size ≤ 9223372036854775807 := by omega
          have a2 : (acc ++ s).size + 1 ≤ 9223372036854775807 := by rw [ByteArray.size_append]; omega
          go_wp2_with fail
          refine (HK.out _).mono ?_
          rintro e w1 ⟨rfl, hb1⟩
          obtain ⟨hc_w1, hf_w1⟩ := bcell hb1; have hs_w1 := hb1.size; (try simp only [World.size_alloc, World.size_drew, World.size_setCell] at hs_w1); (try simp only [World.size_drew, World.cell?_drew, World.frozen?_drew] at hc_w1 hf_w1)
          go_wp2_with fail
          refine (HD.out _).mono ?_
          rintro e w2 ⟨rfl, hb2⟩
          go_wp2
          go_roundw
          case rel => exact ⟨k + 1, (acc ++ s) ++ (⟨#[32]⟩ : ByteArray), by omega, rfl, by go_num, hbr.trans (Below.mono (show Below wr.heap.size wr w2 from (by repeat (first | exact Below.refl _ _ | assumption | refine below_step ?_ (by assumption) | refine below_step ?_ (Joins.below_draws _ _ _) | (refine Below.alloc ?_ (by first | omega | (simp; done) | (simp; omega)) _) | (refine Below.setCell ?_ (by first | omega | (simp; done) | (simp; omega)) _) | refine Below.drew ?_))) hwr), by (rw [ByteArray.size_append, ByteArray.size_append]; show _ + 1 ≤ _; omega), by (rw [str_piece]; exact HJ'.out)⟩
          case measure => simp [intOf]; omega
        · by_cases k3 : kind = 3
          · subst k3
            rw [hE] at HK
            have HS : Hid (pieceL ⟨3, text, int⟩ = (([34] : List UInt8) ++ text.data.toList ++ [34]) ++ [32]) := rfl
            rw [HS.out] at HJ' HP'
            have hsz : text.size ≤ 20 := by have := HP'.out; simp at this; omega
            have a1 : acc.size + 1 ≤ 9223372036854775807 := by omega
            have e1 : (acc ++ (⟨#[34]⟩ : ByteArray)).size = acc.size + 1 := by rw [ByteArray.size_append]; rfl
            have a2 : (acc ++ (⟨#[34]⟩ : ByteArray)).size + text.size ≤ 9223372036854775807 := by omega
            have a3 : ((acc ++ (⟨#[34]⟩ : ByteArray)) ++ text).size + 2 ≤ 9223372036854775807 := by rw [ByteArray.size_append]; omega
            clear HS hE
            go_wp2_with fail
            refine (HK.out _).mono ?_
            rintro e w1 ⟨rfl, hb1⟩
            obtain ⟨hc_w1, hf_w1⟩ := bcell hb1; have hs_w1 := hb1.size; (try simp only [World.size_alloc, World.size_drew, World.size_setCell] at hs_w1); (try simp only [World.size_drew, World.cell?_drew, World.frozen?_drew] at hc_w1 hf_w1)
            go_wp2
            go_roundw
            case rel => exact ⟨k + 1, ((acc ++ (⟨#[34]⟩ : ByteArray)) ++ text) ++ (⟨#[34, 32]⟩ : ByteArray), by omega, rfl, by go_num, hbr.trans (Below.mono (show Below wr.heap.size wr w1 from (by repeat (first | exact Below.refl _ _ | assumption | refine below_step ?_ (by assumption) | refine below_step ?_ (Joins.below_draws _ _ _) | (refine Below.alloc ?_ (by first | omega | (simp; done) | (simp; omega)) _) | (refine Below.setCell ?_ (by first | omega | (simp; done) | (simp; omega)) _) | refine Below.drew ?_))) hwr), by (rw [ByteArray.size_append, ByteArray.size_append]; show _ + _ + 2 ≤ _; omega), by (rw [str_quoted]; exact HJ'.out)⟩
            case measure => simp [intOf]; omega
          · have q2 : (kind == 2) = false := by simpa using k2
            have q3 : (kind == 3) = false := by simpa using k3
            rw [hE] at HK
            have HS : Hid (pieceL ⟨kind, text, int⟩ = text.data.toList ++ [32]) := by show _ = _; unfold pieceL; rw [if_neg k2, if_neg k3]
            rw [HS.out] at HJ' HP'
            have hsz : text.size ≤ 22 := by have := HP'.out; simp at this; omega
            have a1 : acc.size + text.size ≤ 9223372036854775807 := by omega
            have a2 : (acc ++ text).size + 1 ≤ 9223372036854775807 := by rw [ByteArray.size_append]; omega
            clear HS hE k2 k3
            go_wp2_with fail
            refine (HK.out _).mono ?_
            rintro e w1 ⟨rfl, hb1⟩
            obtain ⟨hc_w1, hf_w1⟩ := bcell hb1; have hs_w1 := hb1.size; (try simp only [World.size_alloc, World.size_drew, World.size_setCell] at hs_w1); (try simp only [World.size_drew, World.cell?_drew, World.frozen?_drew] at hc_w1 hf_w1)
            go_wp2
            go_roundw
            case rel => exact ⟨k + 1, (acc ++ text) ++ (⟨#[32]⟩ : ByteArray), by omega, rfl, by go_num, hbr.trans (Below.mono (show Below wr.heap.size wr w1 from (by repeat (first | exact Below.refl _ _ | assumption | refine below_step ?_ (by assumption) | refine below_step ?_ (Joins.below_draws _ _ _) | (refine Below.alloc ?_ (by first | omega | (simp; done) | (simp; omega)) _) | (refine Below.setCell ?_ (by first | omega | (simp; done) | (simp; omega)) _) | refine Below.drew ?_))) hwr), by (rw [ByteArray.size_append, ByteArray.size_append]; show _ + 1 ≤ _; omega), by (rw [str_piece]; exact HJ'.out)⟩
            case measure => simp [intOf]; omega
      · have hq : (tokE kind text int != 0) = true := by simpa using hE
        have HJ' : Hid (joinV l = (tokE kind text int, [])) := by show _ = _; rw [HJ.out, if_neg hE]
        clear HJ HP hE
        generalize tokE kind text int = code at HK HJ' hq
        go_wp2_with fail
        refine (HK.out _).mono ?_
        rintro e w1 ⟨rfl, hb1⟩
        go_wp2
        go_ret2
        unfold JoinPost
        rw [HJ'.out]
        exact ⟨rfl, hbr.trans (Below.mono (show Below wr.heap.size wr w1 from (by repeat (first | exact Below.refl _ _ | assumption | refine below_step ?_ (by assumption) | refine below_step ?_ (Joins.below_draws _ _ _) | (refine Below.alloc ?_ (by first | omega | (simp; done) | (simp; omega)) _) | (refine Below.setCell ?_ (by first | omega | (simp; done) | (simp; omega)) _) | refine Below.drew ?_))) hwr)⟩
    · have HE : Hid (joinV l = if 3000 < acc.size then (1, []) else (0, acc.data.toList)) := by show _ = _; rw [HCC.out, joinF_end (by have := NL.out; omega), ba_len]
      clear HCC
      by_cases h3 : 3000 < acc.size
      · have h3' : (3000 : Int) < acc.size := by omega
        have HE' : Hid (joinV l = (1, [])) := by show _ = _; rw [HE.out, if_pos h3]
        clear HE
        go_wp2
        go_ret2
        unfold JoinPost
        rw [HE'.out]
        exact ⟨rfl, hbr⟩
      · have h3' : ¬ (3000 : Int) < acc.size := by omega
        have HE' : Hid (joinV l = (0, acc.data.toList)) := by show _ = _; rw [HE.out, if_neg h3]
        clear HE
        go_wp2
        go_ret2
        unfold JoinPost
        rw [HE'.out]
        exact ⟨rfl, hbr⟩
end Go.Proofs.YtenchgdlkbdpdaaDoor
