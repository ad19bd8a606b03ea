/-
  The walks of tokens joined, second part: lex.Join at no more than 700 tokens.
-/
import Derived.Test.YtenchgdlkbdpdaaDoorJoiW
import Derived.Test.YtenchgdlkbdpdaaDoorLexL
namespace Go.Proofs.YtenchgdlkbdpdaaDoor
open Go.RowKit
set_option linter.unusedVariables false
set_option linter.unusedSimpArgs false

theorem tokE_num {s : ByteArray} {i : Int} (h : tokE 2 s i = 0) : 0 ≤ i ∧ i ≤ 1125899906842624 := by
  unfold tokE at h
  rw [if_neg (by omega), if_pos rfl] at h
  by_cases hz : s.toList = []
  · rw [if_pos hz] at h
    by_cases hr : 0 ≤ i ∧ i ≤ 1125899906842624
    · exact hr
    · rw [if_neg hr] at h; omega
  · rw [if_neg hz] at h; omega
theorem builderAt_below {T e : TypeId} {B b : Nat} {p : Value} {bs : List Value} {w w' : World} (h : Lib.BuilderAt T e B b p bs w) (hb : Below w.heap.size w w') : Lib.BuilderAt T e B b p bs w' := by
  obtain ⟨hB, v, hbk, hown, hne⟩ := h
  have hlt := (Array.getElem?_eq_some_iff.1 hbk).1
  exact ⟨hB, v, (hb.block b hlt).trans hbk, owns_same hown (fun g hg hlt => hb.block g hlt), hne⟩
theorem isBuilder_below {T e : TypeId} {B b : Nat} {bs : List Value} {w w' : World} (h : Lib.IsBuilder T e B b bs w) (hb : Below w.heap.size w w') : Lib.IsBuilder T e B b bs w' :=
  h.elim (fun h => Or.inl (builderAt_below h hb)) (fun h => Or.inr (builderAt_below h hb))
theorem piece_cells (acc : List UInt8) (s : ByteArray) : Lib.byteCells acc ++ Lib.strCells s ++ [Value.int .u8 32] = Lib.byteCells (acc ++ (s.data.toList ++ [32])) := by
  rw [Lib.byteCells_append, Lib.byteCells_append, Lib.strCells_eq, List.append_assoc]; rfl
set_option maxHeartbeats 8000000 in
set_option maxRecDepth 100000 in
theorem join_few (F G : Nat → Prop) (ao : Option Addr) (n cap : Nat) (l : List Tok) (w : World) (hL : SlF F w 3 tokF ao n cap l) (h7 : n ≤ 700) (hM : SlF G w 1 wordF (some ⟨2, 0, none⟩) 17 17 marksL) : Calls Tryd.prog 15 #[.slice ao n cap] w (JoinPost l w) := by
  have h7' : (n : Int) ≤ 700 := by omega
  have hle := hL.le
  have NL : Hid (n = l.length) := hL.len
  have HV : Hid (joinV l = joinF (l.drop 0) []) := by show _ = _; unfold joinV; rw [if_neg (by have := hL.len; omega)]; rfl
  have hfresh := Lib.hid (Lib.fresh_isBuilder 58 5 w)
  go_enter Tryd.func15, Tryd.ntmps15
  go_wp2_with fail
  go_loopw [13] (fun i wr => ∃ (k : Nat) (acc : List UInt8), k ≤ n ∧ i = .int .i64 k ∧ Below w.heap.size w wr ∧ Lib.IsBuilder 58 5 w.heap.size w.heap.size (Lib.byteCells acc) wr ∧ Hid (acc.length ≤ 23 * k ∧ joinV l = joinF (l.drop k) acc)) (fun i _ => n - (intOf i).toNat)
  case atStart => exact ⟨0, [], by omega, rfl, (by repeat (first | exact Below.refl _ _ | assumption | refine below_step ?_ (by assumption) | refine below_step ?_ (Joins.below_draws _ _ _) | (refine Below.alloc ?_ (by first | omega | (simp; done) | (simp; omega)) _) | (refine Below.setCell ?_ (by first | omega | (simp; done) | (simp; omega)) _) | refine Below.drew ?_)), hfresh.out, by simp, HV.out⟩
  case round =>
    obtain ⟨k, acc, hk, rfl, hbr, hbd, HC⟩ := hrel
    have BD := Lib.hid hbd
    clear hbd HV hfresh
    have hwr : w.heap.size ≤ wr.heap.size := hbr.size
    have hwl : w.heap.size < wr.heap.size := BD.out.elim (·.lt) (·.lt)
    obtain ⟨hc1, hc2⟩ := HC.out
    have HCC := Lib.hid hc2
    clear hc2 HC
    by_cases hlt : k < n
    · have hkl : k < l.length := by have := NL.out; omega
      obtain ⟨b, off, row, hix, hblt, hrow, hrr⟩ := (hL.below tokF_firm hbr).toR.index (P := Tryd.prog) Tryd.underlying28 size_tok (i := k) hkl
      have HJ : Hid (joinV l = if tokE l[k].kind l[k].text l[k].int = 0 then joinF (l.drop (k + 1)) (acc ++ pieceL l[k]) else (tokE l[k].kind l[k].text l[k].int, [])) := by show _ = _; rw [HCC.out, joinF_at hkl acc]
      have HP : Hid (tokE l[k].kind l[k].text l[k].int = 0 → (pieceL l[k]).length ≤ 23) := fun h => pieceL_len h
      clear HCC
      generalize l[k] = t at hrr HJ HP
      obtain ⟨hrr, hts⟩ := hrr
      subst hrr
      obtain ⟨c0, c1, c2⟩ := hrow.three
      obtain ⟨kind, text, int⟩ := t
      simp only at hts c0 c1 c2
      have HK : Hid (∀ wx, Below w.heap.size w wx → Calls Tryd.prog 10 #[.agg #[.int .i64 kind, .string text, .int .i64 int]] wx fun e w' => e = .returned (.int .i64 (tokE kind text int)) ∧ Below wx.heap.size wx w') := fun wx hb => tokCheck_any G kind text int wx (by unfold maxLen; omega) (hM.below wordF_firm hb)
      by_cases hE : tokE kind text int = 0
      · have HJ' : Hid (joinV l = joinF (l.drop (k + 1)) (acc ++ pieceL ⟨kind, text, int⟩)) := by show _ = _; rw [HJ.out, if_pos hE]
        have HP' : Hid ((pieceL ⟨kind, text, int⟩).length ≤ 23) := HP.out hE
        clear HJ HP
        by_cases k2 : kind = 2
        · subst k2
          obtain ⟨g1, g2⟩ := tokE_num hE
          obtain ⟨m, rfl⟩ : ∃ m : Nat, int = m := ⟨int.toNat, by omega⟩
          rw [hE] at HK
          clear hE
          have HS : Hid (pieceL ⟨2, text, (m : Int)⟩ = (decV m).data.toList ++ [32]) := rfl
          rw [HS.out] at HJ' HP'
          have HD : Hid (∀ wx, Calls Tryd.prog 32 #[.int .i64 m] wx fun e w' => e = .returned (.string (decV m)) ∧ Below wx.heap.size wx w') := fun wx => digits_any m m wx (Nat.le_refl _) (by omega)
          have hsz : (decV m).size ≤ 22 := by have := HP'.out; simp at this; omega
          clear HS
          generalize decV m = s at HJ' HP' HD hsz
          go_wp2_with fail
          refine (HK.out _ (by repeat (first | exact Below.refl _ _ | assumption | refine below_step ?_ (by assumption) | refine below_step ?_ (Joins.below_draws _ _ _) | (refine Below.alloc ?_ (by first | omega | (simp; done) | (simp; omega)) _) | (refine Below.setCell ?_ (by first | omega | (simp; done) | (simp; omega)) _) | refine Below.drew ?_))).mono ?_
          rintro e w1 ⟨rfl, hb1⟩
          obtain ⟨hc_w1, hf_w1⟩ := bcell hb1; have hs_w1 := hb1.size; (try simp only [World.size_alloc, World.size_drew, World.size_setCell] at hs_w1); (try simp only [World.size_drew, World.cell?_drew, World.frozen?_drew] at hc_w1 hf_w1)
          have z0 : wr.heap.size < w1.heap.size := by omega
          go_wp2_with fail
          refine (HD.out _).mono ?_
          rintro e w2 ⟨rfl, hb2⟩
          have hs2 := hb2.size
          obtain ⟨hc_w2, hf_w2⟩ := bcell hb2; have hs_w2 := hb2.size; (try simp only [World.size_alloc, World.size_drew, World.size_setCell] at hs_w2); (try simp only [World.size_drew, World.cell?_drew, World.frozen?_drew] at hc_w2 hf_w2)
          have z1 : wr.heap.size < w2.heap.size := by omega
          go_wp2_with fail
          refine (writeString_any w.heap.size w.heap.size _ s _ (isBuilder_below BD.out (show Below wr.heap.size wr w2 from (by repeat (first | exact Below.refl _ _ | assumption | refine below_step ?_ (by assumption) | refine below_step ?_ (Joins.below_draws _ _ _) | (refine Below.alloc ?_ (by first | omega | (simp; done) | (simp; omega)) _) | (refine Below.setCell ?_ (by first | omega | (simp; done) | (simp; omega)) _) | refine Below.drew ?_)))) (by rw [Lib.byteCells_length]; omega) (by omega)).mono ?_
          rintro e w3 ⟨rfl, hbd3, hb3⟩
          have hbw3 : Below w.heap.size w w3 := hbr.trans ((Below.mono (show Below wr.heap.size wr w2 from (by repeat (first | exact Below.refl _ _ | assumption | refine below_step ?_ (by assumption) | refine below_step ?_ (Joins.below_draws _ _ _) | (refine Below.alloc ?_ (by first | omega | (simp; done) | (simp; omega)) _) | (refine Below.setCell ?_ (by first | omega | (simp; done) | (simp; omega)) _) | refine Below.drew ?_))) hwr).trans hb3)
          have hs3 := hb3.size
          clear BD
          have BD3 := Lib.hid hbd3
          clear hbd3
          go_wp2_with fail
          refine (writeByte_any w.heap.size w.heap.size _ 32 _ (Or.inr BD3.out) (by rw [List.length_append, Lib.byteCells_length, Lib.strCells_length]; omega) (by omega)).mono ?_
          rintro e w4 ⟨rfl, hbd4, hb4⟩
          rw [piece_cells] at hbd4
          go_wp2
          go_roundw
          case rel => exact ⟨k + 1, acc ++ (s.data.toList ++ [32]), by omega, by go_num, hbw3.trans hb4, Or.inr hbd4, by (have := HP'.out; simp at this ⊢; omega), HJ'.out⟩
          case measure => simp [intOf]; omega
        · by_cases k3 : kind = 3
          · subst k3
            rw [hE] at HK
            have HS : Hid (pieceL ⟨3, text, int⟩ = (([34] : List UInt8) ++ text.data.toList ++ [34]) ++ [32]) := rfl
            rw [HS.out] at HJ' HP'
            have hsz : text.size ≤ 22 := by have := HP'.out; simp at this; omega
            have hq3 : ((⟨#[34]⟩ : ByteArray) ++ text ++ (⟨#[34]⟩ : ByteArray)).size = text.size + 2 := by
              rw [ByteArray.size_append, ByteArray.size_append]; show 1 + _ + 1 = _; omega
            clear HS hE
            go_wp2_with fail
            refine (HK.out _ (by repeat (first | exact Below.refl _ _ | assumption | refine below_step ?_ (by assumption) | refine below_step ?_ (Joins.below_draws _ _ _) | (refine Below.alloc ?_ (by first | omega | (simp; done) | (simp; omega)) _) | (refine Below.setCell ?_ (by first | omega | (simp; done) | (simp; omega)) _) | refine Below.drew ?_))).mono ?_
            rintro e w1 ⟨rfl, hb1⟩
            obtain ⟨hc_w1, hf_w1⟩ := bcell hb1; have hs_w1 := hb1.size; (try simp only [World.size_alloc, World.size_drew, World.size_setCell] at hs_w1); (try simp only [World.size_drew, World.cell?_drew, World.frozen?_drew] at hc_w1 hf_w1)
            have z0 : wr.heap.size < w1.heap.size := by omega
            go_wp2_with fail
            refine (writeString_any w.heap.size w.heap.size _ _ _ (isBuilder_below BD.out (show Below wr.heap.size wr w1 from (by repeat (first | exact Below.refl _ _ | assumption | refine below_step ?_ (by assumption) | refine below_step ?_ (Joins.below_draws _ _ _) | (refine Below.alloc ?_ (by first | omega | (simp; done) | (simp; omega)) _) | (refine Below.setCell ?_ (by first | omega | (simp; done) | (simp; omega)) _) | refine Below.drew ?_)))) (by rw [Lib.byteCells_length]; omega) (by omega)).mono ?_
            rintro e w3 ⟨rfl, hbd3, hb3⟩
            have hbw3 : Below w.heap.size w w3 := hbr.trans ((Below.mono (show Below wr.heap.size wr w1 from (by repeat (first | exact Below.refl _ _ | assumption | refine below_step ?_ (by assumption) | refine below_step ?_ (Joins.below_draws _ _ _) | (refine Below.alloc ?_ (by first | omega | (simp; done) | (simp; omega)) _) | (refine Below.setCell ?_ (by first | omega | (simp; done) | (simp; omega)) _) | refine Below.drew ?_))) hwr).trans hb3)
            have hs3 := hb3.size
            clear BD
            have BD3 := Lib.hid hbd3
            clear hbd3
            go_wp2_with fail
            refine (writeByte_any w.heap.size w.heap.size _ 32 _ (Or.inr BD3.out) (by rw [List.length_append, Lib.byteCells_length, Lib.strCells_length]; omega) (by omega)).mono ?_
            rintro e w4 ⟨rfl, hbd4, hb4⟩
            rw [piece_cells] at hbd4
            go_wp2
            go_roundw
            case rel => exact ⟨k + 1, acc ++ (([34] ++ text.data.toList ++ [34]) ++ [32]), by omega, by go_num, hbw3.trans hb4, Or.inr hbd4, by (have := HP'.out; simp at this ⊢; omega), HJ'.out⟩
            case measure => simp [intOf]; omega
          · have q2 : (kind == 2) = false := by simpa using k2
            have q3 : (kind == 3) = false := by simpa using k3
            rw [hE] at HK
            have HS : Hid (pieceL ⟨kind, text, int⟩ = text.data.toList ++ [32]) := by show _ = _; unfold pieceL; rw [if_neg k2, if_neg k3]
            rw [HS.out] at HJ' HP'
            have hsz : text.size ≤ 22 := by have := HP'.out; simp at this; omega
            clear HS hE k2 k3
            go_wp2_with fail
            refine (HK.out _ (by repeat (first | exact Below.refl _ _ | assumption | refine below_step ?_ (by assumption) | refine below_step ?_ (Joins.below_draws _ _ _) | (refine Below.alloc ?_ (by first | omega | (simp; done) | (simp; omega)) _) | (refine Below.setCell ?_ (by first | omega | (simp; done) | (simp; omega)) _) | refine Below.drew ?_))).mono ?_
            rintro e w1 ⟨rfl, hb1⟩
            obtain ⟨hc_w1, hf_w1⟩ := bcell hb1; have hs_w1 := hb1.size; (try simp only [World.size_alloc, World.size_drew, World.size_setCell] at hs_w1); (try simp only [World.size_drew, World.cell?_drew, World.frozen?_drew] at hc_w1 hf_w1)
            have z0 : wr.heap.size < w1.heap.size := by omega
            go_wp2_with fail
            refine (writeString_any w.heap.size w.heap.size _ text _ (isBuilder_below BD.out (show Below wr.heap.size wr w1 from (by repeat (first | exact Below.refl _ _ | assumption | refine below_step ?_ (by assumption) | refine below_step ?_ (Joins.below_draws _ _ _) | (refine Below.alloc ?_ (by first | omega | (simp; done) | (simp; omega)) _) | (refine Below.setCell ?_ (by first | omega | (simp; done) | (simp; omega)) _) | refine Below.drew ?_)))) (by rw [Lib.byteCells_length]; omega) (by omega)).mono ?_
            rintro e w3 ⟨rfl, hbd3, hb3⟩
            have hbw3 : Below w.heap.size w w3 := hbr.trans ((Below.mono (show Below wr.heap.size wr w1 from (by repeat (first | exact Below.refl _ _ | assumption | refine below_step ?_ (by assumption) | refine below_step ?_ (Joins.below_draws _ _ _) | (refine Below.alloc ?_ (by first | omega | (simp; done) | (simp; omega)) _) | (refine Below.setCell ?_ (by first | omega | (simp; done) | (simp; omega)) _) | refine Below.drew ?_))) hwr).trans hb3)
            have hs3 := hb3.size
            clear BD
            have BD3 := Lib.hid hbd3
            clear hbd3
            go_wp2_with fail
            refine (writeByte_any w.heap.size w.heap.size _ 32 _ (Or.inr BD3.out) (by rw [List.length_append, Lib.byteCells_length, Lib.strCells_length]; omega) (by omega)).mono ?_
            rintro e w4 ⟨rfl, hbd4, hb4⟩
            rw [piece_cells] at hbd4
            go_wp2
            go_roundw
            case rel => exact ⟨k + 1, acc ++ (text.data.toList ++ [32]), by omega, by go_num, hbw3.trans hb4, Or.inr hbd4, by (have := HP'.out; simp at this ⊢; omega), HJ'.out⟩
            case measure => simp [intOf]; omega
      · have hq : (tokE kind text int != 0) = true := by simpa using hE
        have HJ' : Hid (joinV l = (tokE kind text int, [])) := by show _ = _; rw [HJ.out, if_neg hE]
        clear HJ HP hE
        generalize tokE kind text int = code at HK HJ' hq
        go_wp2_with fail
        refine (HK.out _ (by repeat (first | exact Below.refl _ _ | assumption | refine below_step ?_ (by assumption) | refine below_step ?_ (Joins.below_draws _ _ _) | (refine Below.alloc ?_ (by first | omega | (simp; done) | (simp; omega)) _) | (refine Below.setCell ?_ (by first | omega | (simp; done) | (simp; omega)) _) | refine Below.drew ?_))).mono ?_
        rintro e w1 ⟨rfl, hb1⟩
        go_wp2
        go_ret2
        unfold JoinPost
        rw [HJ'.out]
        exact ⟨rfl, hbr.trans (Below.mono (show Below wr.heap.size wr w1 from (by repeat (first | exact Below.refl _ _ | assumption | refine below_step ?_ (by assumption) | refine below_step ?_ (Joins.below_draws _ _ _) | (refine Below.alloc ?_ (by first | omega | (simp; done) | (simp; omega)) _) | (refine Below.setCell ?_ (by first | omega | (simp; done) | (simp; omega)) _) | refine Below.drew ?_))) hwr)⟩
    · have HE : Hid (joinV l = if 3000 < acc.length then (1, []) else (0, acc)) := by show _ = _; rw [HCC.out, joinF_end (by have := NL.out; omega)]
      clear HCC
      go_wp2_with fail
      refine (Tryd.Builder_Len _ _ _ _ BD.out).mono ?_
      rintro e w1 ⟨rfl, rfl⟩
      rw [Lib.byteCells_length]
      by_cases h3 : 3000 < acc.length
      · have h3' : (3000 : Int) < acc.length := by omega
        have HE' : Hid (joinV l = (1, [])) := by show _ = _; rw [HE.out, if_pos h3]
        clear HE
        go_wp2
        go_ret2
        unfold JoinPost
        rw [HE'.out]
        exact ⟨rfl, hbr⟩
      · have h3' : ¬ (3000 : Int) < acc.length := by omega
        have HE' : Hid (joinV l = (0, acc)) := by show _ = _; rw [HE.out, if_neg h3]
        clear HE
        go_wp2_with fail
        refine (Tryd.Builder_String_any _ _ acc _ BD.out (by omega)).mono ?_
        rintro e w2 ⟨rfl, hb2⟩
        go_wp2
        go_ret2
        unfold JoinPost
        rw [HE'.out]
        exact ⟨rfl, hbr.trans hb2⟩
end Go.Proofs.YtenchgdlkbdpdaaDoor
