/-
  The walks of lex and its reference, tenth part: lex.Cut; tokens compared; the law LexCuts.
-/
import Derived.Test.YtenchgdlkbdpdaaDoorLexV
import Derived.Deep.QuietTactic
import Derived.BigQuiet
namespace Go.Proofs.YtenchgdlkbdpdaaDoor
open Go.RowKit
set_option linter.unusedVariables false
set_option linter.unusedSimpArgs false

set_option maxHeartbeats 8000000 in
set_option maxRecDepth 100000 in
theorem cut_any (F : Nat → Prop) (s : ByteArray) (w : World) (hs : s.size ≤ maxLen) (hM : SlF F w 1 wordF (some ⟨2, 0, none⟩) 17 17 marksL) : Calls Tryd.prog 12 #[.string s] w (CutPost s w) := by
  unfold maxLen at hs
  by_cases h3 : 3000 < s.size
  · have h3' : (3000 : Int) < s.size := by omega
    have HV : Hid (cutV s = ([], 0, 1)) := by show _ = _; unfold cutV; rw [if_pos h3]
    go_enter Tryd.func12, Tryd.ntmps12
    go_wp2
    go_ret3
    unfold CutPost
    rw [HV.out]
    exact ⟨none, 0, 0, rfl, Below.refl _ _, SlF.nil⟩
  · have h3' : (s.size : Int) ≤ 3000 := by omega
    have h3n : s.size ≤ 3000 := by omega
    have HV : Hid (cutV s = cutF s (s.size + 1) (blankAt s 0) []) := by show _ = _; unfold cutV; rw [if_neg h3]
    have hb0 := blankAt_le s 0 (by omega)
    obtain ⟨i0, hi, hz0, hz1, hz2⟩ := info_parts info_tok
    have HB0 : Hid (∀ wx, Calls Tryd.prog 27 #[.string s] wx fun e w' => e = .returned (.int .i64 (blankAt s 0)) ∧ wx = w') := fun wx => (blank_any s wx (by unfold maxLen; omega)).mono fun e w' h => ⟨by rw [h.1]; unfold blankAt blankN; simp, h.2.symm⟩
    clear h3
    go_enter Tryd.func12, Tryd.ntmps12
    go_wp2_with (go_at_call 27; refine (HB0.out _).mono ?_; rintro e w' ⟨rfl, rfl⟩)
    go_loopw [5, 6] (fun o i wr => ∃ (k f : Nat) (out : List Tok), k ≤ s.size ∧ i = .int .i64 k ∧ Below w.heap.size w wr ∧ OwnF (from_ w.heap.size) w.heap.size wr 24 3 tkF o out ∧ Hid (out.length ≤ 700 ∧ s.size - k < f ∧ cutV s = cutF s f k out)) (fun _ i _ => s.size - (intOf i).toNat)
    case atStart => exact ⟨blankAt s 0, s.size + 1, [], hb0.2, rfl, Below.refl _ _, OwnF.empty, by simp, by omega, HV.out⟩
    case round =>
      obtain ⟨k, f, out, hk, rfl, hbr, hown, HC⟩ := hrel
      have OW := Lib.hid hown
      clear hown HV HB0
      obtain ⟨ra, rc, rfl⟩ := OW.out.slice
      have hwr : w.heap.size ≤ wr.heap.size := hbr.size
      obtain ⟨hc1, hc2, hc3⟩ := HC.out
      have HCC := Lib.hid hc3
      clear hc3 HC
      obtain ⟨f, rfl⟩ : ∃ g, f = g + 1 := ⟨f - 1, by omega⟩
      by_cases hlt : k < s.size
      · by_cases h700 : out.length = 700
        · have HE : Hid (cutV s = ([], k, 8)) := by show _ = _; rw [HCC.out]; unfold cutF; rw [if_pos hlt, if_pos h700]
          rw [h700] at OW ⊢
          go_wp2
          go_ret3
          unfold CutPost
          rw [HE.out]
          exact ⟨none, 0, 0, rfl, hbr, SlF.nil⟩
        · have h700' : (out.length : Int) < 700 := by omega
          have HT : Hid (∀ wx, Below w.heap.size w wx → Calls Tryd.prog 28 #[.string (s.extract k s.size)] wx fun e w' => e = .returned (tokenV (suf s k)).val ∧ Below wx.heap.size wx w') := fun wx hb => token_any F (suf s k) wx (by rw [suf_size]; unfold maxLen; omega) (by rw [suf_size]; omega) (hM.below wordF_firm hb)
          have hsuf : 0 < (suf s k).size := by rw [suf_size]; omega
          have hlen := tokenV_len (suf s k) hsuf
          rw [suf_size] at hlen
          have HE := Lib.hid (show (cutV s = if (tokenV (suf s k)).code = 0 then cutF s f (blankAt s (k + (tokenV (suf s k)).len)) (out ++ [(tokenV (suf s k)).tok]) else ([], k, (tokenV (suf s k)).code)) by rw [HCC.out]; conv => lhs; unfold cutF; rw [if_pos hlt, if_neg h700])
          clear HCC h700
          generalize tokenV (suf s k) = r at HT HE hlen
          obtain ⟨code, kind, text, int, len⟩ := r
          by_cases hc0 : code = 0
          · subst hc0
            obtain ⟨g1, g2⟩ : 1 ≤ len ∧ len ≤ s.size - k := hlen rfl
            have hbl := blankAt_le s (k + len) (by omega)
            have HBB : Hid (∀ wx, Calls Tryd.prog 27 #[.string (s.extract (k + len) s.size)] wx fun e w' => e = .returned (.int .i64 (blankAt s (k + len) - (k + len) : Nat)) ∧ wx = w') := fun wx => (blank_any (s.extract (k + len) s.size) wx (by unfold maxLen; simp; omega)).mono fun e w' h => ⟨by rw [h.1, ← blankAt_suf, Nat.add_sub_cancel_left], h.2.symm⟩
            have HE' : Hid (cutV s = cutF s f (blankAt s (k + len)) (out ++ [⟨kind, text, int⟩])) := by
              show _ = _
              rw [HE.out]; rfl
            have HT' : Hid (∀ wx, Below w.heap.size w wx → Calls Tryd.prog 28 #[.string (s.extract k s.size)] wx fun e w' => e = .returned (.tuple #[.agg #[.int .i64 kind, .string text, .int .i64 int], .int .i64 len, .int .i64 0]) ∧ Below wx.heap.size wx w') := HT
            clear HT HE hlen
            generalize hk2 : blankAt s (k + len) = k2 at hbl HBB HE'
            have hsum : Hid (k + len + (k2 - (k + len)) = k2) := by show _ = _; omega
            clear hk2
            go_wp2_with fail
            refine (HT'.out _ hbr).mono ?_
            rintro e w1 ⟨rfl, hb1⟩
            have hs1 := hb1.size
            have O1 := Lib.hid ((((OW.out.below tkF_firm hb1).alloc tkF_firm (.cells #[.int .i64 kind, .string text, .int .i64 int] 24)).alloc tkF_firm (.cells #[.int .i64 kind, .string text, .int .i64 int] 24)))
            have hbw : Below w.heap.size w w1 := hbr.trans (hb1.mono hwr)
            have hw1 : w.heap.size ≤ w1.heap.size := by omega
            have CN : Hid (∀ j u, (tokC ⟨kind, text, int⟩)[j]? = some u → ((w1.alloc (.cells #[.int .i64 kind, .string text, .int .i64 int] 24)).alloc (.cells #[.int .i64 kind, .string text, .int .i64 int] 24)).cell? ((⟨w1.heap.size + 1, 0, none⟩ : Addr).add j) = some u) := fun j u h => by
              have := cells_new (w1.alloc (.cells #[.int .i64 kind, .string text, .int .i64 int] 24)) 24 (tokC ⟨kind, text, int⟩) j u h
              rw [World.size_alloc] at this
              exact this
            go_wp2_with (first
              | (at_builtin; go_loud (refine wpList_append_F rfl _ _ 28 rfl w.heap.size 24 i0 (.agg #[.int .i64 0, .string ByteArray.empty, .int .i64 0]) 3 32 Tryd.underlying28 hi hz0 hz1 hz2 rfl (by decide) _ out.length rfl O1.out rfl tkF_firm ⟨kind, text, int⟩ (tokC ⟨kind, text, int⟩) ⟨w1.heap.size + 1, 0, none⟩ rfl rfl CN.out (tok_one _) rfl (by omega) (by decide) (by simp; omega) ?_); intro ra5 rc5 w5 hown' hgrow hb5)
              | (go_at_call 27; refine (HBB.out _).mono ?_; rintro e w' ⟨rfl, rfl⟩)
              | fail)
            have HX : Hid ((out ++ [(⟨kind, text, int⟩ : Tok)]).length ≤ 700 ∧ s.size - k2 < f ∧ cutV s = cutF s f k2 (out ++ [⟨kind, text, int⟩])) := ⟨by simp; omega, by omega, HE'.out⟩
            exact ⟨⟨k2, f, _, by omega, by (have := hsum.out; go_num), ((hbw.alloc hw1 _).alloc (by simp; omega) _).trans hb5, hown', HX⟩, by simp [intOf]; omega⟩
          · have hq : (code != 0) = true := by simpa using hc0
            have HE' : Hid (cutV s = ([], k, code)) := by show _ = _; rw [HE.out, if_neg hc0]
            have HT' : Hid (∀ wx, Below w.heap.size w wx → Calls Tryd.prog 28 #[.string (s.extract k s.size)] wx fun e w' => e = .returned (.tuple #[.agg #[.int .i64 kind, .string text, .int .i64 int], .int .i64 len, .int .i64 code]) ∧ Below wx.heap.size wx w') := HT
            clear HT HE hlen hc0
            go_wp2_with (go_at_call 28; refine (HT'.out _ hbr).mono ?_; rintro e w1 ⟨rfl, hb1⟩)
            go_ret3
            unfold CutPost
            rw [HE'.out]
            exact ⟨none, 0, 0, rfl, (hbr.trans (hb1.mono hwr)).alloc (by have := hb1.size; omega) _, SlF.nil⟩
      · have HE : Hid (cutV s = (out, 0, 0)) := by show _ = _; rw [HCC.out]; unfold cutF; rw [if_neg hlt]
        go_wp2
        go_ret3
        unfold CutPost
        rw [HE.out]
        obtain ⟨ao', cap', e1, hS⟩ := OW.out.done tkF_firm (G := from_ w.heap.size) (by omega) (fun b _ h => h.elim id id)
        simp only [Value.slice.injEq] at e1
        obtain ⟨rfl, _, rfl⟩ := e1
        exact ⟨_, _, _, rfl, hbr, hS⟩

theorem size_tok : SizeIs Tryd.prog 24 3 := fun w => by kernel_rfl
set_option maxHeartbeats 2000000 in
theorem sameTokens_yes (F G : Nat → Prop) (ao : Option Addr) (n cap : Nat) (bo : Option Addr) (m bcap : Nat) (xs : List Tok) (w : World) (hX : SlF F w 3 tkF ao n cap xs) (hY : SlF G w 3 tkF bo m bcap xs) :
    Calls Tryd.prog 14 #[.slice ao n cap, .slice bo m bcap] w fun e w' => e = .returned (.bool true) ∧ Below w.heap.size w w' := by
  obtain rfl : m = n := by rw [hX.len, hY.len]
  have NL : Hid (m = xs.length) := hX.len
  have hle := hX.le
  go_enter Tryd.func14, Tryd.ntmps14
  go_wp2_with fail
  go_loopw [5] (fun i wr => ∃ k : Nat, k ≤ m ∧ i = .int .i64 k ∧ Below w.heap.size w wr) (fun i _ => m - (intOf i).toNat)
  case atStart => exact ⟨0, by omega, rfl, Below.refl _ _⟩
  case round =>
    obtain ⟨k, hk, rfl, hbr⟩ := hrel
    by_cases hlt : k < m
    · have hkl : k < xs.length := by have := NL.out; omega
      obtain ⟨b, off, row, hix, hblt, hrow, hrr⟩ := (hX.below tkF_firm hbr).toR.index (P := Tryd.prog) Tryd.underlying28 size_tok (i := k) hkl
      obtain ⟨b2, off2, row2, hix2, hblt2, hrow2, hrr2⟩ := (hY.below tkF_firm hbr).toR.index (P := Tryd.prog) Tryd.underlying28 size_tok (i := k) hkl
      generalize xs[k] = t at hrr hrr2
      have e1 : row = [.int .i64 t.kind, .string t.text, .int .i64 t.int] := hrr
      have e2 : row2 = [.int .i64 t.kind, .string t.text, .int .i64 t.int] := hrr2
      subst e1 e2
      obtain ⟨c0, c1, c2⟩ := hrow.three
      obtain ⟨d0, d1, d2⟩ := hrow2.three
      go_wp2_with fail
      go_quiet (fail)
      go_wp2
      go_roundw
      case rel => exact ⟨k + 1, by omega, by go_num, (by repeat (first | exact Below.refl _ _ | assumption | refine below_step ?_ (by assumption) | refine below_step ?_ (Joins.below_draws _ _ _) | (refine Below.alloc ?_ (by first | omega | (simp; done) | (simp; omega)) _) | (refine Below.setCell ?_ (by first | omega | (simp; done) | (simp; omega)) _) | refine Below.drew ?_))⟩
      case measure => simp [intOf]; omega
    · go_wp2
      go_ret
      exact ⟨rfl, hbr⟩

set_option maxHeartbeats 2000000 in
theorem lexCuts_walk (F : Nat → Prop) (s : ByteArray) (w : World) (hM : SlF F w 1 wordF (some ⟨2, 0, none⟩) 17 17 marksL) (hs : s.size ≤ maxLen) :
    Calls Tryd.prog 5 #[.string s] w fun e w' => e = .returned (.bool true) ∧ Below w.heap.size w w' := by
  go_enter Tryd.func5, Tryd.ntmps5
  go_wp2_with fail
  refine (cut_any F s _ hs hM).mono ?_
  rintro e w1 ⟨ao1, n1, cap1, rfl, hb1, hS1⟩
  go_wp2_with fail
  refine (cutOf_any s _ hs).mono ?_
  rintro e w2 ⟨ao2, n2, cap2, rfl, hb2, hS2⟩
  have hS1' := hS1.below tkF_firm hb2
  generalize hc : cutV s = c at hS1' hS2 ⊢
  clear hS1 hc
  go_wp2_with fail
  refine (sameTokens_yes _ _ ao1 n1 cap1 ao2 n2 cap2 _ _ hS1' hS2).mono ?_
  rintro e w3 ⟨rfl, hb3⟩
  go_wp2
  go_ret
  exact ⟨ret_bool (by simp), (by repeat (first | exact Below.refl _ _ | assumption | refine below_step ?_ (by assumption) | refine below_step ?_ (Joins.below_draws _ _ _) | (refine Below.alloc ?_ (by first | omega | (simp; done) | (simp; omega)) _) | (refine Below.setCell ?_ (by first | omega | (simp; done) | (simp; omega)) _) | refine Below.drew ?_))⟩
end Go.Proofs.YtenchgdlkbdpdaaDoor
