/-
  The walks of package bound and its reference, ninth part: two matrices joined.
-/
import Derived.Test.YtipemoajdphdfaaBndQ
import Derived.StillTailTactics
namespace Go.Proofs.Ytipemoajdphdfaa
open Go.RowKit
set_option linter.unusedVariables false
set_option linter.unusedSimpArgs false

set_option maxHeartbeats 4000000 in
set_option maxRecDepth 100000 in
theorem joinMin_good (F G : Nat → Prop) (ao : Option Addr) (n cap : Nat) (a : List (List Int)) (bo : Option Addr) (m bcap : Nat) (b : List (List Int)) (w : World) (hA : SlF F w 1 lineF ao n cap a) (hB : SlF G w 1 lineF bo m bcap b) (hE : pairE a b = 0) (hsa : ∀ i, i < a.length → (a.getD i []).length = a.length) (hsb : ∀ i, i < b.length → (b.getD i []).length = b.length) (h12 : n ≤ 12) (hnm : m = n) :
    Calls Try.prog 50 #[.slice ao n cap, .slice bo m bcap, .func (.func 51) #[] #[]] w fun e w' => ∃ ao' cap' gs, e = .returned (.tuple #[.slice ao' n cap', .int .i64 0]) ∧ Below w.heap.size w w' ∧ Grid (from_ w.heap.size) w' ao' n cap' gs (mix2 min a b n 0) := by
  subst hnm
  have HP : Hid (∀ wx, Below w.heap.size w wx → Calls Try.prog 72 #[.slice ao m cap, .slice bo m bcap] wx fun e w' => e = .returned (.int .i64 0) ∧ Below wx.heap.size wx w') := fun wx hb => by
    rw [← hE]; exact pair_any F G ao m cap a bo m bcap b wx (hA.below lineF_firm hb) (hB.below lineF_firm hb)
  have SA := Lib.hid hsa
  have SB := Lib.hid hsb
  have hn' : (m : Int) ≤ 12 := by omega
  clear hE hsa hsb
  go_enter Try.func50, Try.ntmps50
  go_wp2_with fail
  refine (HP.out _ (by repeat (first | exact Below.refl _ _ | assumption | refine below_step ?_ (by assumption) | refine below_step ?_ (Joins.below_draws _ _ _) | (refine Below.alloc ?_ (by first | omega | (simp; done) | (simp; omega)) _) | (refine Below.setCell ?_ (by first | omega | (simp; done) | (simp; omega)) _) | refine Below.drew ?_))).mono ?_
  rintro e w1 ⟨rfl, hb1⟩
  go_wp2_with fail
  refine (own_any F ao m cap a _ (hA.below lineF_firm hb1) h12 SA.out).mono ?_
  rintro e w2 ⟨ao2, cap2, gs, rfl, hb2, hG0⟩
  have hw2 : Below w.heap.size w w2 := (by repeat (first | exact Below.refl _ _ | assumption | refine below_step ?_ (by assumption) | refine below_step ?_ (Joins.below_draws _ _ _) | (refine Below.alloc ?_ (by first | omega | (simp; done) | (simp; omega)) _) | (refine Below.setCell ?_ (by first | omega | (simp; done) | (simp; omega)) _) | refine Below.drew ?_))
  have G0 : Hid (Grid (from_ w.heap.size) w2 ao2 m cap2 gs (mix2 min a b 0 0)) := by
    rw [mix2_start]
    exact hG0.same (Same.wide fun b hb _ => Nat.le_trans hb1.size hb)
  clear hG0
  go_wp2_with fail
  go_loopw [22] (fun i wr => ∃ k : Nat, k ≤ m ∧ i = .int .i64 k ∧ Below w.heap.size w wr ∧ Hid (Grid (from_ w.heap.size) wr ao2 m cap2 gs (mix2 min a b k 0))) (fun i _ => m - (intOf i).toNat)
  case atStart => exact ⟨0, by omega, rfl, hw2, G0⟩
  case round =>
    obtain ⟨k, hk, rfl, hbr, GR⟩ := hrel
    clear G0 hw2
    by_cases hlt : k < m
    · have hk1 : (k : Int) < m := by omega
      obtain ⟨A, rc, hAlt, hglt, hF, hne, h1, h2, hix, hcell, hent⟩ := GR.out.at hlt
      obtain ⟨wo, rfl⟩ : ∃ wo : World, wo = wr := ⟨_, rfl⟩
      go_wp2_with fail
      clear hcell hent hix
      go_loopw [30] (fun j wr => ∃ q : Nat, q ≤ m ∧ j = .int .i64 q ∧ Below w.heap.size w wr ∧ Hid (Grid (from_ w.heap.size) wr ao2 m cap2 gs (mix2 min a b k q))) (fun j _ => m - (intOf j).toNat)
      case atStart => exact ⟨0, by omega, rfl, hbr, GR⟩
      case round =>
        obtain ⟨q, hq, rfl, hbi, GI⟩ := hrel
        clear GR hbr
        by_cases hqm : q < m
        · have hq1 : (q : Int) < m := by omega
          obtain ⟨A, rc, hAlt, hglt, hF, hne, h1, h2, hix, hcell, hent⟩ := GI.out.at hlt
          obtain ⟨he1, he2, he3⟩ := hent q hqm
          obtain ⟨Aa, oa, ra, rca, hAa, hixa, hca, hra⟩ := line_at (hA.below lineF_firm hbi) SA.out hlt
          obtain ⟨Ba, pa, hBa, hea, hixa2⟩ := hra q hqm
          obtain ⟨Ab, ob, rb, rcb, hAb, hixb, hcb, hrb⟩ := line_at (hB.below lineF_firm hbi) SB.out hlt
          obtain ⟨Bb, pb, hBb, heb, hixb2⟩ := hrb q hqm
          have GS := Lib.hid ((GI.out.same (Same.drew)).store hlt hqm (min (at2 a k q) (at2 b k q)))
          rw [mix2_put] at GS
          have hbS : Below w.heap.size w ((wr.drew).setCell ⟨gs k, q, none⟩ (.int .i64 (min (at2 a k q) (at2 b k q)))) := hbi.drew.setCell (p := ⟨gs k, q, none⟩) hF _
          clear hent hra hrb
          go_wp2_with fail
          go_still_tail 22, (by kernel_rfl)
          still_call ((min_any _ _ _).mono fun e w' h => ⟨h.1, h.2.symm⟩)
          repeat still_step
          refine wpStill_nil ?_
          change wpList _ _ _ _ _ wr.drew
          go_wp2
          go_roundw
          case rel => exact ⟨q + 1, by omega, by go_num, hbS, GS⟩
          case measure => simp [intOf]; omega
        · obtain rfl : q = m := by omega
          have GN : Hid (Grid (from_ w.heap.size) wr ao2 q cap2 gs (mix2 min a b (k + 1) 0)) := GI.out.congr (mix2_row _ _ _ _ _)
          clear GI
          go_wp2
          go_roundw
          case rel => exact ⟨k + 1, by omega, by go_num, hbi, GN⟩
          case measure => simp [intOf]; omega
    · obtain rfl : k = m := by omega
      go_wp2
      go_ret2
      exact ⟨ao2, cap2, gs, rfl, hbr, GR.out⟩
set_option maxHeartbeats 4000000 in
set_option maxRecDepth 100000 in
theorem joinMax_good (F G : Nat → Prop) (ao : Option Addr) (n cap : Nat) (a : List (List Int)) (bo : Option Addr) (m bcap : Nat) (b : List (List Int)) (w : World) (hA : SlF F w 1 lineF ao n cap a) (hB : SlF G w 1 lineF bo m bcap b) (hE : pairE a b = 0) (hsa : ∀ i, i < a.length → (a.getD i []).length = a.length) (hsb : ∀ i, i < b.length → (b.getD i []).length = b.length) (h12 : n ≤ 12) (hnm : m = n) :
    Calls Try.prog 50 #[.slice ao n cap, .slice bo m bcap, .func (.func 53) #[] #[]] w fun e w' => ∃ ao' cap' gs, e = .returned (.tuple #[.slice ao' n cap', .int .i64 0]) ∧ Below w.heap.size w w' ∧ Grid (from_ w.heap.size) w' ao' n cap' gs (mix2 max a b n 0) := by
  subst hnm
  have HP : Hid (∀ wx, Below w.heap.size w wx → Calls Try.prog 72 #[.slice ao m cap, .slice bo m bcap] wx fun e w' => e = .returned (.int .i64 0) ∧ Below wx.heap.size wx w') := fun wx hb => by
    rw [← hE]; exact pair_any F G ao m cap a bo m bcap b wx (hA.below lineF_firm hb) (hB.below lineF_firm hb)
  have SA := Lib.hid hsa
  have SB := Lib.hid hsb
  have hn' : (m : Int) ≤ 12 := by omega
  clear hE hsa hsb
  go_enter Try.func50, Try.ntmps50
  go_wp2_with fail
  refine (HP.out _ (by repeat (first | exact Below.refl _ _ | assumption | refine below_step ?_ (by assumption) | refine below_step ?_ (Joins.below_draws _ _ _) | (refine Below.alloc ?_ (by first | omega | (simp; done) | (simp; omega)) _) | (refine Below.setCell ?_ (by first | omega | (simp; done) | (simp; omega)) _) | refine Below.drew ?_))).mono ?_
  rintro e w1 ⟨rfl, hb1⟩
  go_wp2_with fail
  refine (own_any F ao m cap a _ (hA.below lineF_firm hb1) h12 SA.out).mono ?_
  rintro e w2 ⟨ao2, cap2, gs, rfl, hb2, hG0⟩
  have hw2 : Below w.heap.size w w2 := (by repeat (first | exact Below.refl _ _ | assumption | refine below_step ?_ (by assumption) | refine below_step ?_ (Joins.below_draws _ _ _) | (refine Below.alloc ?_ (by first | omega | (simp; done) | (simp; omega)) _) | (refine Below.setCell ?_ (by first | omega | (simp; done) | (simp; omega)) _) | refine Below.drew ?_))
  have G0 : Hid (Grid (from_ w.heap.size) w2 ao2 m cap2 gs (mix2 max a b 0 0)) := by
    rw [mix2_start]
    exact hG0.same (Same.wide fun b hb _ => Nat.le_trans hb1.size hb)
  clear hG0
  go_wp2_with fail
  go_loopw [22] (fun i wr => ∃ k : Nat, k ≤ m ∧ i = .int .i64 k ∧ Below w.heap.size w wr ∧ Hid (Grid (from_ w.heap.size) wr ao2 m cap2 gs (mix2 max a b k 0))) (fun i _ => m - (intOf i).toNat)
  case atStart => exact ⟨0, by omega, rfl, hw2, G0⟩
  case round =>
    obtain ⟨k, hk, rfl, hbr, GR⟩ := hrel
    clear G0 hw2
    by_cases hlt : k < m
    · have hk1 : (k : Int) < m := by omega
      obtain ⟨A, rc, hAlt, hglt, hF, hne, h1, h2, hix, hcell, hent⟩ := GR.out.at hlt
      obtain ⟨wo, rfl⟩ : ∃ wo : World, wo = wr := ⟨_, rfl⟩
      go_wp2_with fail
      clear hcell hent hix
      go_loopw [30] (fun j wr => ∃ q : Nat, q ≤ m ∧ j = .int .i64 q ∧ Below w.heap.size w wr ∧ Hid (Grid (from_ w.heap.size) wr ao2 m cap2 gs (mix2 max a b k q))) (fun j _ => m - (intOf j).toNat)
      case atStart => exact ⟨0, by omega, rfl, hbr, GR⟩
      case round =>
        obtain ⟨q, hq, rfl, hbi, GI⟩ := hrel
        clear GR hbr
        by_cases hqm : q < m
        · have hq1 : (q : Int) < m := by omega
          obtain ⟨A, rc, hAlt, hglt, hF, hne, h1, h2, hix, hcell, hent⟩ := GI.out.at hlt
          obtain ⟨he1, he2, he3⟩ := hent q hqm
          obtain ⟨Aa, oa, ra, rca, hAa, hixa, hca, hra⟩ := line_at (hA.below lineF_firm hbi) SA.out hlt
          obtain ⟨Ba, pa, hBa, hea, hixa2⟩ := hra q hqm
          obtain ⟨Ab, ob, rb, rcb, hAb, hixb, hcb, hrb⟩ := line_at (hB.below lineF_firm hbi) SB.out hlt
          obtain ⟨Bb, pb, hBb, heb, hixb2⟩ := hrb q hqm
          have GS := Lib.hid ((GI.out.same (Same.drew)).store hlt hqm (max (at2 a k q) (at2 b k q)))
          rw [mix2_put] at GS
          have hbS : Below w.heap.size w ((wr.drew).setCell ⟨gs k, q, none⟩ (.int .i64 (max (at2 a k q) (at2 b k q)))) := hbi.drew.setCell (p := ⟨gs k, q, none⟩) hF _
          clear hent hra hrb
          go_wp2_with fail
          go_still_tail 22, (by kernel_rfl)
          still_call ((max_any _ _ _).mono fun e w' h => ⟨h.1, h.2.symm⟩)
          repeat still_step
          refine wpStill_nil ?_
          change wpList _ _ _ _ _ wr.drew
          go_wp2
          go_roundw
          case rel => exact ⟨q + 1, by omega, by go_num, hbS, GS⟩
          case measure => simp [intOf]; omega
        · obtain rfl : q = m := by omega
          have GN : Hid (Grid (from_ w.heap.size) wr ao2 q cap2 gs (mix2 max a b (k + 1) 0)) := GI.out.congr (mix2_row _ _ _ _ _)
          clear GI
          go_wp2
          go_roundw
          case rel => exact ⟨k + 1, by omega, by go_num, hbi, GN⟩
          case measure => simp [intOf]; omega
    · obtain rfl : k = m := by omega
      go_wp2
      go_ret2
      exact ⟨ao2, cap2, gs, rfl, hbr, GR.out⟩
set_option maxHeartbeats 1000000 in
theorem join_bad (F G : Nat → Prop) (ao : Option Addr) (n cap : Nat) (a : List (List Int)) (bo : Option Addr) (m bcap : Nat) (b : List (List Int)) (f : Value) (w : World) (hA : SlF F w 1 lineF ao n cap a) (hB : SlF G w 1 lineF bo m bcap b) (hE : pairE a b ≠ 0) :
    Calls Try.prog 50 #[.slice ao n cap, .slice bo m bcap, f] w fun e w' => e = .returned (.tuple #[.slice none 0 0, .int .i64 (pairE a b)]) ∧ Below w.heap.size w w' := by
  have hq : (pairE a b != 0) = true := by simpa using hE
  have HP : Hid (∀ wx, Below w.heap.size w wx → Calls Try.prog 72 #[.slice ao n cap, .slice bo m bcap] wx fun e w' => e = .returned (.int .i64 (pairE a b)) ∧ Below wx.heap.size wx w') := fun wx hb => pair_any F G ao n cap a bo m bcap b wx (hA.below lineF_firm hb) (hB.below lineF_firm hb)
  clear hE
  go_enter Try.func50, Try.ntmps50
  go_wp2_with fail
  refine (HP.out _ (by repeat (first | exact Below.refl _ _ | assumption | refine below_step ?_ (by assumption) | refine below_step ?_ (Joins.below_draws _ _ _) | (refine Below.alloc ?_ (by first | omega | (simp; done) | (simp; omega)) _) | (refine Below.setCell ?_ (by first | omega | (simp; done) | (simp; omega)) _) | refine Below.drew ?_))).mono ?_
  rintro e w1 ⟨rfl, hb1⟩
  go_wp2
  go_ret2
  exact ⟨rfl, (by repeat (first | exact Below.refl _ _ | assumption | refine below_step ?_ (by assumption) | refine below_step ?_ (Joins.below_draws _ _ _) | (refine Below.alloc ?_ (by first | omega | (simp; done) | (simp; omega)) _) | (refine Below.setCell ?_ (by first | omega | (simp; done) | (simp; omega)) _) | refine Below.drew ?_))⟩
theorem pairE_good {a b : List (List Int)} (h : pairE a b = 0) : a.length ≤ 12 ∧ (∀ i, i < a.length → (a.getD i []).length = a.length) ∧ (∀ i, i < b.length → (b.getD i []).length = b.length) ∧ a.length = b.length := by
  unfold pairE at h
  by_cases h1 : matE a = 0
  · by_cases h2 : matE b = 0
    · by_cases h3 : a.length = b.length
      · exact ⟨(matE_square h1).1, (matE_square h1).2, (matE_square h2).2, h3⟩
      · simp [h1, h2, h3] at h
    · simp [h1, h2] at h
  · simp [h1] at h

/-- What two matrices joined are: bound by bound. -/
def joinM (op : Int → Int → Int) (a b : List (List Int)) : List (List Int) := if pairE a b = 0 then gridL a.length (fun r c => op (at2 a r c) (at2 b r c)) else []
set_option maxHeartbeats 1000000 in
theorem both_any (F G : Nat → Prop) (ao : Option Addr) (n cap : Nat) (a : List (List Int)) (bo : Option Addr) (m bcap : Nat) (b : List (List Int)) (w : World) (hA : SlF F w 1 lineF ao n cap a) (hB : SlF G w 1 lineF bo m bcap b) :
    Calls Try.prog 26 #[.slice ao n cap, .slice bo m bcap] w fun e w' => ∃ ao' n' cap', e = .returned (.tuple #[.slice ao' n' cap', .int .i64 (pairE a b)]) ∧ Below w.heap.size w w' ∧ SlF (from_ w.heap.size) w' 1 lineF ao' n' cap' (joinM min a b) := by
  by_cases h : pairE a b = 0
  · obtain ⟨h1, h2, h3, h4⟩ := pairE_good h
    have hn := hA.len
    have hm := hB.len
    have HJ := Lib.hid (joinMin_good F G ao n cap a bo m bcap b w hA hB h h2 h3 (by omega) (by omega))
    have H := Lib.hid h
    have N := Lib.hid hn
    clear h h2 h3 h4 hn hm
    go_enter Try.func26, Try.ntmps26
    go_wp2_with (go_at_call 50; refine HJ.out.mono ?_; rintro e w1 ⟨ao1, cap1, gs, rfl, hb1, hG⟩)
    go_ret2
    have hS := hG.toF (by have := N.out; omega)
    rw [gridL_congr (mix2_end min a b n)] at hS
    refine ⟨ao1, n, cap1, by rw [H.out]; rfl, hb1, ?_⟩
    unfold joinM
    rw [if_pos H.out, ← N.out]
    exact hS
  · have HJ := Lib.hid (join_bad F G ao n cap a bo m bcap b (.func (.func 51) #[] #[]) w hA hB h)
    have H := Lib.hid h
    clear h
    go_enter Try.func26, Try.ntmps26
    go_wp2_with (go_at_call 50; refine HJ.out.mono ?_; rintro e w1 ⟨rfl, hb1⟩)
    go_ret2
    refine ⟨none, 0, 0, rfl, hb1, ?_⟩
    unfold joinM
    rw [if_neg H.out]
    exact SlF.nil
set_option maxHeartbeats 1000000 in
theorem either_any (F G : Nat → Prop) (ao : Option Addr) (n cap : Nat) (a : List (List Int)) (bo : Option Addr) (m bcap : Nat) (b : List (List Int)) (w : World) (hA : SlF F w 1 lineF ao n cap a) (hB : SlF G w 1 lineF bo m bcap b) :
    Calls Try.prog 28 #[.slice ao n cap, .slice bo m bcap] w fun e w' => ∃ ao' n' cap', e = .returned (.tuple #[.slice ao' n' cap', .int .i64 (pairE a b)]) ∧ Below w.heap.size w w' ∧ SlF (from_ w.heap.size) w' 1 lineF ao' n' cap' (joinM max a b) := by
  by_cases h : pairE a b = 0
  · obtain ⟨h1, h2, h3, h4⟩ := pairE_good h
    have hn := hA.len
    have hm := hB.len
    have HJ := Lib.hid (joinMax_good F G ao n cap a bo m bcap b w hA hB h h2 h3 (by omega) (by omega))
    have H := Lib.hid h
    have N := Lib.hid hn
    clear h h2 h3 h4 hn hm
    go_enter Try.func28, Try.ntmps28
    go_wp2_with (go_at_call 50; refine HJ.out.mono ?_; rintro e w1 ⟨ao1, cap1, gs, rfl, hb1, hG⟩)
    go_ret2
    have hS := hG.toF (by have := N.out; omega)
    rw [gridL_congr (mix2_end max a b n)] at hS
    refine ⟨ao1, n, cap1, by rw [H.out]; rfl, hb1, ?_⟩
    unfold joinM
    rw [if_pos H.out, ← N.out]
    exact hS
  · have HJ := Lib.hid (join_bad F G ao n cap a bo m bcap b (.func (.func 53) #[] #[]) w hA hB h)
    have H := Lib.hid h
    clear h
    go_enter Try.func28, Try.ntmps28
    go_wp2_with (go_at_call 50; refine HJ.out.mono ?_; rintro e w1 ⟨rfl, hb1⟩)
    go_ret2
    refine ⟨none, 0, 0, rfl, hb1, ?_⟩
    unfold joinM
    rw [if_neg H.out]
    exact SlF.nil
end Go.Proofs.Ytipemoajdphdfaa
