/-
  The walks of package bound and its reference, eleventh part: two matrices merged.
-/
import Derived.Test.YtipemoajdphdfaaBndS
namespace Go.Proofs.Ytipemoajdphdfaa
open Go.RowKit
set_option linter.unusedVariables false
set_option linter.unusedSimpArgs false

set_option maxHeartbeats 4000000 in
set_option maxRecDepth 100000 in
theorem mergedMin_good (F G : Nat → Prop) (ao : Option Addr) (n cap : Nat) (a : List (List Int)) (bo : Option Addr) (m bcap : Nat) (b : List (List Int)) (w : World) (hA : SlF F w 1 lineF ao n cap a) (hB : SlF G w 1 lineF bo m bcap b) (hE : pairE a b = 0) (hsa : ∀ i, i < a.length → (a.getD i []).length = a.length) (hsb : ∀ i, i < b.length → (b.getD i []).length = b.length) (h12 : n ≤ 12) (hnm : m = n) :
    Calls Try.prog 52 #[.slice ao n cap, .slice bo m bcap, .bool true] w fun e w' => ∃ ao' cap' gs, e = .returned (.tuple #[.slice ao' n cap', .int .i64 0]) ∧ Below w.heap.size w w' ∧ Grid (from_ w.heap.size) w' ao' n cap' gs (mix2 min a b n 0) := by
  subst hnm
  have hea : matE a = 0 := by unfold pairE at hE; by_cases h : matE a = 0; exact h; simp [h] at hE
  have heb : matE b = 0 := by unfold pairE at hE; by_cases h : matE b = 0; exact h; simp [hea, h] at hE
  have HP : Hid (∀ wx, Below w.heap.size w wx → Calls Try.prog 16 #[.slice ao m cap] wx fun e w' => e = .returned (.int .i64 0) ∧ Below wx.heap.size wx w') := fun wx hb => by
    rw [← hea]; exact matFault_any ao m cap a wx (mat_old (hA.below lineF_firm hb))
  have HQ : Hid (∀ wx, Below w.heap.size w wx → Calls Try.prog 16 #[.slice bo m bcap] wx fun e w' => e = .returned (.int .i64 0) ∧ Below wx.heap.size wx w') := fun wx hb => by
    rw [← heb]; exact matFault_any bo m bcap b wx (mat_old (hB.below lineF_firm hb))
  have SA := Lib.hid hsa
  have SB := Lib.hid hsb
  have hn' : (m : Int) ≤ 12 := by omega
  clear hE hsa hsb hea heb
  go_enter Try.func52, Try.ntmps52
  go_wp2_with fail
  refine (HP.out _ (by repeat (first | exact Below.refl _ _ | assumption | refine below_step ?_ (by assumption) | refine below_step ?_ (Joins.below_draws _ _ _) | (refine Below.alloc ?_ (by first | omega | (simp; done) | (simp; omega)) _) | (refine Below.setCell ?_ (by first | omega | (simp; done) | (simp; omega)) _) | refine Below.drew ?_))).mono ?_
  rintro e w1 ⟨rfl, hb1⟩
  go_wp2_with fail
  refine (HQ.out _ (by repeat (first | exact Below.refl _ _ | assumption | refine below_step ?_ (by assumption) | refine below_step ?_ (Joins.below_draws _ _ _) | (refine Below.alloc ?_ (by first | omega | (simp; done) | (simp; omega)) _) | (refine Below.setCell ?_ (by first | omega | (simp; done) | (simp; omega)) _) | refine Below.drew ?_))).mono ?_
  rintro e w1' ⟨rfl, hb1'⟩
  go_wp2_with fail
  refine (matGrid_any F ao m cap a _ (hA.below lineF_firm (by repeat (first | exact Below.refl _ _ | assumption | refine below_step ?_ (by assumption) | refine below_step ?_ (Joins.below_draws _ _ _) | (refine Below.alloc ?_ (by first | omega | (simp; done) | (simp; omega)) _) | (refine Below.setCell ?_ (by first | omega | (simp; done) | (simp; omega)) _) | refine Below.drew ?_))) h12 SA.out).mono ?_
  rintro e w2 ⟨ao2, cap2, gs, rfl, hb2, hG0⟩
  have hw2 : Below w.heap.size w w2 := (by repeat (first | exact Below.refl _ _ | assumption | refine below_step ?_ (by assumption) | refine below_step ?_ (Joins.below_draws _ _ _) | (refine Below.alloc ?_ (by first | omega | (simp; done) | (simp; omega)) _) | (refine Below.setCell ?_ (by first | omega | (simp; done) | (simp; omega)) _) | refine Below.drew ?_))
  have hs1 := hb1.size
  have hs1' := hb1'.size
  have G0 : Hid (Grid (from_ w.heap.size) w2 ao2 m cap2 gs (mix2 min a b 0 0)) := by
    rw [mix2_start]
    exact hG0.same (Same.wide fun b hb _ => Nat.le_trans (Nat.le_trans hs1 hs1') hb)
  clear hG0
  go_wp2_with fail
  go_loopw [10, 11] (fun i _ wr => ∃ k : Nat, k ≤ m ∧ i = .int .i64 k ∧ Below w.heap.size w wr ∧ Hid (Grid (from_ w.heap.size) wr ao2 m cap2 gs (mix2 min a b k 0))) (fun i _ _ => m - (intOf i).toNat)
  case atStart => exact ⟨0, by omega, rfl, hw2, G0⟩
  case round =>
    obtain ⟨k, hk, rfl, hbr, GR⟩ := hrel
    clear G0 hw2
    by_cases hlt : k < m
    · have hk1 : (k : Int) < m := by omega
      obtain ⟨wo, rfl⟩ : ∃ wo : World, wo = wr := ⟨_, rfl⟩
      go_wp2_with fail
      go_loopw [11] (fun j wr => ∃ q : Nat, q ≤ m ∧ j = .int .i64 q ∧ Below w.heap.size w wr ∧ Hid (Grid (from_ w.heap.size) wr ao2 m cap2 gs (mix2 min a b k q))) (fun j _ => m - (intOf j).toNat)
      case atStart => exact ⟨0, by omega, rfl, hbr, GR⟩
      case round =>
        obtain ⟨q, hq, rfl, hbi, GI⟩ := hrel
        clear GR hbr
        by_cases hqm : q < m
        · have hq1 : (q : Int) < m := by omega
          obtain ⟨A, rc, hAlt, hglt, hF, hne, h1, h2, hix, hcell, hent⟩ := GI.out.at hlt
          obtain ⟨he1, he2, he3⟩ := hent q hqm
          obtain ⟨Aa, oa, ra, rca, hAa, hixa, hca, hra⟩ := line_at (hA.below lineF_firm hbi) SA.out hlt
          obtain ⟨Ba, pa, hBa, hea, hixa2⟩ := hra q hqm
          obtain ⟨Ab, ob, rb, rcb, hAb, hixb, hcb, hrb⟩ := line_at (hB.below lineF_firm hbi) SB.out hlt
          obtain ⟨Bb, pb, hBb, heb, hixb2⟩ := hrb q hqm
          by_cases hba : at2 b k q < at2 a k q
          · have hd : decide (at2 b k q < at2 a k q) = true := by simpa using hba
            clear hent hra hrb
            go_wp2_with fail
            go_quiet (fail)
            have hbx : Below w.heap.size w (wr.drewN nq) := hbi.trans (Joins.below_draws _ _ _)
            have GX : Hid (Grid (from_ w.heap.size) (wr.drewN nq) ao2 m cap2 gs (mix2 min a b k q)) := GI.out.below (Joins.below_draws _ _ _)
            clear he1 he2 he3 hix hcell hixa hca hea hixa2 hixb hcb heb hixb2 GI hbi hAa hBa hAb hBb hAlt hglt hF hne h1 h2
            generalize wr.drewN nq = wx at hbx GX ⊢
            obtain ⟨A, rc, hAlt, hglt, hF, hne, h1, h2, hix, hcell, hent⟩ := GX.out.at hlt
            obtain ⟨he1, he2, he3⟩ := hent q hqm
            obtain ⟨Ab, ob, rb, rcb, hAb, hixb, hcb, hrb⟩ := line_at (hB.below lineF_firm hbx) SB.out hlt
            obtain ⟨Bb, pb, hBb, heb, hixb2⟩ := hrb q hqm
            have GS := Lib.hid ((GX.out.same Same.drew).store hlt hqm (at2 b k q))
            have hop : at2 b k q = min (at2 a k q) (at2 b k q) := by omega
            rw [hop, mix2_put, ← hop] at GS
            have hbS : Below w.heap.size w ((wx.drew).setCell ⟨gs k, q, none⟩ (.int .i64 (at2 b k q))) := hbx.drew.setCell (p := ⟨gs k, q, none⟩) hF _
            clear hent hrb hop
            go_wp2_with fail
            go_still_tail 13, (by kernel_rfl)
            change wpList _ _ _ _ _ wx.drew
            go_wp2
            go_roundw
            case rel => exact ⟨q + 1, by omega, by go_num, hbS, GS⟩
            case measure => simp [intOf]; omega
          · have hd : decide (at2 b k q < at2 a k q) = false := by simpa using hba
            have hop : min (at2 a k q) (at2 b k q) = at2 a k q := by omega
            have GS : ∀ nq, Grid (from_ w.heap.size) (wr.drewN nq) ao2 m cap2 gs (mix2 min a b k (q + 1)) := fun nq => by
              rw [← mix2_keep _ _ _ _ _ hop]
              exact GI.out.below (Joins.below_draws _ _ _)
            have HS := Lib.hid GS
            clear hent hra hrb hop GS
            go_wp2_with fail
            go_quiet (fail)
            go_wp2
            go_roundw
            case rel => exact ⟨q + 1, by omega, by go_num, hbi.trans (Joins.below_draws _ _ _), HS.out _⟩
            case measure => simp [intOf]; omega
        · obtain rfl : q = m := by omega
          have GN : Hid (Grid (from_ w.heap.size) wr ao2 q cap2 gs (mix2 min a b (k + 1) 0)) := GI.out.congr (mix2_row _ _ _ _ _)
          clear GI
          go_wp2
          go_roundw
          case rel => exact ⟨k + 1, by omega, by go_num, hbi, GN⟩
          case measure => simp [intOf]; omega
    · obtain rfl : k = m := by omega
      go_wp2
      go_ret2
      exact ⟨ao2, cap2, gs, rfl, hbr, GR.out⟩
set_option maxHeartbeats 4000000 in
set_option maxRecDepth 100000 in
theorem mergedMax_good (F G : Nat → Prop) (ao : Option Addr) (n cap : Nat) (a : List (List Int)) (bo : Option Addr) (m bcap : Nat) (b : List (List Int)) (w : World) (hA : SlF F w 1 lineF ao n cap a) (hB : SlF G w 1 lineF bo m bcap b) (hE : pairE a b = 0) (hsa : ∀ i, i < a.length → (a.getD i []).length = a.length) (hsb : ∀ i, i < b.length → (b.getD i []).length = b.length) (h12 : n ≤ 12) (hnm : m = n) :
    Calls Try.prog 52 #[.slice ao n cap, .slice bo m bcap, .bool false] w fun e w' => ∃ ao' cap' gs, e = .returned (.tuple #[.slice ao' n cap', .int .i64 0]) ∧ Below w.heap.size w w' ∧ Grid (from_ w.heap.size) w' ao' n cap' gs (mix2 max a b n 0) := by
  subst hnm
  have hea : matE a = 0 := by unfold pairE at hE; by_cases h : matE a = 0; exact h; simp [h] at hE
  have heb : matE b = 0 := by unfold pairE at hE; by_cases h : matE b = 0; exact h; simp [hea, h] at hE
  have HP : Hid (∀ wx, Below w.heap.size w wx → Calls Try.prog 16 #[.slice ao m cap] wx fun e w' => e = .returned (.int .i64 0) ∧ Below wx.heap.size wx w') := fun wx hb => by
    rw [← hea]; exact matFault_any ao m cap a wx (mat_old (hA.below lineF_firm hb))
  have HQ : Hid (∀ wx, Below w.heap.size w wx → Calls Try.prog 16 #[.slice bo m bcap] wx fun e w' => e = .returned (.int .i64 0) ∧ Below wx.heap.size wx w') := fun wx hb => by
    rw [← heb]; exact matFault_any bo m bcap b wx (mat_old (hB.below lineF_firm hb))
  have SA := Lib.hid hsa
  have SB := Lib.hid hsb
  have hn' : (m : Int) ≤ 12 := by omega
  clear hE hsa hsb hea heb
  go_enter Try.func52, Try.ntmps52
  go_wp2_with fail
  refine (HP.out _ (by repeat (first | exact Below.refl _ _ | assumption | refine below_step ?_ (by assumption) | refine below_step ?_ (Joins.below_draws _ _ _) | (refine Below.alloc ?_ (by first | omega | (simp; done) | (simp; omega)) _) | (refine Below.setCell ?_ (by first | omega | (simp; done) | (simp; omega)) _) | refine Below.drew ?_))).mono ?_
  rintro e w1 ⟨rfl, hb1⟩
  go_wp2_with fail
  refine (HQ.out _ (by repeat (first | exact Below.refl _ _ | assumption | refine below_step ?_ (by assumption) | refine below_step ?_ (Joins.below_draws _ _ _) | (refine Below.alloc ?_ (by first | omega | (simp; done) | (simp; omega)) _) | (refine Below.setCell ?_ (by first | omega | (simp; done) | (simp; omega)) _) | refine Below.drew ?_))).mono ?_
  rintro e w1' ⟨rfl, hb1'⟩
  go_wp2_with fail
  refine (matGrid_any F ao m cap a _ (hA.below lineF_firm (by repeat (first | exact Below.refl _ _ | assumption | refine below_step ?_ (by assumption) | refine below_step ?_ (Joins.below_draws _ _ _) | (refine Below.alloc ?_ (by first | omega | (simp; done) | (simp; omega)) _) | (refine Below.setCell ?_ (by first | omega | (simp; done) | (simp; omega)) _) | refine Below.drew ?_))) h12 SA.out).mono ?_
  rintro e w2 ⟨ao2, cap2, gs, rfl, hb2, hG0⟩
  have hw2 : Below w.heap.size w w2 := (by repeat (first | exact Below.refl _ _ | assumption | refine below_step ?_ (by assumption) | refine below_step ?_ (Joins.below_draws _ _ _) | (refine Below.alloc ?_ (by first | omega | (simp; done) | (simp; omega)) _) | (refine Below.setCell ?_ (by first | omega | (simp; done) | (simp; omega)) _) | refine Below.drew ?_))
  have hs1 := hb1.size
  have hs1' := hb1'.size
  have G0 : Hid (Grid (from_ w.heap.size) w2 ao2 m cap2 gs (mix2 max a b 0 0)) := by
    rw [mix2_start]
    exact hG0.same (Same.wide fun b hb _ => Nat.le_trans (Nat.le_trans hs1 hs1') hb)
  clear hG0
  go_wp2_with fail
  go_loopw [10, 11] (fun i _ wr => ∃ k : Nat, k ≤ m ∧ i = .int .i64 k ∧ Below w.heap.size w wr ∧ Hid (Grid (from_ w.heap.size) wr ao2 m cap2 gs (mix2 max a b k 0))) (fun i _ _ => m - (intOf i).toNat)
  case atStart => exact ⟨0, by omega, rfl, hw2, G0⟩
  case round =>
    obtain ⟨k, hk, rfl, hbr, GR⟩ := hrel
    clear G0 hw2
    by_cases hlt : k < m
    · have hk1 : (k : Int) < m := by omega
      obtain ⟨wo, rfl⟩ : ∃ wo : World, wo = wr := ⟨_, rfl⟩
      go_wp2_with fail
      go_loopw [11] (fun j wr => ∃ q : Nat, q ≤ m ∧ j = .int .i64 q ∧ Below w.heap.size w wr ∧ Hid (Grid (from_ w.heap.size) wr ao2 m cap2 gs (mix2 max a b k q))) (fun j _ => m - (intOf j).toNat)
      case atStart => exact ⟨0, by omega, rfl, hbr, GR⟩
      case round =>
        obtain ⟨q, hq, rfl, hbi, GI⟩ := hrel
        clear GR hbr
        by_cases hqm : q < m
        · have hq1 : (q : Int) < m := by omega
          obtain ⟨A, rc, hAlt, hglt, hF, hne, h1, h2, hix, hcell, hent⟩ := GI.out.at hlt
          obtain ⟨he1, he2, he3⟩ := hent q hqm
          obtain ⟨Aa, oa, ra, rca, hAa, hixa, hca, hra⟩ := line_at (hA.below lineF_firm hbi) SA.out hlt
          obtain ⟨Ba, pa, hBa, hea, hixa2⟩ := hra q hqm
          obtain ⟨Ab, ob, rb, rcb, hAb, hixb, hcb, hrb⟩ := line_at (hB.below lineF_firm hbi) SB.out hlt
          obtain ⟨Bb, pb, hBb, heb, hixb2⟩ := hrb q hqm
          by_cases hba : at2 b k q < at2 a k q
          · have hd : decide (at2 b k q < at2 a k q) = true := by simpa using hba
            have hop : max (at2 a k q) (at2 b k q) = at2 a k q := by omega
            have GS : ∀ nq, Grid (from_ w.heap.size) (wr.drewN nq) ao2 m cap2 gs (mix2 max a b k (q + 1)) := fun nq => by
              rw [← mix2_keep _ _ _ _ _ hop]
              exact GI.out.below (Joins.below_draws _ _ _)
            have HS := Lib.hid GS
            clear hent hra hrb hop GS
            go_wp2_with fail
            go_quiet (fail)
            go_wp2
            go_roundw
            case rel => exact ⟨q + 1, by omega, by go_num, hbi.trans (Joins.below_draws _ _ _), HS.out _⟩
            case measure => simp [intOf]; omega
          · have hd : decide (at2 b k q < at2 a k q) = false := by simpa using hba
            clear hent hra hrb
            go_wp2_with fail
            go_quiet (fail)
            have hbx : Below w.heap.size w (wr.drewN nq) := hbi.trans (Joins.below_draws _ _ _)
            have GX : Hid (Grid (from_ w.heap.size) (wr.drewN nq) ao2 m cap2 gs (mix2 max a b k q)) := GI.out.below (Joins.below_draws _ _ _)
            clear he1 he2 he3 hix hcell hixa hca hea hixa2 hixb hcb heb hixb2 GI hbi hAa hBa hAb hBb hAlt hglt hF hne h1 h2
            generalize wr.drewN nq = wx at hbx GX ⊢
            obtain ⟨A, rc, hAlt, hglt, hF, hne, h1, h2, hix, hcell, hent⟩ := GX.out.at hlt
            obtain ⟨he1, he2, he3⟩ := hent q hqm
            obtain ⟨Ab, ob, rb, rcb, hAb, hixb, hcb, hrb⟩ := line_at (hB.below lineF_firm hbx) SB.out hlt
            obtain ⟨Bb, pb, hBb, heb, hixb2⟩ := hrb q hqm
            have GS := Lib.hid ((GX.out.same Same.drew).store hlt hqm (at2 b k q))
            have hop : at2 b k q = max (at2 a k q) (at2 b k q) := by omega
            rw [hop, mix2_put, ← hop] at GS
            have hbS : Below w.heap.size w ((wx.drew).setCell ⟨gs k, q, none⟩ (.int .i64 (at2 b k q))) := hbx.drew.setCell (p := ⟨gs k, q, none⟩) hF _
            clear hent hrb hop
            go_wp2_with fail
            go_still_tail 13, (by kernel_rfl)
            change wpList _ _ _ _ _ wx.drew
            go_wp2
            go_roundw
            case rel => exact ⟨q + 1, by omega, by go_num, hbS, GS⟩
            case measure => simp [intOf]; omega
        · obtain rfl : q = m := by omega
          have GN : Hid (Grid (from_ w.heap.size) wr ao2 q cap2 gs (mix2 max a b (k + 1) 0)) := GI.out.congr (mix2_row _ _ _ _ _)
          clear GI
          go_wp2
          go_roundw
          case rel => exact ⟨k + 1, by omega, by go_num, hbi, GN⟩
          case measure => simp [intOf]; omega
    · obtain rfl : k = m := by omega
      go_wp2
      go_ret2
      exact ⟨ao2, cap2, gs, rfl, hbr, GR.out⟩
set_option maxHeartbeats 1000000 in
theorem merged_bad (F G : Nat → Prop) (ao : Option Addr) (n cap : Nat) (a : List (List Int)) (bo : Option Addr) (m bcap : Nat) (b : List (List Int)) (l : Bool) (w : World) (hA : SlF F w 1 lineF ao n cap a) (hB : SlF G w 1 lineF bo m bcap b) (hE : pairE a b ≠ 0) :
    Calls Try.prog 52 #[.slice ao n cap, .slice bo m bcap, .bool l] w fun e w' => e = .returned (.tuple #[.slice none 0 0, .int .i64 (pairE a b)]) ∧ Below w.heap.size w w' := by
  have HA : Hid (∀ wx, Below w.heap.size w wx → Calls Try.prog 16 #[.slice ao n cap] wx fun e w' => e = .returned (.int .i64 (matE a)) ∧ Below wx.heap.size wx w') := fun wx hb => matFault_any ao n cap a wx (mat_old (hA.below lineF_firm hb))
  have HB : Hid (∀ wx, Below w.heap.size w wx → Calls Try.prog 16 #[.slice bo m bcap] wx fun e w' => e = .returned (.int .i64 (matE b)) ∧ Below wx.heap.size wx w') := fun wx hb => matFault_any bo m bcap b wx (mat_old (hB.below lineF_firm hb))
  have NA : Hid (n = a.length) := hA.len
  have NB : Hid (m = b.length) := hB.len
  by_cases ha : matE a = 0
  · have HA0 : Hid (∀ wx, Below w.heap.size w wx → Calls Try.prog 16 #[.slice ao n cap] wx fun e w' => e = .returned (.int .i64 0) ∧ Below wx.heap.size wx w') := by rw [← ha]; exact HA
    by_cases hb : matE b = 0
    · have HB0 : Hid (∀ wx, Below w.heap.size w wx → Calls Try.prog 16 #[.slice bo m bcap] wx fun e w' => e = .returned (.int .i64 0) ∧ Below wx.heap.size wx w') := by rw [← hb]; exact HB
      have hl : ¬ a.length = b.length := fun e => hE (by simp [pairE, ha, hb, e])
      have hP : Hid (pairE a b = 4) := by show _ = _; simp [pairE, ha, hb, hl]
      have hq : ((n : Int) != (m : Int)) = true := by have := NA.out; have := NB.out; simp; omega
      clear hE ha hb hl HA HB
      go_enter Try.func52, Try.ntmps52
      go_wp2_with fail
      refine (HA0.out _ (by repeat (first | exact Below.refl _ _ | assumption | refine below_step ?_ (by assumption) | refine below_step ?_ (Joins.below_draws _ _ _) | (refine Below.alloc ?_ (by first | omega | (simp; done) | (simp; omega)) _) | (refine Below.setCell ?_ (by first | omega | (simp; done) | (simp; omega)) _) | refine Below.drew ?_))).mono ?_
      rintro e w1 ⟨rfl, hb1⟩
      go_wp2_with fail
      refine (HB0.out _ (by repeat (first | exact Below.refl _ _ | assumption | refine below_step ?_ (by assumption) | refine below_step ?_ (Joins.below_draws _ _ _) | (refine Below.alloc ?_ (by first | omega | (simp; done) | (simp; omega)) _) | (refine Below.setCell ?_ (by first | omega | (simp; done) | (simp; omega)) _) | refine Below.drew ?_))).mono ?_
      rintro e w2 ⟨rfl, hb2⟩
      go_wp2
      go_ret2
      exact ⟨by rw [hP.out]; rfl, (by repeat (first | exact Below.refl _ _ | assumption | refine below_step ?_ (by assumption) | refine below_step ?_ (Joins.below_draws _ _ _) | (refine Below.alloc ?_ (by first | omega | (simp; done) | (simp; omega)) _) | (refine Below.setCell ?_ (by first | omega | (simp; done) | (simp; omega)) _) | refine Below.drew ?_))⟩
    · have hP : Hid (pairE a b = matE b) := by show _ = _; simp [pairE, ha, hb]
      have hq : (matE b != 0) = true := by simpa using hb
      have hq2 : (matE b == 0) = false := by simpa using hb
      clear hE ha hb HA
      go_enter Try.func52, Try.ntmps52
      go_wp2_with fail
      refine (HA0.out _ (by repeat (first | exact Below.refl _ _ | assumption | refine below_step ?_ (by assumption) | refine below_step ?_ (Joins.below_draws _ _ _) | (refine Below.alloc ?_ (by first | omega | (simp; done) | (simp; omega)) _) | (refine Below.setCell ?_ (by first | omega | (simp; done) | (simp; omega)) _) | refine Below.drew ?_))).mono ?_
      rintro e w1 ⟨rfl, hb1⟩
      go_wp2_with fail
      refine (HB.out _ (by repeat (first | exact Below.refl _ _ | assumption | refine below_step ?_ (by assumption) | refine below_step ?_ (Joins.below_draws _ _ _) | (refine Below.alloc ?_ (by first | omega | (simp; done) | (simp; omega)) _) | (refine Below.setCell ?_ (by first | omega | (simp; done) | (simp; omega)) _) | refine Below.drew ?_))).mono ?_
      rintro e w2 ⟨rfl, hb2⟩
      go_wp2
      go_ret2
      exact ⟨by rw [hP.out]; rfl, (by repeat (first | exact Below.refl _ _ | assumption | refine below_step ?_ (by assumption) | refine below_step ?_ (Joins.below_draws _ _ _) | (refine Below.alloc ?_ (by first | omega | (simp; done) | (simp; omega)) _) | (refine Below.setCell ?_ (by first | omega | (simp; done) | (simp; omega)) _) | refine Below.drew ?_))⟩
  · have hP : Hid (pairE a b = matE a) := by show _ = _; simp [pairE, ha]
    have hq : (matE a != 0) = true := by simpa using ha
    have hq2 : (matE a == 0) = false := by simpa using ha
    clear hE ha
    go_enter Try.func52, Try.ntmps52
    go_wp2_with fail
    refine (HA.out _ (by repeat (first | exact Below.refl _ _ | assumption | refine below_step ?_ (by assumption) | refine below_step ?_ (Joins.below_draws _ _ _) | (refine Below.alloc ?_ (by first | omega | (simp; done) | (simp; omega)) _) | (refine Below.setCell ?_ (by first | omega | (simp; done) | (simp; omega)) _) | refine Below.drew ?_))).mono ?_
    rintro e w1 ⟨rfl, hb1⟩
    go_wp2
    go_ret2
    exact ⟨by rw [hP.out]; rfl, (by repeat (first | exact Below.refl _ _ | assumption | refine below_step ?_ (by assumption) | refine below_step ?_ (Joins.below_draws _ _ _) | (refine Below.alloc ?_ (by first | omega | (simp; done) | (simp; omega)) _) | (refine Below.setCell ?_ (by first | omega | (simp; done) | (simp; omega)) _) | refine Below.drew ?_))⟩
set_option maxHeartbeats 1000000 in
theorem bothOf_any (F G : Nat → Prop) (ao : Option Addr) (n cap : Nat) (a : List (List Int)) (bo : Option Addr) (m bcap : Nat) (b : List (List Int)) (w : World) (hA : SlF F w 1 lineF ao n cap a) (hB : SlF G w 1 lineF bo m bcap b) :
    Calls Try.prog 27 #[.slice ao n cap, .slice bo m bcap] w fun e w' => ∃ ao' n' cap', e = .returned (.tuple #[.slice ao' n' cap', .int .i64 (pairE a b)]) ∧ Below w.heap.size w w' ∧ SlF (from_ w.heap.size) w' 1 lineF ao' n' cap' (joinM min a b) := by
  by_cases h : pairE a b = 0
  · obtain ⟨h1, h2, h3, h4⟩ := pairE_good h
    have hn := hA.len
    have hm := hB.len
    have HJ := Lib.hid (mergedMin_good F G ao n cap a bo m bcap b w hA hB h h2 h3 (by omega) (by omega))
    have H := Lib.hid h
    have N := Lib.hid hn
    clear h h2 h3 h4 hn hm
    go_enter Try.func27, Try.ntmps27
    go_wp2_with (go_at_call 52; refine HJ.out.mono ?_; rintro e w1 ⟨ao1, cap1, gs, rfl, hb1, hG⟩)
    go_ret2
    have hS := hG.toF (by have := N.out; omega)
    rw [gridL_congr (mix2_end min a b n)] at hS
    refine ⟨ao1, n, cap1, by rw [H.out]; rfl, hb1, ?_⟩
    unfold joinM
    rw [if_pos H.out, ← N.out]
    exact hS
  · have HJ := Lib.hid (merged_bad F G ao n cap a bo m bcap b true w hA hB h)
    have H := Lib.hid h
    clear h
    go_enter Try.func27, Try.ntmps27
    go_wp2_with (go_at_call 52; refine HJ.out.mono ?_; rintro e w1 ⟨rfl, hb1⟩)
    go_ret2
    refine ⟨none, 0, 0, rfl, hb1, ?_⟩
    unfold joinM
    rw [if_neg H.out]
    exact SlF.nil
set_option maxHeartbeats 1000000 in
theorem eitherOf_any (F G : Nat → Prop) (ao : Option Addr) (n cap : Nat) (a : List (List Int)) (bo : Option Addr) (m bcap : Nat) (b : List (List Int)) (w : World) (hA : SlF F w 1 lineF ao n cap a) (hB : SlF G w 1 lineF bo m bcap b) :
    Calls Try.prog 29 #[.slice ao n cap, .slice bo m bcap] w fun e w' => ∃ ao' n' cap', e = .returned (.tuple #[.slice ao' n' cap', .int .i64 (pairE a b)]) ∧ Below w.heap.size w w' ∧ SlF (from_ w.heap.size) w' 1 lineF ao' n' cap' (joinM max a b) := by
  by_cases h : pairE a b = 0
  · obtain ⟨h1, h2, h3, h4⟩ := pairE_good h
    have hn := hA.len
    have hm := hB.len
    have HJ := Lib.hid (mergedMax_good F G ao n cap a bo m bcap b w hA hB h h2 h3 (by omega) (by omega))
    have H := Lib.hid h
    have N := Lib.hid hn
    clear h h2 h3 h4 hn hm
    go_enter Try.func29, Try.ntmps29
    go_wp2_with (go_at_call 52; refine HJ.out.mono ?_; rintro e w1 ⟨ao1, cap1, gs, rfl, hb1, hG⟩)
    go_ret2
    have hS := hG.toF (by have := N.out; omega)
    rw [gridL_congr (mix2_end max a b n)] at hS
    refine ⟨ao1, n, cap1, by rw [H.out]; rfl, hb1, ?_⟩
    unfold joinM
    rw [if_pos H.out, ← N.out]
    exact hS
  · have HJ := Lib.hid (merged_bad F G ao n cap a bo m bcap b false w hA hB h)
    have H := Lib.hid h
    clear h
    go_enter Try.func29, Try.ntmps29
    go_wp2_with (go_at_call 52; refine HJ.out.mono ?_; rintro e w1 ⟨rfl, hb1⟩)
    go_ret2
    refine ⟨none, 0, 0, rfl, hb1, ?_⟩
    unfold joinM
    rw [if_neg H.out]
    exact SlF.nil
set_option maxHeartbeats 2000000 in
theorem boundBoth_walk (F G : Nat → Prop) (ao : Option Addr) (n cap : Nat) (a : List (List Int)) (bo : Option Addr) (m bcap : Nat) (b : List (List Int)) (w : World) (hA : SlF F w 1 lineF ao n cap a) (hB : SlF G w 1 lineF bo m bcap b) (hn : n * 24 ≤ 140737488355328) (hm : m * 24 ≤ 140737488355328) :
    Calls Try.prog 7 #[.slice ao n cap, .slice bo m bcap] w fun e w' => e = .returned (.bool true) ∧ Below w.heap.size w w' := by
  go_enter Try.func7, Try.ntmps7
  go_wp2_with fail
  refine (matNew_any F ao n cap a _ hA hn).mono ?_
  rintro e w1 ⟨ao1, cap1, rfl, hb1, hS1⟩
  go_wp2_with fail
  refine (matNew_any G bo m bcap b _ (hB.below lineF_firm hb1) hm).mono ?_
  rintro e w2 ⟨ao2, cap2, rfl, hb2, hS2⟩
  go_wp2_with fail
  refine (both_any _ _ ao1 n cap1 a ao2 m cap2 b _ (hS1.below lineF_firm hb2) hS2).mono ?_
  rintro e w3 ⟨ao3, n3, cap3, rfl, hb3, hS3⟩
  go_wp2_with fail
  refine (bothOf_any F G ao n cap a bo m bcap b _ (hA.below lineF_firm (by repeat (first | exact Below.refl _ _ | assumption | refine below_step ?_ (by assumption) | refine below_step ?_ (Joins.below_draws _ _ _) | (refine Below.alloc ?_ (by first | omega | (simp; done) | (simp; omega)) _) | (refine Below.setCell ?_ (by first | omega | (simp; done) | (simp; omega)) _) | refine Below.drew ?_))) (hB.below lineF_firm (by repeat (first | exact Below.refl _ _ | assumption | refine below_step ?_ (by assumption) | refine below_step ?_ (Joins.below_draws _ _ _) | (refine Below.alloc ?_ (by first | omega | (simp; done) | (simp; omega)) _) | (refine Below.setCell ?_ (by first | omega | (simp; done) | (simp; omega)) _) | refine Below.drew ?_)))).mono ?_
  rintro e w4 ⟨ao4, n4, cap4, rfl, hb4, hS4⟩
  go_wp2_with fail
  refine (sameRows_yes _ _ ao3 n3 cap3 ao4 n4 cap4 _ _ (hS3.below lineF_firm hb4) hS4).mono ?_
  rintro e w5 ⟨rfl, hb5⟩
  go_wp2
  go_ret
  exact ⟨rfl, (by repeat (first | exact Below.refl _ _ | assumption | refine below_step ?_ (by assumption) | refine below_step ?_ (Joins.below_draws _ _ _) | (refine Below.alloc ?_ (by first | omega | (simp; done) | (simp; omega)) _) | (refine Below.setCell ?_ (by first | omega | (simp; done) | (simp; omega)) _) | refine Below.drew ?_))⟩
set_option maxHeartbeats 2000000 in
theorem boundEither_walk (F G : Nat → Prop) (ao : Option Addr) (n cap : Nat) (a : List (List Int)) (bo : Option Addr) (m bcap : Nat) (b : List (List Int)) (w : World) (hA : SlF F w 1 lineF ao n cap a) (hB : SlF G w 1 lineF bo m bcap b) (hn : n * 24 ≤ 140737488355328) (hm : m * 24 ≤ 140737488355328) :
    Calls Try.prog 8 #[.slice ao n cap, .slice bo m bcap] w fun e w' => e = .returned (.bool true) ∧ Below w.heap.size w w' := by
  go_enter Try.func8, Try.ntmps8
  go_wp2_with fail
  refine (matNew_any F ao n cap a _ hA hn).mono ?_
  rintro e w1 ⟨ao1, cap1, rfl, hb1, hS1⟩
  go_wp2_with fail
  refine (matNew_any G bo m bcap b _ (hB.below lineF_firm hb1) hm).mono ?_
  rintro e w2 ⟨ao2, cap2, rfl, hb2, hS2⟩
  go_wp2_with fail
  refine (either_any _ _ ao1 n cap1 a ao2 m cap2 b _ (hS1.below lineF_firm hb2) hS2).mono ?_
  rintro e w3 ⟨ao3, n3, cap3, rfl, hb3, hS3⟩
  go_wp2_with fail
  refine (eitherOf_any F G ao n cap a bo m bcap b _ (hA.below lineF_firm (by repeat (first | exact Below.refl _ _ | assumption | refine below_step ?_ (by assumption) | refine below_step ?_ (Joins.below_draws _ _ _) | (refine Below.alloc ?_ (by first | omega | (simp; done) | (simp; omega)) _) | (refine Below.setCell ?_ (by first | omega | (simp; done) | (simp; omega)) _) | refine Below.drew ?_))) (hB.below lineF_firm (by repeat (first | exact Below.refl _ _ | assumption | refine below_step ?_ (by assumption) | refine below_step ?_ (Joins.below_draws _ _ _) | (refine Below.alloc ?_ (by first | omega | (simp; done) | (simp; omega)) _) | (refine Below.setCell ?_ (by first | omega | (simp; done) | (simp; omega)) _) | refine Below.drew ?_)))).mono ?_
  rintro e w4 ⟨ao4, n4, cap4, rfl, hb4, hS4⟩
  go_wp2_with fail
  refine (sameRows_yes _ _ ao3 n3 cap3 ao4 n4 cap4 _ _ (hS3.below lineF_firm hb4) hS4).mono ?_
  rintro e w5 ⟨rfl, hb5⟩
  go_wp2
  go_ret
  exact ⟨rfl, (by repeat (first | exact Below.refl _ _ | assumption | refine below_step ?_ (by assumption) | refine below_step ?_ (Joins.below_draws _ _ _) | (refine Below.alloc ?_ (by first | omega | (simp; done) | (simp; omega)) _) | (refine Below.setCell ?_ (by first | omega | (simp; done) | (simp; omega)) _) | refine Below.drew ?_))⟩
end Go.Proofs.Ytipemoajdphdfaa
