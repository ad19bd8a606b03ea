/-
  Two matrices merged, the greater bounds: bound.Either, the reference's merged. (Blocks of BndQ, BndR, BndU, where they are reached here.)
-/
import Derived.Test.YtldbgbcabenegaaBndS
namespace Go.Proofs.Ytldbgbcabenegaa
open Go.RowKit
set_option linter.unusedVariables false
set_option linter.unusedSimpArgs false

def pairE (a b : List (List Int)) : Int := if matE a = 0 then (if matE b = 0 then (if a.length = b.length then 0 else 4) else matE b) else matE a
set_option maxHeartbeats 1000000 in
theorem pair_any (F G : Nat → Prop) (ao : Option Addr) (n cap : Nat) (a : List (List Int)) (bo : Option Addr) (m bcap : Nat) (b : List (List Int)) (w : World) (hA : SlF F w 1 lineF ao n cap a) (hB : SlF G w 1 lineF bo m bcap b) :
    Calls Try.prog 32 #[.slice ao n cap, .slice bo m bcap] w fun e w' => e = .returned (.int .i64 (pairE a b)) ∧ Below w.heap.size w w' := by
  have i0 : ∀ wx, (Instr.index 60 (.agg #[.slice ao n cap, .slice bo m bcap]) (.int .i64 0)).run Try.prog wx = .ok (.slice ao n cap) wx := fun _ => by kernel_rfl
  have i1 : ∀ wx, (Instr.index 60 (.agg #[.slice ao n cap, .slice bo m bcap]) (.int .i64 1)).run Try.prog wx = .ok (.slice bo m bcap) wx := fun _ => by kernel_rfl
  have HA : Hid (∀ wx, Below w.heap.size w wx → Calls Try.prog 35 #[.slice ao n cap] wx fun e w' => e = .returned (.int .i64 (matE a)) ∧ Below wx.heap.size wx w') := fun wx hb => matCheck_any ao n cap a wx (mat_old (hA.below lineF_firm hb))
  have HB : Hid (∀ wx, Below w.heap.size w wx → Calls Try.prog 35 #[.slice bo m bcap] wx fun e w' => e = .returned (.int .i64 (matE b)) ∧ Below wx.heap.size wx w') := fun wx hb => matCheck_any bo m bcap b wx (mat_old (hB.below lineF_firm hb))
  have NA : Hid (n = a.length) := hA.len
  have NB : Hid (m = b.length) := hB.len
  by_cases ha : matE a = 0
  · by_cases hb : matE b = 0
    · have EA := Lib.hid ha
      have EB := Lib.hid hb
      have HA0 : Hid (∀ wx, Below w.heap.size w wx → Calls Try.prog 35 #[.slice ao n cap] wx fun e w' => e = .returned (.int .i64 0) ∧ Below wx.heap.size wx w') := by rw [← ha]; exact HA
      have HB0 : Hid (∀ wx, Below w.heap.size w wx → Calls Try.prog 35 #[.slice bo m bcap] wx fun e w' => e = .returned (.int .i64 0) ∧ Below wx.heap.size wx w') := by rw [← hb]; exact HB
      clear ha hb HA HB
      by_cases hnm : n = m
      · have hq : ((n : Int) != (m : Int)) = false := by simp [hnm]
        have NM := Lib.hid hnm
        clear hnm
        go_enter Try.func32, Try.ntmps32
        go_wp2_with fail
        refine wp_loop_rounds 3 ?_
        rw [rounds_succ]
        go_wp2_with fail
        refine (HA0.out _ (by repeat (first | exact Below.refl _ _ | assumption | refine below_step ?_ (by assumption) | refine below_step ?_ (Joins.below_draws _ _ _) | (refine Below.alloc ?_ (by first | omega | (simp; done) | (simp; omega)) _) | (refine Below.setCell ?_ (by first | omega | (simp; done) | (simp; omega)) _) | refine Below.drew ?_))).mono ?_
        rintro e w1 ⟨rfl, hb1⟩
        go_wp2_with fail
        rw [rounds_succ]
        go_wp2_with fail
        refine (HB0.out _ (by repeat (first | exact Below.refl _ _ | assumption | refine below_step ?_ (by assumption) | refine below_step ?_ (Joins.below_draws _ _ _) | (refine Below.alloc ?_ (by first | omega | (simp; done) | (simp; omega)) _) | (refine Below.setCell ?_ (by first | omega | (simp; done) | (simp; omega)) _) | refine Below.drew ?_))).mono ?_
        rintro e w2 ⟨rfl, hb2⟩
        go_wp2_with fail
        rw [rounds_succ]
        go_wp2
        go_ret
        exact ⟨ret_int (by simp [pairE, EA.out, EB.out, ← NA.out, ← NB.out, NM.out]), (by repeat (first | exact Below.refl _ _ | assumption | refine below_step ?_ (by assumption) | refine below_step ?_ (Joins.below_draws _ _ _) | (refine Below.alloc ?_ (by first | omega | (simp; done) | (simp; omega)) _) | (refine Below.setCell ?_ (by first | omega | (simp; done) | (simp; omega)) _) | refine Below.drew ?_))⟩
      · have hq : ((n : Int) != (m : Int)) = true := by simp; omega
        have NM := Lib.hid hnm
        clear hnm
        go_enter Try.func32, Try.ntmps32
        go_wp2_with fail
        refine wp_loop_rounds 3 ?_
        rw [rounds_succ]
        go_wp2_with fail
        refine (HA0.out _ (by repeat (first | exact Below.refl _ _ | assumption | refine below_step ?_ (by assumption) | refine below_step ?_ (Joins.below_draws _ _ _) | (refine Below.alloc ?_ (by first | omega | (simp; done) | (simp; omega)) _) | (refine Below.setCell ?_ (by first | omega | (simp; done) | (simp; omega)) _) | refine Below.drew ?_))).mono ?_
        rintro e w1 ⟨rfl, hb1⟩
        go_wp2_with fail
        rw [rounds_succ]
        go_wp2_with fail
        refine (HB0.out _ (by repeat (first | exact Below.refl _ _ | assumption | refine below_step ?_ (by assumption) | refine below_step ?_ (Joins.below_draws _ _ _) | (refine Below.alloc ?_ (by first | omega | (simp; done) | (simp; omega)) _) | (refine Below.setCell ?_ (by first | omega | (simp; done) | (simp; omega)) _) | refine Below.drew ?_))).mono ?_
        rintro e w2 ⟨rfl, hb2⟩
        go_wp2_with fail
        rw [rounds_succ]
        go_wp2
        go_ret
        exact ⟨ret_int (by simp [pairE, EA.out, EB.out, ← NA.out, ← NB.out, NM.out]), (by repeat (first | exact Below.refl _ _ | assumption | refine below_step ?_ (by assumption) | refine below_step ?_ (Joins.below_draws _ _ _) | (refine Below.alloc ?_ (by first | omega | (simp; done) | (simp; omega)) _) | (refine Below.setCell ?_ (by first | omega | (simp; done) | (simp; omega)) _) | refine Below.drew ?_))⟩
    · have EA := Lib.hid ha
      have EB := Lib.hid hb
      have HA0 : Hid (∀ wx, Below w.heap.size w wx → Calls Try.prog 35 #[.slice ao n cap] wx fun e w' => e = .returned (.int .i64 0) ∧ Below wx.heap.size wx w') := by rw [← ha]; exact HA
      have hq : (matE b != 0) = true := by simpa using hb
      clear ha hb HA
      go_enter Try.func32, Try.ntmps32
      go_wp2_with fail
      refine wp_loop_rounds 3 ?_
      rw [rounds_succ]
      go_wp2_with fail
      refine (HA0.out _ (by repeat (first | exact Below.refl _ _ | assumption | refine below_step ?_ (by assumption) | refine below_step ?_ (Joins.below_draws _ _ _) | (refine Below.alloc ?_ (by first | omega | (simp; done) | (simp; omega)) _) | (refine Below.setCell ?_ (by first | omega | (simp; done) | (simp; omega)) _) | refine Below.drew ?_))).mono ?_
      rintro e w1 ⟨rfl, hb1⟩
      go_wp2_with fail
      rw [rounds_succ]
      go_wp2_with fail
      refine (HB.out _ (by repeat (first | exact Below.refl _ _ | assumption | refine below_step ?_ (by assumption) | refine below_step ?_ (Joins.below_draws _ _ _) | (refine Below.alloc ?_ (by first | omega | (simp; done) | (simp; omega)) _) | (refine Below.setCell ?_ (by first | omega | (simp; done) | (simp; omega)) _) | refine Below.drew ?_))).mono ?_
      rintro e w2 ⟨rfl, hb2⟩
      go_wp2
      go_ret
      exact ⟨ret_int (by simp [pairE, EA.out, EB.out]), (by repeat (first | exact Below.refl _ _ | assumption | refine below_step ?_ (by assumption) | refine below_step ?_ (Joins.below_draws _ _ _) | (refine Below.alloc ?_ (by first | omega | (simp; done) | (simp; omega)) _) | (refine Below.setCell ?_ (by first | omega | (simp; done) | (simp; omega)) _) | refine Below.drew ?_))⟩
  · have EA := Lib.hid ha
    have hq : (matE a != 0) = true := by simpa using ha
    clear ha
    go_enter Try.func32, Try.ntmps32
    go_wp2_with fail
    refine wp_loop_rounds 3 ?_
    rw [rounds_succ]
    go_wp2_with fail
    refine (HA.out _ (by repeat (first | exact Below.refl _ _ | assumption | refine below_step ?_ (by assumption) | refine below_step ?_ (Joins.below_draws _ _ _) | (refine Below.alloc ?_ (by first | omega | (simp; done) | (simp; omega)) _) | (refine Below.setCell ?_ (by first | omega | (simp; done) | (simp; omega)) _) | refine Below.drew ?_))).mono ?_
    rintro e w1 ⟨rfl, hb1⟩
    go_wp2
    go_ret
    exact ⟨ret_int (by simp [pairE, EA.out]), (by repeat (first | exact Below.refl _ _ | assumption | refine below_step ?_ (by assumption) | refine below_step ?_ (Joins.below_draws _ _ _) | (refine Below.alloc ?_ (by first | omega | (simp; done) | (simp; omega)) _) | (refine Below.setCell ?_ (by first | omega | (simp; done) | (simp; omega)) _) | refine Below.drew ?_))⟩
theorem max_any (x y : Int) (w : World) : Calls Try.prog 22 #[.int .i64 x, .int .i64 y] w fun e w' => e = .returned (.int .i64 (max x y)) ∧ w = w' := by
  go_enter Try.func22, Try.ntmps22
  go_wp2
  all_goals (go_ret; exact ⟨ret_int (by first | rfl | omega), rfl⟩)

def mix2 (op : Int → Int → Int) (a b : List (List Int)) (i j : Nat) : Nat → Nat → Int := fun r c => if r < i ∨ (r = i ∧ c < j) then op (at2 a r c) (at2 b r c) else at2 a r c
theorem mix2_put (op : Int → Int → Int) (a b : List (List Int)) (i j : Nat) : put2 (mix2 op a b i j) i j (op (at2 a i j) (at2 b i j)) = mix2 op a b i (j + 1) := by
  funext r c
  unfold put2 mix2
  by_cases h : r = i ∧ c = j
  · obtain ⟨rfl, rfl⟩ := h
    rw [if_pos ⟨rfl, rfl⟩, if_pos (by omega)]
  · rw [if_neg h]
    by_cases h2 : r < i ∨ (r = i ∧ c < j)
    · rw [if_pos h2, if_pos (by omega)]
    · rw [if_neg h2, if_neg (by omega)]
theorem mix2_keep (op : Int → Int → Int) (a b : List (List Int)) (i j : Nat) (h : op (at2 a i j) (at2 b i j) = at2 a i j) : mix2 op a b i j = mix2 op a b i (j + 1) := by
  funext r c
  unfold mix2
  by_cases h1 : r = i ∧ c = j
  · obtain ⟨rfl, rfl⟩ := h1
    rw [if_neg (by omega), if_pos (by omega), h]
  · by_cases h2 : r < i ∨ (r = i ∧ c < j)
    · rw [if_pos h2, if_pos (by omega)]
    · rw [if_neg h2, if_neg (by omega)]
theorem mix2_row (op : Int → Int → Int) (a b : List (List Int)) (n i : Nat) : ∀ r c, r < n → c < n → mix2 op a b i n r c = mix2 op a b (i + 1) 0 r c := by
  intro r c _ hc
  unfold mix2
  by_cases h2 : r < i ∨ (r = i ∧ c < n)
  · rw [if_pos h2, if_pos (by omega)]
  · rw [if_neg h2, if_neg (by omega)]
theorem mix2_start (op : Int → Int → Int) (a b : List (List Int)) : mix2 op a b 0 0 = at2 a := by
  funext r c; unfold mix2; rw [if_neg (by omega)]
theorem mix2_end (op : Int → Int → Int) (a b : List (List Int)) (n : Nat) : ∀ r c, r < n → c < n → mix2 op a b n 0 r c = op (at2 a r c) (at2 b r c) := by
  intro r c hr _; unfold mix2; rw [if_pos (by omega)]
theorem mix2_here (op : Int → Int → Int) (a b : List (List Int)) (i j : Nat) : mix2 op a b i j i j = at2 a i j := by
  unfold mix2; rw [if_neg (by omega)]

/-- What the walk wants to know of an entry of a matrix that is only read. -/
theorem line_at {F : Nat → Prop} {w : World} {ao : Option Addr} {n cap : Nat} {m : List (List Int)} (h : SlF F w 1 lineF ao n cap m) (hsq : ∀ i, i < m.length → (m.getD i []).length = m.length) {i : Nat} (hi : i < n) :
    ∃ A off ra rc, A < w.heap.size ∧ (∀ wx, (Instr.indexAt 24 (.slice ao n cap) (.int .i64 i)).run Try.prog wx = .ok (.pointer (some ⟨A, off + i, none⟩)) wx) ∧
      w.cell? ⟨A, off + i, none⟩ = some (.slice ra n rc) ∧ ∀ j, j < n → ∃ B o, B < w.heap.size ∧ w.cell? ⟨B, o + j, none⟩ = some (.int .i64 (at2 m i j)) ∧
        ∀ wx, (Instr.indexAt 38 (.slice ra n rc) (.int .i64 j)).run Try.prog wx = .ok (.pointer (some ⟨B, o + j, none⟩)) wx := by
  have hil : i < m.length := by have := h.len; omega
  obtain ⟨b, off, row, hix, hblt, hrow, ra, n2, rc, rfl, hR, h8⟩ := h.toR.index (P := Try.prog) Try.underlying24 size_ints (i := i) hil
  have c0 := hrow.one
  simp only [Nat.mul_one] at hix c0
  have hn2 : n2 = n := by
    have h1 := hR.len
    have h2 := hsq i hil
    rw [line_getD m i hil] at h2
    have := h.len
    omega
  subst hn2
  refine ⟨b, off, ra, rc, hblt, hix, c0, fun j hj => ?_⟩
  have hjl : j < m[i].length := by have := hR.len; omega
  obtain ⟨b2, off2, row2, hix2, hblt2, hrow2, hrr2⟩ := hR.toR.index (P := Try.prog) Try.underlying38 size_int (i := j) hjl
  obtain rfl := intF_one hrr2
  have d0 := hrow2.one
  simp only [Nat.mul_one] at hix2 d0
  refine ⟨b2, off2, hblt2, ?_, hix2⟩
  rw [d0]
  simp [at2, List.getElem?_eq_getElem hil, List.getElem?_eq_getElem hjl]

set_option maxHeartbeats 4000000 in
set_option maxRecDepth 100000 in
theorem joinMax_good (F G : Nat → Prop) (ao : Option Addr) (n cap : Nat) (a : List (List Int)) (bo : Option Addr) (m bcap : Nat) (b : List (List Int)) (w : World) (hA : SlF F w 1 lineF ao n cap a) (hB : SlF G w 1 lineF bo m bcap b) (hE : pairE a b = 0) (hsa : ∀ i, i < a.length → (a.getD i []).length = a.length) (hsb : ∀ i, i < b.length → (b.getD i []).length = b.length) (h12 : n ≤ 12) (hnm : m = n) :
    Calls Try.prog 21 #[.slice ao n cap, .slice bo m bcap, .func (.func 22) #[] #[]] w fun e w' => ∃ ao' cap' gs, e = .returned (.tuple #[.slice ao' n cap', .int .i64 0]) ∧ Below w.heap.size w w' ∧ Grid (from_ w.heap.size) w' ao' n cap' gs (mix2 max a b n 0) := by
  subst hnm
  have HP : Hid (∀ wx, Below w.heap.size w wx → Calls Try.prog 32 #[.slice ao m cap, .slice bo m bcap] wx fun e w' => e = .returned (.int .i64 0) ∧ Below wx.heap.size wx w') := fun wx hb => by
    rw [← hE]; exact pair_any F G ao m cap a bo m bcap b wx (hA.below lineF_firm hb) (hB.below lineF_firm hb)
  have SA := Lib.hid hsa
  have SB := Lib.hid hsb
  have hn' : (m : Int) ≤ 12 := by omega
  clear hE hsa hsb
  go_enter Try.func21, Try.ntmps21
  go_wp2_with fail
  refine (HP.out _ (by repeat (first | exact Below.refl _ _ | assumption | refine below_step ?_ (by assumption) | refine below_step ?_ (Joins.below_draws _ _ _) | (refine Below.alloc ?_ (by first | omega | (simp; done) | (simp; omega)) _) | (refine Below.setCell ?_ (by first | omega | (simp; done) | (simp; omega)) _) | refine Below.drew ?_))).mono ?_
  rintro e w1 ⟨rfl, hb1⟩
  go_wp2_with fail
  refine (own_any F ao m cap a _ (hA.below lineF_firm hb1) h12 SA.out).mono ?_
  rintro e w2 ⟨ao2, cap2, gs, rfl, hb2, hG0⟩
  have hw2 : Below w.heap.size w w2 := (by repeat (first | exact Below.refl _ _ | assumption | refine below_step ?_ (by assumption) | refine below_step ?_ (Joins.below_draws _ _ _) | (refine Below.alloc ?_ (by first | omega | (simp; done) | (simp; omega)) _) | (refine Below.setCell ?_ (by first | omega | (simp; done) | (simp; omega)) _) | refine Below.drew ?_))
  have G0 : Hid (Grid (from_ w.heap.size) w2 ao2 m cap2 gs (mix2 max a b 0 0)) := by
    rw [mix2_start]
    exact hG0.same (Same.wide fun b hb _ => Nat.le_trans hb1.size hb)
  clear hG0
  go_wp2_with fail
  go_loopw [22] (fun i wr => ∃ k : Nat, k ≤ m ∧ i = .int .i64 k ∧ Below w.heap.size w wr ∧ Hid (Grid (from_ w.heap.size) wr ao2 m cap2 gs (mix2 max a b k 0))) (fun i _ => m - (intOf i).toNat)
  case atStart => exact ⟨0, by omega, rfl, hw2, G0⟩
  case round =>
    obtain ⟨k, hk, rfl, hbr, GR⟩ := hrel
    clear G0 hw2
    by_cases hlt : k < m
    · have hk1 : (k : Int) < m := by omega
      obtain ⟨A, rc, hAlt, hglt, hF, hne, h1, h2, hix, hcell, hent⟩ := GR.out.at hlt
      obtain ⟨wo, rfl⟩ : ∃ wo : World, wo = wr := ⟨_, rfl⟩
      go_wp2_with fail
      clear hcell hent hix
      go_loopw [30] (fun j wr => ∃ q : Nat, q ≤ m ∧ j = .int .i64 q ∧ Below w.heap.size w wr ∧ Hid (Grid (from_ w.heap.size) wr ao2 m cap2 gs (mix2 max a b k q))) (fun j _ => m - (intOf j).toNat)
      case atStart => exact ⟨0, by omega, rfl, hbr, GR⟩
      case round =>
        obtain ⟨q, hq, rfl, hbi, GI⟩ := hrel
        clear GR hbr
        by_cases hqm : q < m
        · have hq1 : (q : Int) < m := by omega
          obtain ⟨A, rc, hAlt, hglt, hF, hne, h1, h2, hix, hcell, hent⟩ := GI.out.at hlt
          obtain ⟨he1, he2, he3⟩ := hent q hqm
          obtain ⟨Aa, oa, ra, rca, hAa, hixa, hca, hra⟩ := line_at (hA.below lineF_firm hbi) SA.out hlt
          obtain ⟨Ba, pa, hBa, hea, hixa2⟩ := hra q hqm
          obtain ⟨Ab, ob, rb, rcb, hAb, hixb, hcb, hrb⟩ := line_at (hB.below lineF_firm hbi) SB.out hlt
          obtain ⟨Bb, pb, hBb, heb, hixb2⟩ := hrb q hqm
          have GS := Lib.hid ((GI.out.same (Same.drew)).store hlt hqm (max (at2 a k q) (at2 b k q)))
          rw [mix2_put] at GS
          have hbS : Below w.heap.size w ((wr.drew).setCell ⟨gs k, q, none⟩ (.int .i64 (max (at2 a k q) (at2 b k q)))) := hbi.drew.setCell (p := ⟨gs k, q, none⟩) hF _
          clear hent hra hrb
          go_wp2_with fail
          go_still_tail 22, (by kernel_rfl)
          still_call ((max_any _ _ _).mono fun e w' h => ⟨h.1, h.2.symm⟩)
          repeat still_step
          refine wpStill_nil ?_
          change wpList _ _ _ _ _ wr.drew
          go_wp2
          go_roundw
          case rel => exact ⟨q + 1, by omega, by go_num, hbS, GS⟩
          case measure => simp [intOf]; omega
        · obtain rfl : q = m := by omega
          have GN : Hid (Grid (from_ w.heap.size) wr ao2 q cap2 gs (mix2 max a b (k + 1) 0)) := GI.out.congr (mix2_row _ _ _ _ _)
          clear GI
          go_wp2
          go_roundw
          case rel => exact ⟨k + 1, by omega, by go_num, hbi, GN⟩
          case measure => simp [intOf]; omega
    · obtain rfl : k = m := by omega
      go_wp2
      go_ret2
      exact ⟨ao2, cap2, gs, rfl, hbr, GR.out⟩
set_option maxHeartbeats 1000000 in
theorem join_bad (F G : Nat → Prop) (ao : Option Addr) (n cap : Nat) (a : List (List Int)) (bo : Option Addr) (m bcap : Nat) (b : List (List Int)) (f : Value) (w : World) (hA : SlF F w 1 lineF ao n cap a) (hB : SlF G w 1 lineF bo m bcap b) (hE : pairE a b ≠ 0) :
    Calls Try.prog 21 #[.slice ao n cap, .slice bo m bcap, f] w fun e w' => e = .returned (.tuple #[.slice none 0 0, .int .i64 (pairE a b)]) ∧ Below w.heap.size w w' := by
  have hq : (pairE a b != 0) = true := by simpa using hE
  have HP : Hid (∀ wx, Below w.heap.size w wx → Calls Try.prog 32 #[.slice ao n cap, .slice bo m bcap] wx fun e w' => e = .returned (.int .i64 (pairE a b)) ∧ Below wx.heap.size wx w') := fun wx hb => pair_any F G ao n cap a bo m bcap b wx (hA.below lineF_firm hb) (hB.below lineF_firm hb)
  clear hE
  go_enter Try.func21, Try.ntmps21
  go_wp2_with fail
  refine (HP.out _ (by repeat (first | exact Below.refl _ _ | assumption | refine below_step ?_ (by assumption) | refine below_step ?_ (Joins.below_draws _ _ _) | (refine Below.alloc ?_ (by first | omega | (simp; done) | (simp; omega)) _) | (refine Below.setCell ?_ (by first | omega | (simp; done) | (simp; omega)) _) | refine Below.drew ?_))).mono ?_
  rintro e w1 ⟨rfl, hb1⟩
  go_wp2
  go_ret2
  exact ⟨rfl, (by repeat (first | exact Below.refl _ _ | assumption | refine below_step ?_ (by assumption) | refine below_step ?_ (Joins.below_draws _ _ _) | (refine Below.alloc ?_ (by first | omega | (simp; done) | (simp; omega)) _) | (refine Below.setCell ?_ (by first | omega | (simp; done) | (simp; omega)) _) | refine Below.drew ?_))⟩
theorem pairE_good {a b : List (List Int)} (h : pairE a b = 0) : a.length ≤ 12 ∧ (∀ i, i < a.length → (a.getD i []).length = a.length) ∧ (∀ i, i < b.length → (b.getD i []).length = b.length) ∧ a.length = b.length := by
  unfold pairE at h
  by_cases h1 : matE a = 0
  · by_cases h2 : matE b = 0
    · by_cases h3 : a.length = b.length
      · exact ⟨(matE_square h1).1, (matE_square h1).2, (matE_square h2).2, h3⟩
      · simp [h1, h2, h3] at h
    · simp [h1, h2] at h
  · simp [h1] at h

/-- What two matrices joined are: bound by bound. -/
def joinM (op : Int → Int → Int) (a b : List (List Int)) : List (List Int) := if pairE a b = 0 then gridL a.length (fun r c => op (at2 a r c) (at2 b r c)) else []
set_option maxHeartbeats 1000000 in
theorem either_any (F G : Nat → Prop) (ao : Option Addr) (n cap : Nat) (a : List (List Int)) (bo : Option Addr) (m bcap : Nat) (b : List (List Int)) (w : World) (hA : SlF F w 1 lineF ao n cap a) (hB : SlF G w 1 lineF bo m bcap b) :
    Calls Try.prog 9 #[.slice ao n cap, .slice bo m bcap] w fun e w' => ∃ ao' n' cap', e = .returned (.tuple #[.slice ao' n' cap', .int .i64 (pairE a b)]) ∧ Below w.heap.size w w' ∧ SlF (from_ w.heap.size) w' 1 lineF ao' n' cap' (joinM max a b) := by
  by_cases h : pairE a b = 0
  · obtain ⟨h1, h2, h3, h4⟩ := pairE_good h
    have hn := hA.len
    have hm := hB.len
    have HJ := Lib.hid (joinMax_good F G ao n cap a bo m bcap b w hA hB h h2 h3 (by omega) (by omega))
    have H := Lib.hid h
    have N := Lib.hid hn
    clear h h2 h3 h4 hn hm
    go_enter Try.func9, Try.ntmps9
    go_wp2_with (go_at_call 21; refine HJ.out.mono ?_; rintro e w1 ⟨ao1, cap1, gs, rfl, hb1, hG⟩)
    go_ret2
    have hS := hG.toF (by have := N.out; omega)
    rw [gridL_congr (mix2_end max a b n)] at hS
    refine ⟨ao1, n, cap1, by rw [H.out]; rfl, hb1, ?_⟩
    unfold joinM
    rw [if_pos H.out, ← N.out]
    exact hS
  · have HJ := Lib.hid (join_bad F G ao n cap a bo m bcap b (.func (.func 22) #[] #[]) w hA hB h)
    have H := Lib.hid h
    clear h
    go_enter Try.func9, Try.ntmps9
    go_wp2_with (go_at_call 21; refine HJ.out.mono ?_; rintro e w1 ⟨rfl, hb1⟩)
    go_ret2
    refine ⟨none, 0, 0, rfl, hb1, ?_⟩
    unfold joinM
    rw [if_neg H.out]
    exact SlF.nil

set_option maxHeartbeats 4000000 in
set_option maxRecDepth 100000 in
theorem mergedMax_good (F G : Nat → Prop) (ao : Option Addr) (n cap : Nat) (a : List (List Int)) (bo : Option Addr) (m bcap : Nat) (b : List (List Int)) (w : World) (hA : SlF F w 1 lineF ao n cap a) (hB : SlF G w 1 lineF bo m bcap b) (hE : pairE a b = 0) (hsa : ∀ i, i < a.length → (a.getD i []).length = a.length) (hsb : ∀ i, i < b.length → (b.getD i []).length = b.length) (h12 : n ≤ 12) (hnm : m = n) :
    Calls Try.prog 12 #[.slice ao n cap, .slice bo m bcap, .bool false] w fun e w' => ∃ ao' cap' gs, e = .returned (.tuple #[.slice ao' n cap', .int .i64 0]) ∧ Below w.heap.size w w' ∧ Grid (from_ w.heap.size) w' ao' n cap' gs (mix2 max a b n 0) := by
  subst hnm
  have hea : matE a = 0 := by unfold pairE at hE; by_cases h : matE a = 0; exact h; simp [h] at hE
  have heb : matE b = 0 := by unfold pairE at hE; by_cases h : matE b = 0; exact h; simp [hea, h] at hE
  have HP : Hid (∀ wx, Below w.heap.size w wx → Calls Try.prog 27 #[.slice ao m cap] wx fun e w' => e = .returned (.int .i64 0) ∧ Below wx.heap.size wx w') := fun wx hb => by
    rw [← hea]; exact matFault_any ao m cap a wx (mat_old (hA.below lineF_firm hb))
  have HQ : Hid (∀ wx, Below w.heap.size w wx → Calls Try.prog 27 #[.slice bo m bcap] wx fun e w' => e = .returned (.int .i64 0) ∧ Below wx.heap.size wx w') := fun wx hb => by
    rw [← heb]; exact matFault_any bo m bcap b wx (mat_old (hB.below lineF_firm hb))
  have SA := Lib.hid hsa
  have SB := Lib.hid hsb
  have hn' : (m : Int) ≤ 12 := by omega
  clear hE hsa hsb hea heb
  go_enter Try.func12, Try.ntmps12
  go_wp2_with fail
  refine (HP.out _ (by repeat (first | exact Below.refl _ _ | assumption | refine below_step ?_ (by assumption) | refine below_step ?_ (Joins.below_draws _ _ _) | (refine Below.alloc ?_ (by first | omega | (simp; done) | (simp; omega)) _) | (refine Below.setCell ?_ (by first | omega | (simp; done) | (simp; omega)) _) | refine Below.drew ?_))).mono ?_
  rintro e w1 ⟨rfl, hb1⟩
  go_wp2_with fail
  refine (HQ.out _ (by repeat (first | exact Below.refl _ _ | assumption | refine below_step ?_ (by assumption) | refine below_step ?_ (Joins.below_draws _ _ _) | (refine Below.alloc ?_ (by first | omega | (simp; done) | (simp; omega)) _) | (refine Below.setCell ?_ (by first | omega | (simp; done) | (simp; omega)) _) | refine Below.drew ?_))).mono ?_
  rintro e w1' ⟨rfl, hb1'⟩
  go_wp2_with fail
  refine (matGrid_any F ao m cap a _ (hA.below lineF_firm (by repeat (first | exact Below.refl _ _ | assumption | refine below_step ?_ (by assumption) | refine below_step ?_ (Joins.below_draws _ _ _) | (refine Below.alloc ?_ (by first | omega | (simp; done) | (simp; omega)) _) | (refine Below.setCell ?_ (by first | omega | (simp; done) | (simp; omega)) _) | refine Below.drew ?_))) h12 SA.out).mono ?_
  rintro e w2 ⟨ao2, cap2, gs, rfl, hb2, hG0⟩
  have hw2 : Below w.heap.size w w2 := (by repeat (first | exact Below.refl _ _ | assumption | refine below_step ?_ (by assumption) | refine below_step ?_ (Joins.below_draws _ _ _) | (refine Below.alloc ?_ (by first | omega | (simp; done) | (simp; omega)) _) | (refine Below.setCell ?_ (by first | omega | (simp; done) | (simp; omega)) _) | refine Below.drew ?_))
  have hs1 := hb1.size
  have hs1' := hb1'.size
  have G0 : Hid (Grid (from_ w.heap.size) w2 ao2 m cap2 gs (mix2 max a b 0 0)) := by
    rw [mix2_start]
    exact hG0.same (Same.wide fun b hb _ => Nat.le_trans (Nat.le_trans hs1 hs1') hb)
  clear hG0
  go_wp2_with fail
  go_loopw [10, 11] (fun i _ wr => ∃ k : Nat, k ≤ m ∧ i = .int .i64 k ∧ Below w.heap.size w wr ∧ Hid (Grid (from_ w.heap.size) wr ao2 m cap2 gs (mix2 max a b k 0))) (fun i _ _ => m - (intOf i).toNat)
  case atStart => exact ⟨0, by omega, rfl, hw2, G0⟩
  case round =>
    obtain ⟨k, hk, rfl, hbr, GR⟩ := hrel
    clear G0 hw2
    by_cases hlt : k < m
    · have hk1 : (k : Int) < m := by omega
      obtain ⟨wo, rfl⟩ : ∃ wo : World, wo = wr := ⟨_, rfl⟩
      go_wp2_with fail
      go_loopw [11] (fun j wr => ∃ q : Nat, q ≤ m ∧ j = .int .i64 q ∧ Below w.heap.size w wr ∧ Hid (Grid (from_ w.heap.size) wr ao2 m cap2 gs (mix2 max a b k q))) (fun j _ => m - (intOf j).toNat)
      case atStart => exact ⟨0, by omega, rfl, hbr, GR⟩
      case round =>
        obtain ⟨q, hq, rfl, hbi, GI⟩ := hrel
        clear GR hbr
        by_cases hqm : q < m
        · have hq1 : (q : Int) < m := by omega
          obtain ⟨A, rc, hAlt, hglt, hF, hne, h1, h2, hix, hcell, hent⟩ := GI.out.at hlt
          obtain ⟨he1, he2, he3⟩ := hent q hqm
          obtain ⟨Aa, oa, ra, rca, hAa, hixa, hca, hra⟩ := line_at (hA.below lineF_firm hbi) SA.out hlt
          obtain ⟨Ba, pa, hBa, hea, hixa2⟩ := hra q hqm
          obtain ⟨Ab, ob, rb, rcb, hAb, hixb, hcb, hrb⟩ := line_at (hB.below lineF_firm hbi) SB.out hlt
          obtain ⟨Bb, pb, hBb, heb, hixb2⟩ := hrb q hqm
          by_cases hba : at2 b k q < at2 a k q
          · have hd : decide (at2 b k q < at2 a k q) = true := by simpa using hba
            have hop : max (at2 a k q) (at2 b k q) = at2 a k q := by omega
            have GS : ∀ nq, Grid (from_ w.heap.size) (wr.drewN nq) ao2 m cap2 gs (mix2 max a b k (q + 1)) := fun nq => by
              rw [← mix2_keep _ _ _ _ _ hop]
              exact GI.out.below (Joins.below_draws _ _ _)
            have HS := Lib.hid GS
            clear hent hra hrb hop GS
            go_wp2_with fail
            go_quiet (fail)
            go_wp2
            go_roundw
            case rel => exact ⟨q + 1, by omega, by go_num, hbi.trans (Joins.below_draws _ _ _), HS.out _⟩
            case measure => simp [intOf]; omega
          · have hd : decide (at2 b k q < at2 a k q) = false := by simpa using hba
            clear hent hra hrb
            go_wp2_with fail
            go_quiet (fail)
            have hbx : Below w.heap.size w (wr.drewN nq) := hbi.trans (Joins.below_draws _ _ _)
            have GX : Hid (Grid (from_ w.heap.size) (wr.drewN nq) ao2 m cap2 gs (mix2 max a b k q)) := GI.out.below (Joins.below_draws _ _ _)
            clear he1 he2 he3 hix hcell hixa hca hea hixa2 hixb hcb heb hixb2 GI hbi hAa hBa hAb hBb hAlt hglt hF hne h1 h2
            generalize wr.drewN nq = wx at hbx GX ⊢
            obtain ⟨A, rc, hAlt, hglt, hF, hne, h1, h2, hix, hcell, hent⟩ := GX.out.at hlt
            obtain ⟨he1, he2, he3⟩ := hent q hqm
            obtain ⟨Ab, ob, rb, rcb, hAb, hixb, hcb, hrb⟩ := line_at (hB.below lineF_firm hbx) SB.out hlt
            obtain ⟨Bb, pb, hBb, heb, hixb2⟩ := hrb q hqm
            have GS := Lib.hid ((GX.out.same Same.drew).store hlt hqm (at2 b k q))
            have hop : at2 b k q = max (at2 a k q) (at2 b k q) := by omega
            rw [hop, mix2_put, ← hop] at GS
            have hbS : Below w.heap.size w ((wx.drew).setCell ⟨gs k, q, none⟩ (.int .i64 (at2 b k q))) := hbx.drew.setCell (p := ⟨gs k, q, none⟩) hF _
            clear hent hrb hop
            go_wp2_with fail
            go_still_tail 13, (by kernel_rfl)
            change wpList _ _ _ _ _ wx.drew
            go_wp2
            go_roundw
            case rel => exact ⟨q + 1, by omega, by go_num, hbS, GS⟩
            case measure => simp [intOf]; omega
        · obtain rfl : q = m := by omega
          have GN : Hid (Grid (from_ w.heap.size) wr ao2 q cap2 gs (mix2 max a b (k + 1) 0)) := GI.out.congr (mix2_row _ _ _ _ _)
          clear GI
          go_wp2
          go_roundw
          case rel => exact ⟨k + 1, by omega, by go_num, hbi, GN⟩
          case measure => simp [intOf]; omega
    · obtain rfl : k = m := by omega
      go_wp2
      go_ret2
      exact ⟨ao2, cap2, gs, rfl, hbr, GR.out⟩
set_option maxHeartbeats 1000000 in
theorem merged_bad (F G : Nat → Prop) (ao : Option Addr) (n cap : Nat) (a : List (List Int)) (bo : Option Addr) (m bcap : Nat) (b : List (List Int)) (l : Bool) (w : World) (hA : SlF F w 1 lineF ao n cap a) (hB : SlF G w 1 lineF bo m bcap b) (hE : pairE a b ≠ 0) :
    Calls Try.prog 12 #[.slice ao n cap, .slice bo m bcap, .bool l] w fun e w' => e = .returned (.tuple #[.slice none 0 0, .int .i64 (pairE a b)]) ∧ Below w.heap.size w w' := by
  have HA : Hid (∀ wx, Below w.heap.size w wx → Calls Try.prog 27 #[.slice ao n cap] wx fun e w' => e = .returned (.int .i64 (matE a)) ∧ Below wx.heap.size wx w') := fun wx hb => matFault_any ao n cap a wx (mat_old (hA.below lineF_firm hb))
  have HB : Hid (∀ wx, Below w.heap.size w wx → Calls Try.prog 27 #[.slice bo m bcap] wx fun e w' => e = .returned (.int .i64 (matE b)) ∧ Below wx.heap.size wx w') := fun wx hb => matFault_any bo m bcap b wx (mat_old (hB.below lineF_firm hb))
  have NA : Hid (n = a.length) := hA.len
  have NB : Hid (m = b.length) := hB.len
  by_cases ha : matE a = 0
  · have HA0 : Hid (∀ wx, Below w.heap.size w wx → Calls Try.prog 27 #[.slice ao n cap] wx fun e w' => e = .returned (.int .i64 0) ∧ Below wx.heap.size wx w') := by rw [← ha]; exact HA
    by_cases hb : matE b = 0
    · have HB0 : Hid (∀ wx, Below w.heap.size w wx → Calls Try.prog 27 #[.slice bo m bcap] wx fun e w' => e = .returned (.int .i64 0) ∧ Below wx.heap.size wx w') := by rw [← hb]; exact HB
      have hl : ¬ a.length = b.length := fun e => hE (by simp [pairE, ha, hb, e])
      have hP : Hid (pairE a b = 4) := by show _ = _; simp [pairE, ha, hb, hl]
      have hq : ((n : Int) != (m : Int)) = true := by have := NA.out; have := NB.out; simp; omega
      clear hE ha hb hl HA HB
      go_enter Try.func12, Try.ntmps12
      go_wp2_with fail
      refine (HA0.out _ (by repeat (first | exact Below.refl _ _ | assumption | refine below_step ?_ (by assumption) | refine below_step ?_ (Joins.below_draws _ _ _) | (refine Below.alloc ?_ (by first | omega | (simp; done) | (simp; omega)) _) | (refine Below.setCell ?_ (by first | omega | (simp; done) | (simp; omega)) _) | refine Below.drew ?_))).mono ?_
      rintro e w1 ⟨rfl, hb1⟩
      go_wp2_with fail
      refine (HB0.out _ (by repeat (first | exact Below.refl _ _ | assumption | refine below_step ?_ (by assumption) | refine below_step ?_ (Joins.below_draws _ _ _) | (refine Below.alloc ?_ (by first | omega | (simp; done) | (simp; omega)) _) | (refine Below.setCell ?_ (by first | omega | (simp; done) | (simp; omega)) _) | refine Below.drew ?_))).mono ?_
      rintro e w2 ⟨rfl, hb2⟩
      go_wp2
      go_ret2
      exact ⟨by rw [hP.out]; rfl, (by repeat (first | exact Below.refl _ _ | assumption | refine below_step ?_ (by assumption) | refine below_step ?_ (Joins.below_draws _ _ _) | (refine Below.alloc ?_ (by first | omega | (simp; done) | (simp; omega)) _) | (refine Below.setCell ?_ (by first | omega | (simp; done) | (simp; omega)) _) | refine Below.drew ?_))⟩
    · have hP : Hid (pairE a b = matE b) := by show _ = _; simp [pairE, ha, hb]
      have hq : (matE b != 0) = true := by simpa using hb
      have hq2 : (matE b == 0) = false := by simpa using hb
      clear hE ha hb HA
      go_enter Try.func12, Try.ntmps12
      go_wp2_with fail
      refine (HA0.out _ (by repeat (first | exact Below.refl _ _ | assumption | refine below_step ?_ (by assumption) | refine below_step ?_ (Joins.below_draws _ _ _) | (refine Below.alloc ?_ (by first | omega | (simp; done) | (simp; omega)) _) | (refine Below.setCell ?_ (by first | omega | (simp; done) | (simp; omega)) _) | refine Below.drew ?_))).mono ?_
      rintro e w1 ⟨rfl, hb1⟩
      go_wp2_with fail
      refine (HB.out _ (by repeat (first | exact Below.refl _ _ | assumption | refine below_step ?_ (by assumption) | refine below_step ?_ (Joins.below_draws _ _ _) | (refine Below.alloc ?_ (by first | omega | (simp; done) | (simp; omega)) _) | (refine Below.setCell ?_ (by first | omega | (simp; done) | (simp; omega)) _) | refine Below.drew ?_))).mono ?_
      rintro e w2 ⟨rfl, hb2⟩
      go_wp2
      go_ret2
      exact ⟨by rw [hP.out]; rfl, (by repeat (first | exact Below.refl _ _ | assumption | refine below_step ?_ (by assumption) | refine below_step ?_ (Joins.below_draws _ _ _) | (refine Below.alloc ?_ (by first | omega | (simp; done) | (simp; omega)) _) | (refine Below.setCell ?_ (by first | omega | (simp; done) | (simp; omega)) _) | refine Below.drew ?_))⟩
  · have hP : Hid (pairE a b = matE a) := by show _ = _; simp [pairE, ha]
    have hq : (matE a != 0) = true := by simpa using ha
    have hq2 : (matE a == 0) = false := by simpa using ha
    clear hE ha
    go_enter Try.func12, Try.ntmps12
    go_wp2_with fail
    refine (HA.out _ (by repeat (first | exact Below.refl _ _ | assumption | refine below_step ?_ (by assumption) | refine below_step ?_ (Joins.below_draws _ _ _) | (refine Below.alloc ?_ (by first | omega | (simp; done) | (simp; omega)) _) | (refine Below.setCell ?_ (by first | omega | (simp; done) | (simp; omega)) _) | refine Below.drew ?_))).mono ?_
    rintro e w1 ⟨rfl, hb1⟩
    go_wp2
    go_ret2
    exact ⟨by rw [hP.out]; rfl, (by repeat (first | exact Below.refl _ _ | assumption | refine below_step ?_ (by assumption) | refine below_step ?_ (Joins.below_draws _ _ _) | (refine Below.alloc ?_ (by first | omega | (simp; done) | (simp; omega)) _) | (refine Below.setCell ?_ (by first | omega | (simp; done) | (simp; omega)) _) | refine Below.drew ?_))⟩
end Go.Proofs.Ytldbgbcabenegaa
