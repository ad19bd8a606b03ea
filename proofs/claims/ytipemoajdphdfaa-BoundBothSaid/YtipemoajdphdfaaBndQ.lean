/-
  The walks of package bound and its reference, eighth part: a pair checked, two matrices joined.
-/
import Derived.Test.YtipemoajdphdfaaBndO
namespace Go.Proofs.Ytipemoajdphdfaa
open Go.RowKit
set_option linter.unusedVariables false
set_option linter.unusedSimpArgs false

def pairE (a b : List (List Int)) : Int := if matE a = 0 then (if matE b = 0 then (if a.length = b.length then 0 else 4) else matE b) else matE a
set_option maxHeartbeats 1000000 in
theorem pair_any (F G : Nat → Prop) (ao : Option Addr) (n cap : Nat) (a : List (List Int)) (bo : Option Addr) (m bcap : Nat) (b : List (List Int)) (w : World) (hA : SlF F w 1 lineF ao n cap a) (hB : SlF G w 1 lineF bo m bcap b) :
    Calls Try.prog 72 #[.slice ao n cap, .slice bo m bcap] w fun e w' => e = .returned (.int .i64 (pairE a b)) ∧ Below w.heap.size w w' := by
  have i0 : ∀ wx, (Instr.index 146 (.agg #[.slice ao n cap, .slice bo m bcap]) (.int .i64 0)).run Try.prog wx = .ok (.slice ao n cap) wx := fun _ => by kernel_rfl
  have i1 : ∀ wx, (Instr.index 146 (.agg #[.slice ao n cap, .slice bo m bcap]) (.int .i64 1)).run Try.prog wx = .ok (.slice bo m bcap) wx := fun _ => by kernel_rfl
  have HA : Hid (∀ wx, Below w.heap.size w wx → Calls Try.prog 14 #[.slice ao n cap] wx fun e w' => e = .returned (.int .i64 (matE a)) ∧ Below wx.heap.size wx w') := fun wx hb => matCheck_any ao n cap a wx (mat_old (hA.below lineF_firm hb))
  have HB : Hid (∀ wx, Below w.heap.size w wx → Calls Try.prog 14 #[.slice bo m bcap] wx fun e w' => e = .returned (.int .i64 (matE b)) ∧ Below wx.heap.size wx w') := fun wx hb => matCheck_any bo m bcap b wx (mat_old (hB.below lineF_firm hb))
  have NA : Hid (n = a.length) := hA.len
  have NB : Hid (m = b.length) := hB.len
  by_cases ha : matE a = 0
  · by_cases hb : matE b = 0
    · have EA := Lib.hid ha
      have EB := Lib.hid hb
      have HA0 : Hid (∀ wx, Below w.heap.size w wx → Calls Try.prog 14 #[.slice ao n cap] wx fun e w' => e = .returned (.int .i64 0) ∧ Below wx.heap.size wx w') := by rw [← ha]; exact HA
      have HB0 : Hid (∀ wx, Below w.heap.size w wx → Calls Try.prog 14 #[.slice bo m bcap] wx fun e w' => e = .returned (.int .i64 0) ∧ Below wx.heap.size wx w') := by rw [← hb]; exact HB
      clear ha hb HA HB
      by_cases hnm : n = m
      · have hq : ((n : Int) != (m : Int)) = false := by simp [hnm]
        have NM := Lib.hid hnm
        clear hnm
        go_enter Try.func72, Try.ntmps72
        go_wp2_with fail
        refine wp_loop_rounds 3 ?_
        rw [rounds_succ]
        go_wp2_with fail
        refine (HA0.out _ (by repeat (first | exact Below.refl _ _ | assumption | refine below_step ?_ (by assumption) | refine below_step ?_ (Joins.below_draws _ _ _) | (refine Below.alloc ?_ (by first | omega | (simp; done) | (simp; omega)) _) | (refine Below.setCell ?_ (by first | omega | (simp; done) | (simp; omega)) _) | refine Below.drew ?_))).mono ?_
        rintro e w1 ⟨rfl, hb1⟩
        go_wp2_with fail
        rw [rounds_succ]
        go_wp2_with fail
        refine (HB0.out _ (by repeat (first | exact Below.refl _ _ | assumption | refine below_step ?_ (by assumption) | refine below_step ?_ (Joins.below_draws _ _ _) | (refine Below.alloc ?_ (by first | omega | (simp; done) | (simp; omega)) _) | (refine Below.setCell ?_ (by first | omega | (simp; done) | (simp; omega)) _) | refine Below.drew ?_))).mono ?_
        rintro e w2 ⟨rfl, hb2⟩
        go_wp2_with fail
        rw [rounds_succ]
        go_wp2
        go_ret
        exact ⟨ret_int (by simp [pairE, EA.out, EB.out, ← NA.out, ← NB.out, NM.out]), (by repeat (first | exact Below.refl _ _ | assumption | refine below_step ?_ (by assumption) | refine below_step ?_ (Joins.below_draws _ _ _) | (refine Below.alloc ?_ (by first | omega | (simp; done) | (simp; omega)) _) | (refine Below.setCell ?_ (by first | omega | (simp; done) | (simp; omega)) _) | refine Below.drew ?_))⟩
      · have hq : ((n : Int) != (m : Int)) = true := by simp; omega
        have NM := Lib.hid hnm
        clear hnm
        go_enter Try.func72, Try.ntmps72
        go_wp2_with fail
        refine wp_loop_rounds 3 ?_
        rw [rounds_succ]
        go_wp2_with fail
        refine (HA0.out _ (by repeat (first | exact Below.refl _ _ | assumption | refine below_step ?_ (by assumption) | refine below_step ?_ (Joins.below_draws _ _ _) | (refine Below.alloc ?_ (by first | omega | (simp; done) | (simp; omega)) _) | (refine Below.setCell ?_ (by first | omega | (simp; done) | (simp; omega)) _) | refine Below.drew ?_))).mono ?_
        rintro e w1 ⟨rfl, hb1⟩
        go_wp2_with fail
        rw [rounds_succ]
        go_wp2_with fail
        refine (HB0.out _ (by repeat (first | exact Below.refl _ _ | assumption | refine below_step ?_ (by assumption) | refine below_step ?_ (Joins.below_draws _ _ _) | (refine Below.alloc ?_ (by first | omega | (simp; done) | (simp; omega)) _) | (refine Below.setCell ?_ (by first | omega | (simp; done) | (simp; omega)) _) | refine Below.drew ?_))).mono ?_
        rintro e w2 ⟨rfl, hb2⟩
        go_wp2_with fail
        rw [rounds_succ]
        go_wp2
        go_ret
        exact ⟨ret_int (by simp [pairE, EA.out, EB.out, ← NA.out, ← NB.out, NM.out]), (by repeat (first | exact Below.refl _ _ | assumption | refine below_step ?_ (by assumption) | refine below_step ?_ (Joins.below_draws _ _ _) | (refine Below.alloc ?_ (by first | omega | (simp; done) | (simp; omega)) _) | (refine Below.setCell ?_ (by first | omega | (simp; done) | (simp; omega)) _) | refine Below.drew ?_))⟩
    · have EA := Lib.hid ha
      have EB := Lib.hid hb
      have HA0 : Hid (∀ wx, Below w.heap.size w wx → Calls Try.prog 14 #[.slice ao n cap] wx fun e w' => e = .returned (.int .i64 0) ∧ Below wx.heap.size wx w') := by rw [← ha]; exact HA
      have hq : (matE b != 0) = true := by simpa using hb
      clear ha hb HA
      go_enter Try.func72, Try.ntmps72
      go_wp2_with fail
      refine wp_loop_rounds 3 ?_
      rw [rounds_succ]
      go_wp2_with fail
      refine (HA0.out _ (by repeat (first | exact Below.refl _ _ | assumption | refine below_step ?_ (by assumption) | refine below_step ?_ (Joins.below_draws _ _ _) | (refine Below.alloc ?_ (by first | omega | (simp; done) | (simp; omega)) _) | (refine Below.setCell ?_ (by first | omega | (simp; done) | (simp; omega)) _) | refine Below.drew ?_))).mono ?_
      rintro e w1 ⟨rfl, hb1⟩
      go_wp2_with fail
      rw [rounds_succ]
      go_wp2_with fail
      refine (HB.out _ (by repeat (first | exact Below.refl _ _ | assumption | refine below_step ?_ (by assumption) | refine below_step ?_ (Joins.below_draws _ _ _) | (refine Below.alloc ?_ (by first | omega | (simp; done) | (simp; omega)) _) | (refine Below.setCell ?_ (by first | omega | (simp; done) | (simp; omega)) _) | refine Below.drew ?_))).mono ?_
      rintro e w2 ⟨rfl, hb2⟩
      go_wp2
      go_ret
      exact ⟨ret_int (by simp [pairE, EA.out, EB.out]), (by repeat (first | exact Below.refl _ _ | assumption | refine below_step ?_ (by assumption) | refine below_step ?_ (Joins.below_draws _ _ _) | (refine Below.alloc ?_ (by first | omega | (simp; done) | (simp; omega)) _) | (refine Below.setCell ?_ (by first | omega | (simp; done) | (simp; omega)) _) | refine Below.drew ?_))⟩
  · have EA := Lib.hid ha
    have hq : (matE a != 0) = true := by simpa using ha
    clear ha
    go_enter Try.func72, Try.ntmps72
    go_wp2_with fail
    refine wp_loop_rounds 3 ?_
    rw [rounds_succ]
    go_wp2_with fail
    refine (HA.out _ (by repeat (first | exact Below.refl _ _ | assumption | refine below_step ?_ (by assumption) | refine below_step ?_ (Joins.below_draws _ _ _) | (refine Below.alloc ?_ (by first | omega | (simp; done) | (simp; omega)) _) | (refine Below.setCell ?_ (by first | omega | (simp; done) | (simp; omega)) _) | refine Below.drew ?_))).mono ?_
    rintro e w1 ⟨rfl, hb1⟩
    go_wp2
    go_ret
    exact ⟨ret_int (by simp [pairE, EA.out]), (by repeat (first | exact Below.refl _ _ | assumption | refine below_step ?_ (by assumption) | refine below_step ?_ (Joins.below_draws _ _ _) | (refine Below.alloc ?_ (by first | omega | (simp; done) | (simp; omega)) _) | (refine Below.setCell ?_ (by first | omega | (simp; done) | (simp; omega)) _) | refine Below.drew ?_))⟩

theorem min_any (x y : Int) (w : World) : Calls Try.prog 51 #[.int .i64 x, .int .i64 y] w fun e w' => e = .returned (.int .i64 (min x y)) ∧ w = w' := by
  go_enter Try.func51, Try.ntmps51
  go_wp2
  all_goals (go_ret; exact ⟨ret_int (by first | rfl | omega), rfl⟩)
theorem max_any (x y : Int) (w : World) : Calls Try.prog 53 #[.int .i64 x, .int .i64 y] w fun e w' => e = .returned (.int .i64 (max x y)) ∧ w = w' := by
  go_enter Try.func53, Try.ntmps53
  go_wp2
  all_goals (go_ret; exact ⟨ret_int (by first | rfl | omega), rfl⟩)

def mix2 (op : Int → Int → Int) (a b : List (List Int)) (i j : Nat) : Nat → Nat → Int := fun r c => if r < i ∨ (r = i ∧ c < j) then op (at2 a r c) (at2 b r c) else at2 a r c
theorem mix2_put (op : Int → Int → Int) (a b : List (List Int)) (i j : Nat) : put2 (mix2 op a b i j) i j (op (at2 a i j) (at2 b i j)) = mix2 op a b i (j + 1) := by
  funext r c
  unfold put2 mix2
  by_cases h : r = i ∧ c = j
  · obtain ⟨rfl, rfl⟩ := h
    rw [if_pos ⟨rfl, rfl⟩, if_pos (by omega)]
  · rw [if_neg h]
    by_cases h2 : r < i ∨ (r = i ∧ c < j)
    · rw [if_pos h2, if_pos (by omega)]
    · rw [if_neg h2, if_neg (by omega)]
theorem mix2_keep (op : Int → Int → Int) (a b : List (List Int)) (i j : Nat) (h : op (at2 a i j) (at2 b i j) = at2 a i j) : mix2 op a b i j = mix2 op a b i (j + 1) := by
  funext r c
  unfold mix2
  by_cases h1 : r = i ∧ c = j
  · obtain ⟨rfl, rfl⟩ := h1
    rw [if_neg (by omega), if_pos (by omega), h]
  · by_cases h2 : r < i ∨ (r = i ∧ c < j)
    · rw [if_pos h2, if_pos (by omega)]
    · rw [if_neg h2, if_neg (by omega)]
theorem mix2_row (op : Int → Int → Int) (a b : List (List Int)) (n i : Nat) : ∀ r c, r < n → c < n → mix2 op a b i n r c = mix2 op a b (i + 1) 0 r c := by
  intro r c _ hc
  unfold mix2
  by_cases h2 : r < i ∨ (r = i ∧ c < n)
  · rw [if_pos h2, if_pos (by omega)]
  · rw [if_neg h2, if_neg (by omega)]
theorem mix2_start (op : Int → Int → Int) (a b : List (List Int)) : mix2 op a b 0 0 = at2 a := by
  funext r c; unfold mix2; rw [if_neg (by omega)]
theorem mix2_end (op : Int → Int → Int) (a b : List (List Int)) (n : Nat) : ∀ r c, r < n → c < n → mix2 op a b n 0 r c = op (at2 a r c) (at2 b r c) := by
  intro r c hr _; unfold mix2; rw [if_pos (by omega)]
theorem mix2_here (op : Int → Int → Int) (a b : List (List Int)) (i j : Nat) : mix2 op a b i j i j = at2 a i j := by
  unfold mix2; rw [if_neg (by omega)]

/-- What the walk wants to know of an entry of a matrix that is only read. -/
theorem line_at {F : Nat → Prop} {w : World} {ao : Option Addr} {n cap : Nat} {m : List (List Int)} (h : SlF F w 1 lineF ao n cap m) (hsq : ∀ i, i < m.length → (m.getD i []).length = m.length) {i : Nat} (hi : i < n) :
    ∃ A off ra rc, A < w.heap.size ∧ (∀ wx, (Instr.indexAt 23 (.slice ao n cap) (.int .i64 i)).run Try.prog wx = .ok (.pointer (some ⟨A, off + i, none⟩)) wx) ∧
      w.cell? ⟨A, off + i, none⟩ = some (.slice ra n rc) ∧ ∀ j, j < n → ∃ B o, B < w.heap.size ∧ w.cell? ⟨B, o + j, none⟩ = some (.int .i64 (at2 m i j)) ∧
        ∀ wx, (Instr.indexAt 67 (.slice ra n rc) (.int .i64 j)).run Try.prog wx = .ok (.pointer (some ⟨B, o + j, none⟩)) wx := by
  have hil : i < m.length := by have := h.len; omega
  obtain ⟨b, off, row, hix, hblt, hrow, ra, n2, rc, rfl, hR, h8⟩ := h.toR.index (P := Try.prog) Try.underlying23 size_ints (i := i) hil
  have c0 := hrow.one
  simp only [Nat.mul_one] at hix c0
  have hn2 : n2 = n := by
    have h1 := hR.len
    have h2 := hsq i hil
    rw [line_getD m i hil] at h2
    have := h.len
    omega
  subst hn2
  refine ⟨b, off, ra, rc, hblt, hix, c0, fun j hj => ?_⟩
  have hjl : j < m[i].length := by have := hR.len; omega
  obtain ⟨b2, off2, row2, hix2, hblt2, hrow2, hrr2⟩ := hR.toR.index (P := Try.prog) Try.underlying67 size_int (i := j) hjl
  obtain rfl := intF_one hrr2
  have d0 := hrow2.one
  simp only [Nat.mul_one] at hix2 d0
  refine ⟨b2, off2, hblt2, ?_, hix2⟩
  rw [d0]
  simp [at2, List.getElem?_eq_getElem hil, List.getElem?_eq_getElem hjl]
end Go.Proofs.Ytipemoajdphdfaa
