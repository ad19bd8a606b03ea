/-
  The walks of bound.Close and its reference.
-/
import Derived.Test.YtpgjfnchmgenhaaFwT
namespace Go.Proofs.Ytpgjfnchmgenhaa
open Go.RowKit
set_option linter.unusedVariables false
set_option linter.unusedSimpArgs false

theorem line_at {F : Nat → Prop} {w : World} {ao : Option Addr} {n cap : Nat} {m : List (List Int)} (h : SlF F w 1 lineF ao n cap m) (hsq : ∀ i, i < m.length → (m.getD i []).length = m.length) {i : Nat} (hi : i < n) :
    ∃ A off ra rc, A < w.heap.size ∧ (∀ wx, (Instr.indexAt 23 (.slice ao n cap) (.int .i64 i)).run Try.prog wx = .ok (.pointer (some ⟨A, off + i, none⟩)) wx) ∧
      w.cell? ⟨A, off + i, none⟩ = some (.slice ra n rc) ∧ ∀ j, j < n → ∃ B o, B < w.heap.size ∧ w.cell? ⟨B, o + j, none⟩ = some (.int .i64 (at2 m i j)) ∧
        ∀ wx, (Instr.indexAt 30 (.slice ra n rc) (.int .i64 j)).run Try.prog wx = .ok (.pointer (some ⟨B, o + j, none⟩)) wx := by
  have hil : i < m.length := by have := h.len; omega
  obtain ⟨b, off, row, hix, hblt, hrow, ra, n2, rc, rfl, hR, h8⟩ := h.toR.index (P := Try.prog) Try.underlying23 size_ints (i := i) hil
  have c0 := hrow.one
  simp only [Nat.mul_one] at hix c0
  have hn2 : n2 = n := by
    have h1 := hR.len
    have h2 := hsq i hil
    rw [line_getD m i hil] at h2
    have := h.len
    omega
  subst hn2
  refine ⟨b, off, ra, rc, hblt, hix, c0, fun j hj => ?_⟩
  have hjl : j < m[i].length := by have := hR.len; omega
  obtain ⟨b2, off2, row2, hix2, hblt2, hrow2, hrr2⟩ := hR.toR.index (P := Try.prog) Try.underlying30 size_int (i := j) hjl
  obtain rfl := intF_one hrr2
  have d0 := hrow2.one
  simp only [Nat.mul_one] at hix2 d0
  refine ⟨b2, off2, hblt2, ?_, hix2⟩
  rw [d0]
  simp [at2, List.getElem?_eq_getElem hil, List.getElem?_eq_getElem hjl]

/-- What a bound, a row, a matrix is refused for ahead of the tightening. -/
def bndE (x : Int) : Int := if x ≠ NOB ∧ (x < -2147483648 ∨ 2147483648 < x) then 2 else 0
def rowE (m : List (List Int)) (n i : Nat) : Int := if at2 m i i = 0 then firstN (fun j => bndE (at2 m i j)) n else 4
def closE (m : List (List Int)) : Int := if matE m = 0 then firstN (rowE m m.length) m.length else matE m
/-- What it comes to: the code, the matrix. -/
def closC (m : List (List Int)) : Int := if closE m = 0 then (if okb m.length (shutF m.length (at2 m)) = true then 0 else 16) else closE m
def closM (m : List (List Int)) : List (List Int) := if closC m = 0 then gridL m.length (shutF m.length (at2 m)) else []
def ClosPost (m : List (List Int)) (w : World) (x : Ending) (w' : World) : Prop :=
  ∃ ao' n' cap', x = .returned (.tuple #[.slice ao' n' cap', .int .i64 (closC m)]) ∧ Below w.heap.size w w' ∧ SlF (from_ w.heap.size) w' 1 lineF ao' n' cap' (closM m)
theorem bnd_good {x : Int} (h : bndE x = 0) : x = NOB ∨ (-(2147483648 * 2 ^ 0) ≤ x ∧ x ≤ 2147483648 * 2 ^ 0) := by
  unfold bndE at h
  split at h
  · exact absurd h (by decide)
  · by_cases e : x = NOB
    · exact Or.inl e
    · right; omega
theorem firstN_all {f : Nat → Int} : ∀ {n : Nat}, firstN f n = 0 → ∀ j, j < n → f j = 0
  | 0, _, j, hj => absurd hj (Nat.not_lt_zero j)
  | n + 1, h, j, hj => by
    unfold firstN at h
    by_cases e : firstN f n = 0
    · rw [if_pos e] at h
      by_cases ej : j = n
      · rw [ej]; exact h
      · exact firstN_all e j (by omega)
    · rw [if_neg e] at h; exact absurd h e
theorem row_diag {m : List (List Int)} {n i : Nat} (h : rowE m n i = 0) : at2 m i i = 0 := by
  unfold rowE at h
  by_cases e : at2 m i i = 0
  · exact e
  · rw [if_neg e] at h; exact absurd h (by decide)
theorem row_bnd {m : List (List Int)} {n i j : Nat} (h : rowE m n i = 0) (hj : j < n) : bndE (at2 m i j) = 0 := by
  have e := row_diag h
  unfold rowE at h
  rw [if_pos e] at h
  exact firstN_all h j hj
theorem closE_row {m : List (List Int)} {q : Nat} {c : Int} (hE : matE m = 0) (hA : AllZ (rowE m m.length) q) (hq : q < m.length) (h : rowE m m.length q = c) (hc : c ≠ 0) : closE m = c := by
  unfold closE
  rw [if_pos hE, firstN_at hA hq (by rw [h]; exact hc), h]

set_option maxHeartbeats 4000000 in
set_option maxRecDepth 100000 in
theorem close_any (F : Nat → Prop) (ao : Option Addr) (n cap : Nat) (m : List (List Int)) (w : World) (hM : SlF F w 1 lineF ao n cap m) : Calls Try.prog 5 #[.slice ao n cap] w (ClosPost m w) := by
  have NL : Hid (n = m.length) := hM.len
  have hle := hM.le
  have HC := Lib.hid (matCheck_any ao n cap m w (mat_old hM))
  have HM := Lib.hid hM
  clear hM
  by_cases hE : matE m = 0
  · have ME := Lib.hid hE
    obtain ⟨h12, hsq⟩ := matE_square hE
    have SQ := Lib.hid hsq
    rw [hE] at HC
    have hn12 : n ≤ 12 := by have := NL.out; omega
    clear hE hsq h12
    go_enter Try.func5, Try.ntmps5
    go_wp2_with fail
    refine HC.out.mono ?_
    rintro e w1 ⟨rfl, hb1⟩
    go_wp2_with fail
    go_loopw [16] (fun i wr => ∃ q : Nat, q ≤ n ∧ i = .int .i64 q ∧ Below w.heap.size w wr ∧ Hid (AllZ (rowE m m.length) q)) (fun i _ => n - (intOf i).toNat)
    case atStart => exact ⟨0, by omega, rfl, hb1, allZ_zero _⟩
    case round =>
      obtain ⟨q, hq, rfl, hbr, AR⟩ := hrel
      by_cases hqn : q < n
      · have hq1 : (q : Int) < n := by omega
        have hql : q < m.length := by have := NL.out; omega
        obtain ⟨Aa, oa, ra, rca, hAa, hixa, hca, hra⟩ := line_at HM.out SQ.out hqn
        obtain ⟨Ba, pa, hBa, hea, hixa2⟩ := hra q hqn
        have RA := Lib.hid hra
        have CA := Lib.hid hca
        have ca : wr.cell? ⟨Aa, oa + q, none⟩ = some (.slice ra n rca) := (hbr.cell (p := ⟨Aa, oa + q, none⟩) hAa).trans hca
        have ea : wr.cell? ⟨Ba, pa + q, none⟩ = some (.int .i64 (at2 m q q)) := (hbr.cell (p := ⟨Ba, pa + q, none⟩) hBa).trans hea
        have lA : Aa < wr.heap.size := Nat.lt_of_lt_of_le hAa hbr.size
        have lB : Ba < wr.heap.size := Nat.lt_of_lt_of_le hBa hbr.size
        clear hra hca hea
        by_cases hd : at2 m q q = 0
        · have hd1 : (at2 m q q != 0) = false := by simpa using hd
          go_wp2_with fail
          go_loopw [32] (fun j wr => ∃ p : Nat, p ≤ n ∧ j = .int .i64 p ∧ Below w.heap.size w wr ∧ Hid (AllZ (fun j => bndE (at2 m q j)) p)) (fun j _ => n - (intOf j).toNat)
          case atStart => exact ⟨0, by omega, rfl, hbr, allZ_zero _⟩
          case round =>
            obtain ⟨p, hp, rfl, hbj, AZ⟩ := hrel
            clear ca ea lA lB
            have ca : wr.cell? ⟨Aa, oa + q, none⟩ = some (.slice ra n rca) := (hbj.cell (p := ⟨Aa, oa + q, none⟩) hAa).trans CA.out
            have lA : Aa < wr.heap.size := Nat.lt_of_lt_of_le hAa hbj.size
            by_cases hpn : p < n
            · have hp1 : (p : Int) < n := by omega
              have hpl : p < m.length := by have := NL.out; omega
              obtain ⟨Bb, pb, hBb, heb0, hixb⟩ := RA.out p hpn
              have heb : wr.cell? ⟨Bb, pb + p, none⟩ = some (.int .i64 (at2 m q p)) := (hbj.cell (p := ⟨Bb, pb + p, none⟩) hBb).trans heb0
              have lb : Bb < wr.heap.size := Nat.lt_of_lt_of_le hBb hbj.size
              clear heb0
              generalize hx : at2 m q p = x at heb
              by_cases hN : x = NOB
              · have BZ : Hid (AllZ (fun j => bndE (at2 m q j)) (p + 1)) := allZ_succ AZ.out (by show bndE (at2 m q p) = 0; rw [hx]; unfold bndE; rw [if_neg (fun h => h.1 hN)])
                have hN1 : (x != 1152921504606846976) = false := by rw [hN]; rfl
                clear hN hx
                go_wp2
                go_roundw
                case rel => exact ⟨p + 1, by omega, by go_num, hbj, BZ⟩
                case measure => simp [intOf]; omega
              · have hN1 : (x != 1152921504606846976) = true := by unfold NOB at hN; simpa using hN
                by_cases hlo : x < -2147483648
                · have hb2 : bndE (at2 m q p) ≠ 0 := by rw [hx]; unfold bndE; rw [if_pos ⟨hN, Or.inl hlo⟩]; decide
                  have hb3 : bndE (at2 m q p) = 2 := by rw [hx]; unfold bndE; rw [if_pos ⟨hN, Or.inl hlo⟩]
                  have hin : inB x (-2147483648) 2147483648 = false := inB_false.2 (by omega)
                  have C0 : Hid (closE m = 2) := closE_row ME.out AR.out hql (by unfold rowE; rw [if_pos hd]; exact (firstN_at AZ.out hpl hb2).trans hb3) (by decide)
                  have C : Hid (closC m = 2) := by show _ = _; unfold closC; rw [C0.out]; rfl
                  have M0 : Hid (closM m = []) := by show _ = _; unfold closM; rw [C.out]; rfl
                  go_wp2
                  go_ret2
                  exact ⟨none, 0, 0, by rw [C.out]; rfl, hbj, by rw [M0.out]; exact SlF.nil⟩
                · by_cases hhi : 2147483648 < x
                  · have hb2 : bndE (at2 m q p) ≠ 0 := by rw [hx]; unfold bndE; rw [if_pos ⟨hN, Or.inr hhi⟩]; decide
                    have hb3 : bndE (at2 m q p) = 2 := by rw [hx]; unfold bndE; rw [if_pos ⟨hN, Or.inr hhi⟩]
                    have hin : inB x (-2147483648) 2147483648 = false := inB_false.2 (by omega)
                    have C0 : Hid (closE m = 2) := closE_row ME.out AR.out hql (by unfold rowE; rw [if_pos hd]; exact (firstN_at AZ.out hpl hb2).trans hb3) (by decide)
                    have C : Hid (closC m = 2) := by show _ = _; unfold closC; rw [C0.out]; rfl
                    have M0 : Hid (closM m = []) := by show _ = _; unfold closM; rw [C.out]; rfl
                    go_wp2
                    go_ret2
                    exact ⟨none, 0, 0, by rw [C.out]; rfl, hbj, by rw [M0.out]; exact SlF.nil⟩
                  · have BZ : Hid (AllZ (fun j => bndE (at2 m q j)) (p + 1)) := allZ_succ AZ.out (by show bndE (at2 m q p) = 0; rw [hx]; unfold bndE; rw [if_neg (by omega)])
                    have hin : inB x (-2147483648) 2147483648 = true := inB_true.2 (by omega)
                    clear hx
                    go_wp2
                    go_roundw
                    case rel => exact ⟨p + 1, by omega, by go_num, hbj, BZ⟩
                    case measure => simp [intOf]; omega
            · obtain rfl : p = n := by omega
              have RZ : Hid (AllZ (rowE m m.length) (q + 1)) := allZ_succ AR.out (by unfold rowE; rw [if_pos hd, ← NL.out]; exact firstN_zero AZ.out)
              go_wp2
              go_roundw
              case rel => exact ⟨q + 1, by omega, by go_num, hbj, RZ⟩
              case measure => simp [intOf]; omega
        · have hd1 : (at2 m q q != 0) = true := by simpa using hd
          have C0 : Hid (closE m = 4) := closE_row ME.out AR.out hql (by unfold rowE; rw [if_neg hd]) (by decide)
          have C : Hid (closC m = 4) := by show _ = _; unfold closC; rw [C0.out]; rfl
          have M0 : Hid (closM m = []) := by show _ = _; unfold closM; rw [C.out]; rfl
          clear hd
          go_wp2
          go_ret2
          exact ⟨none, 0, 0, by rw [C.out]; rfl, (by repeat (first | exact Below.refl _ _ | assumption | refine below_step ?_ (by assumption) | refine below_step ?_ (Joins.below_draws _ _ _) | (refine Below.alloc ?_ (by first | omega | (simp; done) | (simp; omega)) _) | (refine Below.setCell ?_ (by first | omega | (simp; done) | (simp; omega)) _) | refine Below.drew ?_)), by rw [M0.out]; exact SlF.nil⟩
      · obtain rfl : q = n := by omega
        have C0 : Hid (closE m = 0) := by show _ = _; unfold closE; rw [if_pos ME.out]; exact firstN_zero (fun j hj => AR.out j (by have := NL.out; omega))
        go_wp2_with fail
        refine (own_any F ao q cap m _ (HM.out.below lineF_firm hbr) hn12 SQ.out).mono ?_
        rintro e w2 ⟨ao2, cap2, gs, rfl, hb2, hG2⟩
        have hs2 := hb2.size
        have hs1 := hbr.size
        go_wp2_with fail
        refine (shut_any wr.heap.size ao2 q cap2 gs (at2 m) _ hs2 hG2).mono ?_
        rintro e w3 ⟨rfl, hb3, hG3⟩
        cases hok : okb q (shutF q (at2 m)) with
        | false =>
          have C : Hid (closC m = 16) := by show _ = _; unfold closC; rw [if_pos C0.out, ← NL.out, hok]; rfl
          have M0 : Hid (closM m = []) := by show _ = _; unfold closM; rw [C.out]; rfl
          go_wp2
          go_ret2
          exact ⟨none, 0, 0, by rw [C.out]; rfl, (hbr.trans (hb2.mono hs1)).trans (hb3.mono hs1), by rw [M0.out]; exact SlF.nil⟩
        | true =>
          have C : Hid (closC m = 0) := by show _ = _; unfold closC; rw [if_pos C0.out, ← NL.out, hok]; rfl
          have M0 : Hid (closM m = gridL q (shutF q (at2 m))) := by show _ = _; unfold closM; rw [if_pos C.out, ← NL.out]
          have hS3 := hG3.toF (by omega)
          have HS3 := Lib.hid hS3
          clear hS3 hG3 hG2
          go_wp2
          go_ret2
          exact ⟨ao2, q, cap2, by rw [C.out]; rfl, (hbr.trans (hb2.mono hs1)).trans (hb3.mono hs1), by rw [M0.out]; exact HS3.out.wide lineF_firm (fun b hb _ => Nat.le_trans hs1 hb)⟩
  · have C : Hid (closC m = matE m) := by show _ = _; unfold closC closE; rw [if_neg hE, if_neg hE]
    have M0 : Hid (closM m = []) := by show _ = _; unfold closM; rw [C.out, if_neg hE]
    have hq : (matE m != 0) = true := by simpa using hE
    clear hE
    go_enter Try.func5, Try.ntmps5
    go_wp2_with fail
    refine HC.out.mono ?_
    rintro e w1 ⟨rfl, hb1⟩
    go_wp2
    go_ret2
    exact ⟨none, 0, 0, by rw [C.out]; rfl, hb1, by rw [M0.out]; exact SlF.nil⟩

set_option maxHeartbeats 4000000 in
set_option maxRecDepth 100000 in
theorem closed_any (F : Nat → Prop) (ao : Option Addr) (n cap : Nat) (m : List (List Int)) (w : World) (hM : SlF F w 1 lineF ao n cap m) : Calls Try.prog 6 #[.slice ao n cap] w (ClosPost m w) := by
  have NL : Hid (n = m.length) := hM.len
  have hle := hM.le
  have HC := Lib.hid (matFault_any ao n cap m w (mat_old hM))
  have HM := Lib.hid hM
  clear hM
  by_cases hE : matE m = 0
  · have ME := Lib.hid hE
    obtain ⟨h12, hsq⟩ := matE_square hE
    have SQ := Lib.hid hsq
    rw [hE] at HC
    have hn12 : n ≤ 12 := by have := NL.out; omega
    clear hE hsq h12
    go_enter Try.func6, Try.ntmps6
    go_wp2_with fail
    refine HC.out.mono ?_
    rintro e w1 ⟨rfl, hb1⟩
    go_wp2_with fail
    go_loopw [5, 6] (fun i u6 wr => ∃ q : Nat, q ≤ n ∧ i = .int .i64 q ∧ Below w.heap.size w wr ∧ Hid (AllZ (rowE m m.length) q)) (fun i u6 _ => n - (intOf i).toNat)
    case atStart => exact ⟨0, by omega, rfl, hb1, allZ_zero _⟩
    case round =>
      obtain ⟨q, hq, rfl, hbr, AR⟩ := hrel
      by_cases hqn : q < n
      · have hq1 : (q : Int) < n := by omega
        have hql : q < m.length := by have := NL.out; omega
        obtain ⟨Aa, oa, ra, rca, hAa, hixa, hca, hra⟩ := line_at HM.out SQ.out hqn
        obtain ⟨Ba, pa, hBa, hea, hixa2⟩ := hra q hqn
        have RA := Lib.hid hra
        have CA := Lib.hid hca
        have ca : wr.cell? ⟨Aa, oa + q, none⟩ = some (.slice ra n rca) := (hbr.cell (p := ⟨Aa, oa + q, none⟩) hAa).trans hca
        have ea : wr.cell? ⟨Ba, pa + q, none⟩ = some (.int .i64 (at2 m q q)) := (hbr.cell (p := ⟨Ba, pa + q, none⟩) hBa).trans hea
        have lA : Aa < wr.heap.size := Nat.lt_of_lt_of_le hAa hbr.size
        have lB : Ba < wr.heap.size := Nat.lt_of_lt_of_le hBa hbr.size
        clear hra hca hea
        by_cases hd : at2 m q q = 0
        · have hd1 : (at2 m q q != 0) = false := by simpa using hd
          go_wp2_with fail
          go_loopw [6] (fun j wr => ∃ p : Nat, p ≤ n ∧ j = .int .i64 p ∧ Below w.heap.size w wr ∧ Hid (AllZ (fun j => bndE (at2 m q j)) p)) (fun j _ => n - (intOf j).toNat)
          case atStart => exact ⟨0, by omega, rfl, hbr, allZ_zero _⟩
          case round =>
            obtain ⟨p, hp, rfl, hbj, AZ⟩ := hrel
            clear ca ea lA lB
            have ca : wr.cell? ⟨Aa, oa + q, none⟩ = some (.slice ra n rca) := (hbj.cell (p := ⟨Aa, oa + q, none⟩) hAa).trans CA.out
            have lA : Aa < wr.heap.size := Nat.lt_of_lt_of_le hAa hbj.size
            by_cases hpn : p < n
            · have hp1 : (p : Int) < n := by omega
              have hpl : p < m.length := by have := NL.out; omega
              obtain ⟨Bb, pb, hBb, heb0, hixb⟩ := RA.out p hpn
              have heb : wr.cell? ⟨Bb, pb + p, none⟩ = some (.int .i64 (at2 m q p)) := (hbj.cell (p := ⟨Bb, pb + p, none⟩) hBb).trans heb0
              have lb : Bb < wr.heap.size := Nat.lt_of_lt_of_le hBb hbj.size
              clear heb0
              generalize hx : at2 m q p = x at heb
              by_cases hN : x = NOB
              · have BZ : Hid (AllZ (fun j => bndE (at2 m q j)) (p + 1)) := allZ_succ AZ.out (by show bndE (at2 m q p) = 0; rw [hx]; unfold bndE; rw [if_neg (fun h => h.1 hN)])
                have hN1 : (x != 1152921504606846976) = false := by rw [hN]; rfl
                clear hN hx
                go_wp2_with (go_at_call 12; refine (in_any _ _ _ _).mono ?_; rintro e w2 ⟨rfl, rfl⟩)
                go_roundw
                case rel => exact ⟨p + 1, by omega, by go_num, hbj, BZ⟩
                case measure => simp [intOf]; omega
              · have hN1 : (x != 1152921504606846976) = true := by unfold NOB at hN; simpa using hN
                by_cases hlo : x < -2147483648
                · have hb2 : bndE (at2 m q p) ≠ 0 := by rw [hx]; unfold bndE; rw [if_pos ⟨hN, Or.inl hlo⟩]; decide
                  have hb3 : bndE (at2 m q p) = 2 := by rw [hx]; unfold bndE; rw [if_pos ⟨hN, Or.inl hlo⟩]
                  have hin : inB x (-2147483648) 2147483648 = false := inB_false.2 (by omega)
                  have C0 : Hid (closE m = 2) := closE_row ME.out AR.out hql (by unfold rowE; rw [if_pos hd]; exact (firstN_at AZ.out hpl hb2).trans hb3) (by decide)
                  have C : Hid (closC m = 2) := by show _ = _; unfold closC; rw [C0.out]; rfl
                  have M0 : Hid (closM m = []) := by show _ = _; unfold closM; rw [C.out]; rfl
                  go_wp2_with (go_at_call 12; refine (in_any _ _ _ _).mono ?_; rintro e w2 ⟨rfl, rfl⟩)
                  go_ret2
                  exact ⟨none, 0, 0, by rw [C.out]; rfl, hbj, by rw [M0.out]; exact SlF.nil⟩
                · by_cases hhi : 2147483648 < x
                  · have hb2 : bndE (at2 m q p) ≠ 0 := by rw [hx]; unfold bndE; rw [if_pos ⟨hN, Or.inr hhi⟩]; decide
                    have hb3 : bndE (at2 m q p) = 2 := by rw [hx]; unfold bndE; rw [if_pos ⟨hN, Or.inr hhi⟩]
                    have hin : inB x (-2147483648) 2147483648 = false := inB_false.2 (by omega)
                    have C0 : Hid (closE m = 2) := closE_row ME.out AR.out hql (by unfold rowE; rw [if_pos hd]; exact (firstN_at AZ.out hpl hb2).trans hb3) (by decide)
                    have C : Hid (closC m = 2) := by show _ = _; unfold closC; rw [C0.out]; rfl
                    have M0 : Hid (closM m = []) := by show _ = _; unfold closM; rw [C.out]; rfl
                    go_wp2_with (go_at_call 12; refine (in_any _ _ _ _).mono ?_; rintro e w2 ⟨rfl, rfl⟩)
                    go_ret2
                    exact ⟨none, 0, 0, by rw [C.out]; rfl, hbj, by rw [M0.out]; exact SlF.nil⟩
                  · have BZ : Hid (AllZ (fun j => bndE (at2 m q j)) (p + 1)) := allZ_succ AZ.out (by show bndE (at2 m q p) = 0; rw [hx]; unfold bndE; rw [if_neg (by omega)])
                    have hin : inB x (-2147483648) 2147483648 = true := inB_true.2 (by omega)
                    clear hx
                    go_wp2_with (go_at_call 12; refine (in_any _ _ _ _).mono ?_; rintro e w2 ⟨rfl, rfl⟩)
                    go_roundw
                    case rel => exact ⟨p + 1, by omega, by go_num, hbj, BZ⟩
                    case measure => simp [intOf]; omega
            · obtain rfl : p = n := by omega
              have RZ : Hid (AllZ (rowE m m.length) (q + 1)) := allZ_succ AR.out (by unfold rowE; rw [if_pos hd, ← NL.out]; exact firstN_zero AZ.out)
              go_wp2
              go_roundw
              case rel => exact ⟨q + 1, by omega, by go_num, hbj, RZ⟩
              case measure => simp [intOf]; omega
        · have hd1 : (at2 m q q != 0) = true := by simpa using hd
          have C0 : Hid (closE m = 4) := closE_row ME.out AR.out hql (by unfold rowE; rw [if_neg hd]) (by decide)
          have C : Hid (closC m = 4) := by show _ = _; unfold closC; rw [C0.out]; rfl
          have M0 : Hid (closM m = []) := by show _ = _; unfold closM; rw [C.out]; rfl
          clear hd
          go_wp2
          go_ret2
          exact ⟨none, 0, 0, by rw [C.out]; rfl, (by repeat (first | exact Below.refl _ _ | assumption | refine below_step ?_ (by assumption) | refine below_step ?_ (Joins.below_draws _ _ _) | (refine Below.alloc ?_ (by first | omega | (simp; done) | (simp; omega)) _) | (refine Below.setCell ?_ (by first | omega | (simp; done) | (simp; omega)) _) | refine Below.drew ?_)), by rw [M0.out]; exact SlF.nil⟩
      · obtain rfl : q = n := by omega
        have C0 : Hid (closE m = 0) := by show _ = _; unfold closE; rw [if_pos ME.out]; exact firstN_zero (fun j hj => AR.out j (by have := NL.out; omega))
        have h0 : ∀ x, x < q → at2 m x x = 0 := fun x hx => row_diag (AR.out x hx)
        have hg : RB q 0 (at2 m) := fun a b ha hb => bnd_good (row_bnd (AR.out a ha) (by rw [← NL.out]; exact hb))
        have CS := Lib.hid (close_same hn12 hg h0)
        have HT := Lib.hid (tightened_any F ao q cap m wr (HM.out.below lineF_firm hbr) hn12 SQ.out)
        clear h0 hg
        have hs1 := hbr.size
        go_wp2_with fail
        refine HT.out.mono ?_
        rintro e w2 (⟨hT, rfl, hb2⟩ | ⟨d, ao2, cap2, gs, hT, rfl, hb2, hG2⟩)
        · have hok : okb q (shutF q (at2 m)) = false := by
            rcases CS.out with ⟨_, d, h, _⟩ | ⟨h, _⟩
            · rw [hT] at h; exact absurd h (by simp)
            · cases hc : okb q (shutF q (at2 m)) with
              | false => rfl
              | true => exact absurd (okb_iff.1 hc) h
          have C : Hid (closC m = 16) := by show _ = _; unfold closC; rw [if_pos C0.out, ← NL.out, hok]; rfl
          have M0 : Hid (closM m = []) := by show _ = _; unfold closM; rw [C.out]; rfl
          clear hok hT
          go_wp2
          go_ret2
          exact ⟨none, 0, 0, by rw [C.out]; rfl, hbr.trans (hb2.mono hs1), by rw [M0.out]; exact SlF.nil⟩
        · have hok : okb q (shutF q (at2 m)) = true ∧ ∀ a b, a < q → b < q → d a b = shutF q (at2 m) a b := by
            rcases CS.out with ⟨h1, d', h, h2⟩ | ⟨_, h⟩
            · rw [hT] at h; injection h with h; subst h; exact ⟨okb_iff.2 h1, h2⟩
            · rw [hT] at h; exact absurd h (by simp)
          have C : Hid (closC m = 0) := by show _ = _; unfold closC; rw [if_pos C0.out, ← NL.out, hok.1]; rfl
          have M0 : Hid (closM m = gridL q (shutF q (at2 m))) := by show _ = _; unfold closM; rw [if_pos C.out, ← NL.out]
          have hS3 := hG2.toF (by omega)
          rw [gridL_congr hok.2] at hS3
          have HS3 := Lib.hid hS3
          clear hS3 hG2 hok hT
          go_wp2
          go_ret2
          exact ⟨ao2, q, cap2, by rw [C.out]; rfl, hbr.trans (hb2.mono hs1), by rw [M0.out]; exact HS3.out.wide lineF_firm (fun b hb _ => Nat.le_trans hs1 hb)⟩
  · have C : Hid (closC m = matE m) := by show _ = _; unfold closC closE; rw [if_neg hE, if_neg hE]
    have M0 : Hid (closM m = []) := by show _ = _; unfold closM; rw [C.out, if_neg hE]
    have hq : (matE m != 0) = true := by simpa using hE
    clear hE
    go_enter Try.func6, Try.ntmps6
    go_wp2_with fail
    refine HC.out.mono ?_
    rintro e w1 ⟨rfl, hb1⟩
    go_wp2
    go_ret2
    exact ⟨none, 0, 0, by rw [C.out]; rfl, hb1, by rw [M0.out]; exact SlF.nil⟩
end Go.Proofs.Ytpgjfnchmgenhaa
