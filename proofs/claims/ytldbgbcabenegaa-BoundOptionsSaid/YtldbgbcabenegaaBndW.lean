/-
  The walks of package bound and its reference, first part: may a matrix be?
-/
import Derived.Test.YtldbgbcabenegaaProg
import Derived.Test.YtldbgbcabenegaaPlain
import Derived.Test.YtldbgbcabenegaaRep
import Derived.WalkSpells
import Derived.WalkLawsBesides
import Derived.Deep.Light
import Derived.Deep.QuietTactic
import Derived.BigQuiet
namespace Go.Proofs.Ytldbgbcabenegaa
open Go.RowKit
set_option linter.unusedVariables false
set_option linter.unusedSimpArgs false

set_option maxHeartbeats 400000 in
theorem in_any (n lo hi : Int) (w : World) :
    Calls Try.prog 23 #[.int .i64 n, .int .i64 lo, .int .i64 hi] w fun e w' => e = .returned (.bool (inB n lo hi)) ∧ w' = w := by
  go_enter Try.func23, Try.ntmps23
  go_wp2
  all_goals (go_ret; refine ⟨?_, rfl⟩; exact ret_bool (by go_light; unfold inB; first | (simp; done) | (rw [Bool.eq_iff_iff]; simp []; done) | (rw [Bool.eq_iff_iff]; simp []; omega)))

/-- A number's cell; a line of a matrix. -/
def intR : World → List Value → Int → Prop := fun _ row x => row = [.int .i64 x]
theorem intR_stays : Stays intR := fun _ _ _ _ _ h => h
def lineR : World → List Value → List Int → Prop := fun w row xs => ∃ ao n cap, row = [.slice ao n cap] ∧ SlR w 1 intR ao n cap xs ∧ xs.length * 8 ≤ 140737488355328
theorem lineR_stays : Stays lineR := fun w w' row xs hb ⟨ao, n, cap, e, h, h8⟩ => ⟨ao, n, cap, e, h.mono intR_stays hb, h8⟩
theorem RowAt.one {w : World} {b o : Nat} {x : Value} (h : RowAt w b o 1 [x]) : w.cell? ⟨b, o, none⟩ = some x := h.2 0 (by omega)
theorem size_int : SizeIs Try.prog 3 1 := fun w => by kernel_rfl
theorem size_ints : SizeIs Try.prog 38 1 := fun w => by kernel_rfl

/-- What a bound, a line, a matrix are refused for (0: nothing). -/
def cellE (xs : List Int) (k : Nat) : Int := if xs.getD k 0 = 1152921504606846976 ∨ (-35184372088832 ≤ xs.getD k 0 ∧ xs.getD k 0 ≤ 35184372088832) then 0 else 2
def lineE (n : Nat) (m : List (List Int)) (i : Nat) : Int := if (m.getD i []).length = n then firstN (cellE (m.getD i [])) (m.getD i []).length else 4
def matE (m : List (List Int)) : Int := if 12 < m.length then 1 else firstN (lineE m.length m) m.length
theorem line_getD (m : List (List Int)) (i : Nat) (hi : i < m.length) : m.getD i [] = m[i] := by simp [List.getD, List.getElem?_eq_getElem hi]
theorem int_getD (xs : List Int) (i : Nat) (hi : i < xs.length) : xs.getD i 0 = xs[i] := by simp [List.getD, List.getElem?_eq_getElem hi]

/-- The ways a bound's tests go. -/
theorem cell_ways (x : Int) :
    (x = 1152921504606846976 ∧ (x != 1152921504606846976) = false) ∨
    (¬ x = 1152921504606846976 ∧ (x != 1152921504606846976) = true ∧ -35184372088832 ≤ x ∧ x ≤ 35184372088832) ∨
    (¬ x = 1152921504606846976 ∧ (x != 1152921504606846976) = true ∧ x < -35184372088832) ∨
    (¬ x = 1152921504606846976 ∧ (x != 1152921504606846976) = true ∧ ¬ x < -35184372088832 ∧ 35184372088832 < x) := by
  by_cases h : x = 1152921504606846976
  · exact Or.inl ⟨h, by simp [h]⟩
  · have h' : (x != 1152921504606846976) = true := by simp [h]
    by_cases h1 : x < -35184372088832
    · exact Or.inr (Or.inr (Or.inl ⟨h, h', h1⟩))
    · by_cases h2 : 35184372088832 < x
      · exact Or.inr (Or.inr (Or.inr ⟨h, h', h1, h2⟩))
      · exact Or.inr (Or.inl ⟨h, h', by omega, by omega⟩)

set_option maxHeartbeats 2000000 in
theorem matCheck_any (ao : Option Addr) (n cap : Nat) (m : List (List Int)) (w : World) (hM : SlR w 1 lineR ao n cap m) :
    Calls Try.prog 35 #[.slice ao n cap] w fun e w' => e = .returned (.int .i64 (matE m)) ∧ Below w.heap.size w w' := by
  have hnl := hM.len
  have hle := hM.le
  by_cases h12 : 12 < n
  · have h12' : (12 : Int) < (n : Int) := by omega
    go_enter Try.func35, Try.ntmps35
    go_wp2
    go_ret
    exact ⟨ret_int (by simp [matE]; omega), (by repeat (first | exact Below.refl _ _ | assumption | refine below_step ?_ (by assumption) | refine below_step ?_ (Joins.below_draws _ _ _) | (refine Below.alloc ?_ (by first | omega | (simp; done) | (simp; omega)) _) | (refine Below.setCell ?_ (by first | omega | (simp; done) | (simp; omega)) _) | refine Below.drew ?_))⟩
  · have h12' : ¬ (12 : Int) < (n : Int) := by omega
    have NL : Hid (n = m.length) := hnl
    clear hnl
    go_enter Try.func35, Try.ntmps35
    go_wp2_with fail
    go_loop [12] (fun i => ∃ k : Nat, k ≤ n ∧ i = .int .i64 k ∧ AllZ (lineE m.length m) k) (fun i => n - (intOf i).toNat)
    case atStart => exact ⟨0, by omega, rfl, allZ_zero _⟩
    case round =>
      obtain ⟨k, hk, rfl, haz⟩ := hrel
      by_cases hlt : k < n
      · obtain ⟨b, off, row, hix, hblt, hrow, hrr⟩ := hM.index (P := Try.prog) Try.underlying24 size_ints (i := k) (by have := NL.out; omega)
        obtain ⟨ao2, n2, cap2, rfl, hR, h8⟩ := hrr
        have c0 := hrow.one
        simp only [Nat.mul_one] at hix c0
        have hkl : k < m.length := by have := NL.out; omega
        have hgd : Hid (m.getD k [] = m[k]) := line_getD m k hkl
        have N2 : Hid (n2 = m[k].length) := hR.len
        have hle2 := hR.le
        by_cases hl : n2 = n
        · have hl1 : ((n2 : Int) != (n : Int)) = false := by simp [hl]
          have HL : Hid (n2 = n) := hl; clear hl
          have hlk : Hid (lineE m.length m k = firstN (cellE m[k]) m[k].length) := by show lineE m.length m k = _; unfold lineE; rw [hgd.out, if_pos (by have := NL.out; have := HL.out; have := N2.out; omega)]
          go_wp2_with fail
          go_loop [23] (fun i => ∃ j : Nat, j ≤ n2 ∧ i = .int .i64 j ∧ AllZ (cellE m[k]) j) (fun i => n2 - (intOf i).toNat)
          case atStart => exact ⟨0, by omega, rfl, allZ_zero _⟩
          case round =>
            obtain ⟨j, hj, rfl, haz2⟩ := hrel
            by_cases hjn : j < n2
            · have hjl : j < m[k].length := by have := N2.out; omega
              obtain ⟨b2, off2, row2, hix2, hblt2, hrow2, hrr2⟩ := hR.index (P := Try.prog) Try.underlying38 size_int (i := j) hjl
              have hx : Hid ((m[k]).getD j 0 = m[k][j]) := int_getD m[k] j hjl
              obtain ⟨x, hxx⟩ : ∃ x : Int, x = m[k][j] := ⟨_, rfl⟩
              rw [← hxx] at hrr2 hx
              clear hxx
              have hrr3 : row2 = [.int .i64 x] := hrr2
              subst hrr3
              have d0 := hrow2.one
              simp only [Nat.mul_one] at hix2 d0
              rcases cell_ways x with ⟨g1, g2⟩ | ⟨g1, g2, g3, g4⟩ | ⟨g1, g2, g3⟩ | ⟨g1, g2, g3, g4⟩
              · have hc : Hid (cellE m[k] j = 0) := by show cellE m[k] j = 0; unfold cellE; rw [hx.out, if_pos (by omega)]
                clear g1
                go_wp2
                exact ⟨⟨j + 1, by omega, by go_num, allZ_succ haz2 hc.out⟩, by simp [intOf]; omega⟩
              · have hc : Hid (cellE m[k] j = 0) := by show cellE m[k] j = 0; unfold cellE; rw [hx.out, if_pos (by omega)]
                clear g1
                go_wp2
                exact ⟨⟨j + 1, by omega, by go_num, allZ_succ haz2 hc.out⟩, by simp [intOf]; omega⟩
              all_goals
                have hc : Hid (cellE m[k] j = 2) := by show cellE m[k] j = 2; unfold cellE; rw [hx.out, if_neg (by omega)]
                clear g1
                go_wp2
                go_ret
                have h2 := firstN_at haz2 hjl (by rw [hc.out]; omega)
                rw [hc.out, ← hlk.out] at h2
                have h3 := firstN_at haz hkl (by rw [h2]; omega)
                rw [h2] at h3
                exact ⟨ret_int (by have := NL.out; simp [matE, h3]; omega), (by repeat (first | exact Below.refl _ _ | assumption | refine below_step ?_ (by assumption) | refine below_step ?_ (Joins.below_draws _ _ _) | (refine Below.alloc ?_ (by first | omega | (simp; done) | (simp; omega)) _) | (refine Below.setCell ?_ (by first | omega | (simp; done) | (simp; omega)) _) | refine Below.drew ?_))⟩
            · have hjk : j = m[k].length := by have := N2.out; omega
              have hz2 : Hid (lineE m.length m k = 0) := by show lineE m.length m k = 0; rw [hlk.out]; subst hjk; exact firstN_zero haz2
              clear hjk
              go_wp2
              exact ⟨⟨k + 1, by omega, by go_num, allZ_succ haz hz2.out⟩, by simp [intOf]; omega⟩
        · have hl1 : ((n2 : Int) != (n : Int)) = true := by simp; omega
          have hlk : Hid (lineE m.length m k = 4) := by show lineE m.length m k = _; unfold lineE; rw [hgd.out, if_neg (by have := NL.out; have := N2.out; omega)]
          go_wp2
          go_ret
          have h3 := firstN_at haz hkl (by rw [hlk.out]; omega)
          rw [hlk.out] at h3
          exact ⟨ret_int (by have := NL.out; simp [matE, h3]; omega), (by repeat (first | exact Below.refl _ _ | assumption | refine below_step ?_ (by assumption) | refine below_step ?_ (Joins.below_draws _ _ _) | (refine Below.alloc ?_ (by first | omega | (simp; done) | (simp; omega)) _) | (refine Below.setCell ?_ (by first | omega | (simp; done) | (simp; omega)) _) | refine Below.drew ?_))⟩
      · have hkn : Hid (k = m.length) := by show k = m.length; have := NL.out; omega
        go_wp2
        go_ret
        have := hkn.out
        subst this
        exact ⟨ret_int (by have := NL.out; simp [matE, firstN_zero haz]; omega), (by repeat (first | exact Below.refl _ _ | assumption | refine below_step ?_ (by assumption) | refine below_step ?_ (Joins.below_draws _ _ _) | (refine Below.alloc ?_ (by first | omega | (simp; done) | (simp; omega)) _) | (refine Below.setCell ?_ (by first | omega | (simp; done) | (simp; omega)) _) | refine Below.drew ?_))⟩
set_option maxHeartbeats 2000000 in
theorem matFault_any (ao : Option Addr) (n cap : Nat) (m : List (List Int)) (w : World) (hM : SlR w 1 lineR ao n cap m) :
    Calls Try.prog 27 #[.slice ao n cap] w fun e w' => e = .returned (.int .i64 (matE m)) ∧ Below w.heap.size w w' := by
  have hnl := hM.len
  have hle := hM.le
  by_cases h12 : 12 < n
  · have h12' : (12 : Int) < (n : Int) := by omega
    go_enter Try.func27, Try.ntmps27
    go_wp2
    go_ret
    exact ⟨ret_int (by simp [matE]; omega), (by repeat (first | exact Below.refl _ _ | assumption | refine below_step ?_ (by assumption) | refine below_step ?_ (Joins.below_draws _ _ _) | (refine Below.alloc ?_ (by first | omega | (simp; done) | (simp; omega)) _) | (refine Below.setCell ?_ (by first | omega | (simp; done) | (simp; omega)) _) | refine Below.drew ?_))⟩
  · have h12' : ¬ (12 : Int) < (n : Int) := by omega
    have NL : Hid (n = m.length) := hnl
    clear hnl
    go_enter Try.func27, Try.ntmps27
    go_wp2_with fail
    go_loop [3] (fun i => ∃ k : Nat, k ≤ n ∧ i = .int .i64 k ∧ AllZ (lineE m.length m) k) (fun i => n - (intOf i).toNat)
    case atStart => exact ⟨0, by omega, rfl, allZ_zero _⟩
    case round =>
      obtain ⟨k, hk, rfl, haz⟩ := hrel
      by_cases hlt : k < n
      · obtain ⟨b, off, row, hix, hblt, hrow, hrr⟩ := hM.index (P := Try.prog) Try.underlying24 size_ints (i := k) (by have := NL.out; omega)
        obtain ⟨ao2, n2, cap2, rfl, hR, h8⟩ := hrr
        have c0 := hrow.one
        simp only [Nat.mul_one] at hix c0
        have hkl : k < m.length := by have := NL.out; omega
        have hgd : Hid (m.getD k [] = m[k]) := line_getD m k hkl
        have N2 : Hid (n2 = m[k].length) := hR.len
        have hle2 := hR.le
        by_cases hl : n2 = n
        · have hl1 : ((n2 : Int) != (n : Int)) = false := by simp [hl]
          have HL : Hid (n2 = n) := hl; clear hl
          have hlk : Hid (lineE m.length m k = firstN (cellE m[k]) m[k].length) := by show lineE m.length m k = _; unfold lineE; rw [hgd.out, if_pos (by have := NL.out; have := HL.out; have := N2.out; omega)]
          go_wp2_with fail
          go_loop [4] (fun i => ∃ j : Nat, j ≤ n2 ∧ i = .int .i64 j ∧ AllZ (cellE m[k]) j) (fun i => n2 - (intOf i).toNat)
          case atStart => exact ⟨0, by omega, rfl, allZ_zero _⟩
          case round =>
            obtain ⟨j, hj, rfl, haz2⟩ := hrel
            by_cases hjn : j < n2
            · have hjl : j < m[k].length := by have := N2.out; omega
              obtain ⟨b2, off2, row2, hix2, hblt2, hrow2, hrr2⟩ := hR.index (P := Try.prog) Try.underlying38 size_int (i := j) hjl
              have hx : Hid ((m[k]).getD j 0 = m[k][j]) := int_getD m[k] j hjl
              obtain ⟨x, hxx⟩ : ∃ x : Int, x = m[k][j] := ⟨_, rfl⟩
              rw [← hxx] at hrr2 hx
              clear hxx
              have hrr3 : row2 = [.int .i64 x] := hrr2
              subst hrr3
              have d0 := hrow2.one
              simp only [Nat.mul_one] at hix2 d0
              rcases cell_ways x with ⟨g1, g2⟩ | ⟨g1, g2, g3, g4⟩ | ⟨g1, g2, g3⟩ | ⟨g1, g2, g3, g4⟩
              · have hc : Hid (cellE m[k] j = 0) := by show cellE m[k] j = 0; unfold cellE; rw [hx.out, if_pos (by omega)]
                clear g1
                go_wp2
                exact ⟨⟨j + 1, by omega, by go_num, allZ_succ haz2 hc.out⟩, by simp [intOf]; omega⟩
              · have hc : Hid (cellE m[k] j = 0) := by show cellE m[k] j = 0; unfold cellE; rw [hx.out, if_pos (by omega)]
                clear g1
                have gi : inB x (-35184372088832) 35184372088832 = true := by rw [inB_true]; omega
                go_wp2_with (go_at_call 23; refine (in_any _ _ _ _).mono ?_; rintro e w' ⟨rfl, rfl⟩)
                exact ⟨⟨j + 1, by omega, by go_num, allZ_succ haz2 hc.out⟩, by simp [intOf]; omega⟩
              all_goals
                have hc : Hid (cellE m[k] j = 2) := by show cellE m[k] j = 2; unfold cellE; rw [hx.out, if_neg (by omega)]
                clear g1
                have gi : inB x (-35184372088832) 35184372088832 = false := by rw [inB_false]; omega
                go_wp2_with (go_at_call 23; refine (in_any _ _ _ _).mono ?_; rintro e w' ⟨rfl, rfl⟩)
                go_ret
                have h2 := firstN_at haz2 hjl (by rw [hc.out]; omega)
                rw [hc.out, ← hlk.out] at h2
                have h3 := firstN_at haz hkl (by rw [h2]; omega)
                rw [h2] at h3
                exact ⟨ret_int (by have := NL.out; simp [matE, h3]; omega), (by repeat (first | exact Below.refl _ _ | assumption | refine below_step ?_ (by assumption) | refine below_step ?_ (Joins.below_draws _ _ _) | (refine Below.alloc ?_ (by first | omega | (simp; done) | (simp; omega)) _) | (refine Below.setCell ?_ (by first | omega | (simp; done) | (simp; omega)) _) | refine Below.drew ?_))⟩
            · have hjk : j = m[k].length := by have := N2.out; omega
              have hz2 : Hid (lineE m.length m k = 0) := by show lineE m.length m k = 0; rw [hlk.out]; subst hjk; exact firstN_zero haz2
              clear hjk
              go_wp2
              exact ⟨⟨k + 1, by omega, by go_num, allZ_succ haz hz2.out⟩, by simp [intOf]; omega⟩
        · have hl1 : ((n2 : Int) != (n : Int)) = true := by simp; omega
          have hlk : Hid (lineE m.length m k = 4) := by show lineE m.length m k = _; unfold lineE; rw [hgd.out, if_neg (by have := NL.out; have := N2.out; omega)]
          go_wp2
          go_ret
          have h3 := firstN_at haz hkl (by rw [hlk.out]; omega)
          rw [hlk.out] at h3
          exact ⟨ret_int (by have := NL.out; simp [matE, h3]; omega), (by repeat (first | exact Below.refl _ _ | assumption | refine below_step ?_ (by assumption) | refine below_step ?_ (Joins.below_draws _ _ _) | (refine Below.alloc ?_ (by first | omega | (simp; done) | (simp; omega)) _) | (refine Below.setCell ?_ (by first | omega | (simp; done) | (simp; omega)) _) | refine Below.drew ?_))⟩
      · have hkn : Hid (k = m.length) := by show k = m.length; have := NL.out; omega
        go_wp2
        go_ret
        have := hkn.out
        subst this
        exact ⟨ret_int (by have := NL.out; simp [matE, firstN_zero haz]; omega), (by repeat (first | exact Below.refl _ _ | assumption | refine below_step ?_ (by assumption) | refine below_step ?_ (Joins.below_draws _ _ _) | (refine Below.alloc ?_ (by first | omega | (simp; done) | (simp; omega)) _) | (refine Below.setCell ?_ (by first | omega | (simp; done) | (simp; omega)) _) | refine Below.drew ?_))⟩
end Go.Proofs.Ytldbgbcabenegaa
