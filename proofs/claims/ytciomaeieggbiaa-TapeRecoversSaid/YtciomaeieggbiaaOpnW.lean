/-
  The walks of operations' checks: session.Bare, wire.Check, and their references.
-/
import Derived.Test.YtciomaeieggbiaaSpanW
namespace Go.Proofs.Ytciomaeieggbiaa
open Go.RowKit
set_option linter.unusedVariables false
set_option linter.unusedSimpArgs false

def valR : World → List Value → Val → Prop := fun _ row v => row = valC v ∧ v.text.size ≤ maxLen
theorem valR_stays : Stays valR := fun _ _ _ _ _ h => h
theorem size_value : SizeIs Try.prog 84 3 := fun w => by kernel_rfl

set_option linter.unusedVariables false
set_option linter.unusedSimpArgs false

/-- What the i'th value is refused for; whether it is of its field's kind. -/
def valsE (vs : List Val) (i : Nat) : Int := valE (vs.getD i default)
theorem vals_getD (vs : List Val) (i : Nat) (hi : i < vs.length) : vs.getD i default = vs[i] := by simp [List.getD, List.getElem?_eq_getElem hi]

set_option linter.unusedVariables false
set_option linter.unusedSimpArgs false

theorem firstN_succ {f : Nat → Int} {k : Nat} {x : Int} (hz : firstN f k = 0) (h : f k = x) : firstN f (k + 1) = x := by simp [firstN, hz, h]
theorem firstN_end {f : Nat → Int} {k n : Nat} (hk : k ≤ n) (h : k = n ∨ firstN f k ≠ 0) : firstN f k = firstN f n := by
  rcases h with rfl | h
  · rfl
  · exact (firstN_stays hk h).symm

set_option linter.unusedVariables false
set_option linter.unusedSimpArgs false

/-- An operation. -/
structure Opn where
  kind : Int
  type : ByteArray
  start : Int
  stop : Int
  delta : Int
  collect : Bool
def Opn.val (o : Opn) (v : Value) : Value := .agg #[.int .i64 o.kind, .string o.type, .int .i64 o.start, .int .i64 o.stop, v, .int .i64 o.delta, .bool o.collect]
/-- What an operation is refused for that has not just what its kind has; n: how many values it has. -/
def bareE (o : Opn) (n : Nat) : Int :=
  if 1 ≤ o.kind ∧ o.kind ≤ 3 then
    (if (o.kind = 2 ∨ (o.delta = 0 ∧ o.collect = false)) ∧ (o.kind ≠ 2 ∨ o.type.size = 0) ∧ (o.kind = 1 ∨ (o.start = 0 ∧ o.stop = 0 ∧ n = 0)) then 0 else 4) else 3

set_option maxHeartbeats 2000000 in
theorem bare_any (o : Opn) (vo : Option Addr) (m vcap : Nat) (w : World) (ht : o.type.size ≤ maxLen) (hm : m ≤ 9223372036854775807) :
    Calls Try.prog 56 #[o.val (.slice vo m vcap)] w fun e' w' => e' = .returned (.int .i64 (bareE o m)) ∧ Below w.heap.size w w' := by
  obtain ⟨k, t, s, e, d, c⟩ := o
  unfold Opn.val
  cases c
  all_goals
    go_enter Try.func56, Try.ntmps56
    go_wp2
    all_goals (go_ret; refine ⟨ret_int ?_, (by repeat (first | exact Below.refl _ _ | assumption | refine below_step ?_ (by assumption) | refine below_step ?_ (Joins.below_draws _ _ _) | (refine Below.alloc ?_ (by first | omega | (simp; done) | (simp; omega)) _) | (refine Below.setCell ?_ (by first | omega | (simp; done) | (simp; omega)) _) | refine Below.drew ?_))⟩; go_light; simp only [bareE]; (try simp only [Bool.not_eq_true', Bool.not_eq_false', decide_eq_true_eq, decide_eq_false_iff_not, beq_iff_eq, beq_eq_false_iff_ne, bne_iff_ne, ne_eq, Bool.or_eq_true, Bool.and_eq_true, Bool.or_eq_false_iff, Bool.and_eq_false_imp, bne_eq_false_iff_eq, List.isEmpty_iff, List.isEmpty_eq_false_iff, size_toList] at *); (repeat' split) <;> first | omega | (simp_all; done) | (simp_all; omega))
set_option maxHeartbeats 2000000 in
theorem opFault_any (o : Opn) (vo : Option Addr) (m vcap : Nat) (w : World) (ht : o.type.size ≤ maxLen) (hm : m ≤ 9223372036854775807) :
    Calls Try.prog 60 #[o.val (.slice vo m vcap)] w fun e' w' => e' = .returned (.int .i64 (bareE o m)) ∧ Below w.heap.size w w' := by
  obtain ⟨k, t, s, e, d, c⟩ := o
  unfold Opn.val
  cases c
  all_goals
    go_enter Try.func60, Try.ntmps60
    go_wp2_with (go_at_call 24; refine (in_any _ _ _ _).mono ?_; rintro e w' ⟨rfl, rfl⟩)
    all_goals (go_ret; refine ⟨ret_int ?_, (by repeat (first | exact Below.refl _ _ | assumption | refine below_step ?_ (by assumption) | refine below_step ?_ (Joins.below_draws _ _ _) | (refine Below.alloc ?_ (by first | omega | (simp; done) | (simp; omega)) _) | (refine Below.setCell ?_ (by first | omega | (simp; done) | (simp; omega)) _) | refine Below.drew ?_))⟩; go_light; simp only [bareE]; (try simp only [Bool.not_eq_true', Bool.not_eq_false', decide_eq_true_eq, decide_eq_false_iff_not, beq_iff_eq, beq_eq_false_iff_ne, bne_iff_ne, ne_eq, Bool.or_eq_true, Bool.and_eq_true, Bool.or_eq_false_iff, Bool.and_eq_false_imp, bne_eq_false_iff_eq, List.isEmpty_iff, List.isEmpty_eq_false_iff, size_toList, inB_true, inB_false] at *); (repeat' split) <;> first | omega | (simp_all; done) | (simp_all; omega))

set_option linter.unusedVariables false
set_option linter.unusedSimpArgs false

/-- What an operation is refused for that is to be told as bytes. -/
def wireE (o : Opn) (vs : List Val) : Int :=
  if bareE o vs.length = 0 then
    (if o.kind = 2 then (if 0 ≤ o.delta ∧ o.delta ≤ 1099511627776 then 0 else 2)
     else if o.kind = 1 then (if spanE o.start o.stop = 0 then (if vs.length ≤ 4 then (if firstN (valsE vs) vs.length = 0 then nameE o.type else firstN (valsE vs) vs.length) else 1) else spanE o.start o.stop)
     else nameE o.type)
  else bareE o vs.length

set_option maxHeartbeats 2000000 in
theorem wireCheck_any (o : Opn) (vo : Option Addr) (m vcap : Nat) (vs : List Val) (w : World) (ht : o.type.size ≤ maxLen) (hV : SlR w 3 valR vo m vcap vs) :
    Calls Try.prog 25 #[o.val (.slice vo m vcap)] w fun e' w' => e' = .returned (.int .i64 (wireE o vs)) ∧ Below w.heap.size w w' := by
  have ML : Hid (m = vs.length) := hV.len
  have hvle := hV.le
  have BE : Hid (bareE o m = bareE o vs.length) := by show _ = _; rw [ML.out]
  have hV1 := hV.mono valR_stays (Joins.below_alloc1 w (.cells #[.int .i64 o.kind, .string o.type, .int .i64 o.start, .int .i64 o.stop, .slice vo m vcap, .int .i64 o.delta, .bool o.collect] 33))
  have hbare := bare_any o vo m vcap (w.alloc (.cells #[.int .i64 o.kind, .string o.type, .int .i64 o.start, .int .i64 o.stop, .slice vo m vcap, .int .i64 o.delta, .bool o.collect] 33)) ht (by omega)
  have HB : Hid (Calls Try.prog 56 _ _ _) := hbare
  clear hbare
  unfold Opn.val
  by_cases hz : bareE o m = 0
  · have hz1 : (bareE o m != 0) = false := by simp [hz]
    have B0 : Hid (bareE o vs.length = 0) := by show _ = _; rw [← BE.out]; exact hz
    have hkk : o.kind = 1 ∨ o.kind = 2 ∨ o.kind = 3 := by
      unfold bareE at hz; split at hz
      · omega
      · omega
    clear hz
    by_cases hk2 : o.kind = 2
    · have q1 : (o.kind == 2) = true := by simp [hk2]
      have K2 : Hid (o.kind = 2) := hk2
      clear hk2 hkk
      go_enter Try.func25, Try.ntmps25
      go_wp2_with fail
      refine HB.out.mono ?_
      rintro e w1 ⟨rfl, hb1⟩
      obtain ⟨hc_w1, hf_w1⟩ := bcell hb1; have hs_w1 := hb1.size; (try simp only [World.size_alloc, World.size_drew, World.size_setCell] at hs_w1); (try simp only [World.size_drew, World.cell?_drew, World.frozen?_drew] at hc_w1 hf_w1); have z0_w1 : w.heap.size < w1.heap.size := (by omega)
      go_wp2
      all_goals (go_ret; refine ⟨ret_int ?_, (by repeat (first | exact Below.refl _ _ | assumption | refine below_step ?_ (by assumption) | refine below_step ?_ (Joins.below_draws _ _ _) | (refine Below.alloc ?_ (by first | omega | (simp; done) | (simp; omega)) _) | (refine Below.setCell ?_ (by first | omega | (simp; done) | (simp; omega)) _) | refine Below.drew ?_))⟩; have b0 := B0.out; have k2 := K2.out; go_light; simp only [wireE, if_pos b0, if_pos k2]; (try simp only [Bool.not_eq_true', Bool.not_eq_false', decide_eq_true_eq, decide_eq_false_iff_not, beq_iff_eq, beq_eq_false_iff_ne, bne_iff_ne, ne_eq, Bool.or_eq_true, Bool.and_eq_true, Bool.or_eq_false_iff, Bool.and_eq_false_imp, bne_eq_false_iff_eq, List.isEmpty_iff, List.isEmpty_eq_false_iff, inB_true, inB_false] at *); (repeat' split) <;> first | omega | (simp_all; done))
    · have q1 : (o.kind == 2) = false := by simp [hk2]
      have q1' : (o.kind != 2) = true := by simp [hk2]
      have K2 : Hid (¬ o.kind = 2) := hk2
      by_cases hk1 : o.kind = 1
      · have q2 : (o.kind == 1) = true := by simp [hk1]
        have K1 : Hid (o.kind = 1) := hk1
        clear hk1 hk2 hkk
        by_cases hs : spanE o.start o.stop = 0
        · have hs1 : (spanE o.start o.stop != 0) = false := by simp [hs]
          have hs2 : (spanE o.start o.stop == 0) = true := by simp [hs]
          have S0 : Hid (spanE o.start o.stop = 0) := hs
          clear hs
          by_cases h4 : 4 < m
          · have h4' : decide ((4 : Int) < (m : Int)) = true := by simp; omega
            have h4'' : (4 : Int) < (m : Int) := by omega
            go_enter Try.func25, Try.ntmps25
            go_wp2_with fail
            refine HB.out.mono ?_
            rintro e w1 ⟨rfl, hb1⟩
            obtain ⟨hc_w1, hf_w1⟩ := bcell hb1; have hs_w1 := hb1.size; (try simp only [World.size_alloc, World.size_drew, World.size_setCell] at hs_w1); (try simp only [World.size_drew, World.cell?_drew, World.frozen?_drew] at hc_w1 hf_w1); have z0_w1 : w.heap.size < w1.heap.size := (by omega)
            go_wp2_with fail
            refine (span_any _ _ _).mono ?_
            rintro e w2 ⟨rfl, hb2⟩
            obtain ⟨hc_w2, hf_w2⟩ := bcell hb2; have hs_w2 := hb2.size; (try simp only [World.size_alloc, World.size_drew, World.size_setCell] at hs_w2); (try simp only [World.size_drew, World.cell?_drew, World.frozen?_drew] at hc_w2 hf_w2); have z0_w2 : w.heap.size < w2.heap.size := (by omega)
            go_wp2
            go_ret
            exact ⟨ret_int (by have := ML.out; simp only [wireE, if_pos B0.out, if_neg K2.out, if_pos K1.out, if_pos S0.out]; rw [if_neg (by omega)]), (by repeat (first | exact Below.refl _ _ | assumption | refine below_step ?_ (by assumption) | refine below_step ?_ (Joins.below_draws _ _ _) | (refine Below.alloc ?_ (by first | omega | (simp; done) | (simp; omega)) _) | (refine Below.setCell ?_ (by first | omega | (simp; done) | (simp; omega)) _) | refine Below.drew ?_))⟩
          · have h4' : decide ((4 : Int) < (m : Int)) = false := by simp; omega
            have h4'' : ¬ (4 : Int) < (m : Int) := by omega
            go_enter Try.func25, Try.ntmps25
            go_wp2_with fail
            refine HB.out.mono ?_
            rintro e w1 ⟨rfl, hb1⟩
            obtain ⟨hc_w1, hf_w1⟩ := bcell hb1; have hs_w1 := hb1.size; (try simp only [World.size_alloc, World.size_drew, World.size_setCell] at hs_w1); (try simp only [World.size_drew, World.cell?_drew, World.frozen?_drew] at hc_w1 hf_w1); have z0_w1 : w.heap.size < w1.heap.size := (by omega)
            go_wp2_with fail
            refine (span_any _ _ _).mono ?_
            rintro e w2 ⟨rfl, hb2⟩
            obtain ⟨hc_w2, hf_w2⟩ := bcell hb2; have hs_w2 := hb2.size; (try simp only [World.size_alloc, World.size_drew, World.size_setCell] at hs_w2); (try simp only [World.size_drew, World.cell?_drew, World.frozen?_drew] at hc_w2 hf_w2); have z0_w2 : w.heap.size < w2.heap.size := (by omega)
            have hV2 := (hV1.mono valR_stays hb1).mono valR_stays hb2
            go_wp2_with fail
            go_loopw [40] (fun i wr => ∃ k : Nat, k ≤ m ∧ i = .int .i64 k ∧ AllZ (valsE vs) k ∧ Below w2.heap.size w2 wr) (fun i _ => m - (intOf i).toNat)
            case atStart => exact ⟨0, by omega, rfl, allZ_zero _, Below.refl _ _⟩
            case round =>
              obtain ⟨k, hk, rfl, haz, hbr⟩ := hrel
              obtain ⟨hc_wr, hf_wr⟩ := bcell hbr; have hs_wr := hbr.size; (try simp only [World.size_alloc, World.size_drew, World.size_setCell] at hs_wr); (try simp only [World.size_drew, World.cell?_drew, World.frozen?_drew] at hc_wr hf_wr); have z0_wr : w.heap.size < wr.heap.size := (by omega)
              have hVr := hV2.mono valR_stays hbr
              by_cases hlt : k < m
              · obtain ⟨b, off, row, hix, hblt, hrow, hrr, hvn⟩ := hVr.index (P := Try.prog) Try.underlying31 size_value (i := k) (by have := ML.out; omega)
                subst hrr
                obtain ⟨c0, c1, c2⟩ := hrow.three
                have hkl : k < vs.length := by have := ML.out; omega
                have hgd : Hid (valsE vs k = valE vs[k]) := by show valsE vs k = _; unfold valsE; rw [vals_getD vs k hkl]
                by_cases hnz : valE vs[k] = 0
                · have hnz1 : (valE vs[k] != 0) = false := by simp [hnz]
                  have N : Hid (valE vs[k] = 0) := hnz; clear hnz
                  go_wp2_with fail
                  refine (valCheck_any _ _ _ _ hvn).mono ?_
                  rintro e w3 ⟨rfl, hb3⟩
                  go_wp2
                  go_roundw
                  case rel => exact ⟨k + 1, by omega, by go_num, allZ_succ haz (by rw [hgd.out]; exact N.out), (by repeat (first | exact Below.refl _ _ | assumption | refine below_step ?_ (by assumption) | refine below_step ?_ (Joins.below_draws _ _ _) | (refine Below.alloc ?_ (by first | omega | (simp; done) | (simp; omega)) _) | (refine Below.setCell ?_ (by first | omega | (simp; done) | (simp; omega)) _) | refine Below.drew ?_))⟩
                  case measure => simp [intOf]; omega
                · have hnz1 : (valE vs[k] != 0) = true := by simp [hnz]
                  have N : Hid (¬ valE vs[k] = 0) := hnz; clear hnz
                  go_wp2_with fail
                  refine (valCheck_any _ _ _ _ hvn).mono ?_
                  rintro e w3 ⟨rfl, hb3⟩
                  go_wp2
                  go_ret
                  have h2 := firstN_at haz hkl (by rw [hgd.out]; exact N.out)
                  rw [hgd.out] at h2
                  have h3 := N.out
                  exact ⟨ret_int (by have := ML.out; simp only [wireE, if_pos B0.out, if_neg K2.out, if_pos K1.out, if_pos S0.out, h2, if_neg h3]; rw [if_pos (by omega)]), (by repeat (first | exact Below.refl _ _ | assumption | refine below_step ?_ (by assumption) | refine below_step ?_ (Joins.below_draws _ _ _) | (refine Below.alloc ?_ (by first | omega | (simp; done) | (simp; omega)) _) | (refine Below.setCell ?_ (by first | omega | (simp; done) | (simp; omega)) _) | refine Below.drew ?_))⟩
              · have hkm : k = vs.length := by have := ML.out; omega
                subst hkm
                go_wp2_with (go_at_call 59; refine (name_any _ _ ht).mono ?_; rintro e w' ⟨rfl, rfl⟩)
                go_ret
                exact ⟨ret_int (by have := ML.out; simp only [wireE, if_pos B0.out, if_neg K2.out, if_pos K1.out, if_pos S0.out, firstN_zero haz, if_true]; rw [if_pos (by omega)]), (by repeat (first | exact Below.refl _ _ | assumption | refine below_step ?_ (by assumption) | refine below_step ?_ (Joins.below_draws _ _ _) | (refine Below.alloc ?_ (by first | omega | (simp; done) | (simp; omega)) _) | (refine Below.setCell ?_ (by first | omega | (simp; done) | (simp; omega)) _) | refine Below.drew ?_))⟩
        · have hs1 : (spanE o.start o.stop != 0) = true := by simp [hs]
          have hs2 : (spanE o.start o.stop == 0) = false := by simp [hs]
          have S0 : Hid (¬ spanE o.start o.stop = 0) := hs
          clear hs
          go_enter Try.func25, Try.ntmps25
          go_wp2_with fail
          refine HB.out.mono ?_
          rintro e w1 ⟨rfl, hb1⟩
          obtain ⟨hc_w1, hf_w1⟩ := bcell hb1; have hs_w1 := hb1.size; (try simp only [World.size_alloc, World.size_drew, World.size_setCell] at hs_w1); (try simp only [World.size_drew, World.cell?_drew, World.frozen?_drew] at hc_w1 hf_w1); have z0_w1 : w.heap.size < w1.heap.size := (by omega)
          go_wp2_with fail
          refine (span_any _ _ _).mono ?_
          rintro e w2 ⟨rfl, hb2⟩
          go_wp2
          go_ret
          exact ⟨ret_int (by simp only [wireE, if_pos B0.out, if_neg K2.out, if_pos K1.out, if_neg S0.out]), (by repeat (first | exact Below.refl _ _ | assumption | refine below_step ?_ (by assumption) | refine below_step ?_ (Joins.below_draws _ _ _) | (refine Below.alloc ?_ (by first | omega | (simp; done) | (simp; omega)) _) | (refine Below.setCell ?_ (by first | omega | (simp; done) | (simp; omega)) _) | refine Below.drew ?_))⟩
      · have q2 : (o.kind == 1) = false := by simp [hk1]
        have K1 : Hid (¬ o.kind = 1) := hk1
        clear hk1 hk2 hkk
        go_enter Try.func25, Try.ntmps25
        go_wp2_with fail
        refine HB.out.mono ?_
        rintro e w1 ⟨rfl, hb1⟩
        obtain ⟨hc_w1, hf_w1⟩ := bcell hb1; have hs_w1 := hb1.size; (try simp only [World.size_alloc, World.size_drew, World.size_setCell] at hs_w1); (try simp only [World.size_drew, World.cell?_drew, World.frozen?_drew] at hc_w1 hf_w1); have z0_w1 : w.heap.size < w1.heap.size := (by omega)
        go_wp2_with (go_at_call 59; refine (name_any _ _ ht).mono ?_; rintro e w' ⟨rfl, rfl⟩)
        go_ret
        exact ⟨ret_int (by simp only [wireE, if_pos B0.out, if_neg K2.out, if_neg K1.out]), (by repeat (first | exact Below.refl _ _ | assumption | refine below_step ?_ (by assumption) | refine below_step ?_ (Joins.below_draws _ _ _) | (refine Below.alloc ?_ (by first | omega | (simp; done) | (simp; omega)) _) | (refine Below.setCell ?_ (by first | omega | (simp; done) | (simp; omega)) _) | refine Below.drew ?_))⟩
  · have hz1 : (bareE o m != 0) = true := by simp [hz]
    have B0 : Hid (¬ bareE o vs.length = 0) := by show ¬ _ = _; rw [← BE.out]; exact hz
    clear hz
    go_enter Try.func25, Try.ntmps25
    go_wp2_with fail
    refine HB.out.mono ?_
    rintro e w1 ⟨rfl, hb1⟩
    go_wp2
    go_ret
    exact ⟨ret_int (by rw [BE.out]; simp only [wireE, if_neg B0.out]), (by repeat (first | exact Below.refl _ _ | assumption | refine below_step ?_ (by assumption) | refine below_step ?_ (Joins.below_draws _ _ _) | (refine Below.alloc ?_ (by first | omega | (simp; done) | (simp; omega)) _) | (refine Below.setCell ?_ (by first | omega | (simp; done) | (simp; omega)) _) | refine Below.drew ?_))⟩

set_option maxHeartbeats 2000000 in
theorem wireFault_any (o : Opn) (vo : Option Addr) (m vcap : Nat) (vs : List Val) (w : World) (ht : o.type.size ≤ maxLen) (hV : SlR w 3 valR vo m vcap vs) :
    Calls Try.prog 30 #[o.val (.slice vo m vcap)] w fun e' w' => e' = .returned (.int .i64 (wireE o vs)) ∧ Below w.heap.size w w' := by
  have ML : Hid (m = vs.length) := hV.len
  have hvle := hV.le
  have BE : Hid (bareE o m = bareE o vs.length) := by show _ = _; rw [ML.out]
  have hV1 := hV.mono valR_stays (Joins.below_alloc1 w (.cells #[.int .i64 o.kind, .string o.type, .int .i64 o.start, .int .i64 o.stop, .slice vo m vcap, .int .i64 o.delta, .bool o.collect] 33))
  have hbare := opFault_any o vo m vcap (w.alloc (.cells #[.int .i64 o.kind, .string o.type, .int .i64 o.start, .int .i64 o.stop, .slice vo m vcap, .int .i64 o.delta, .bool o.collect] 33)) ht (by omega)
  have HB : Hid (Calls Try.prog 60 _ _ _) := hbare
  clear hbare
  unfold Opn.val
  by_cases hz : bareE o m = 0
  · have hz1 : (bareE o m != 0) = false := by simp [hz]
    have B0 : Hid (bareE o vs.length = 0) := by show _ = _; rw [← BE.out]; exact hz
    have hkk : o.kind = 1 ∨ o.kind = 2 ∨ o.kind = 3 := by
      unfold bareE at hz; split at hz
      · omega
      · omega
    clear hz
    by_cases hk2 : o.kind = 2
    · have q1 : (o.kind == 2) = true := by simp [hk2]
      have K2 : Hid (o.kind = 2) := hk2
      clear hk2 hkk
      go_enter Try.func30, Try.ntmps30
      go_wp2_with fail
      refine HB.out.mono ?_
      rintro e w1 ⟨rfl, hb1⟩
      obtain ⟨hc_w1, hf_w1⟩ := bcell hb1; have hs_w1 := hb1.size; (try simp only [World.size_alloc, World.size_drew, World.size_setCell] at hs_w1); (try simp only [World.size_drew, World.cell?_drew, World.frozen?_drew] at hc_w1 hf_w1); have z0_w1 : w.heap.size < w1.heap.size := (by omega)
      go_wp2_with (go_at_call 61; refine (timeMay_any _ _).mono ?_; rintro e w' ⟨rfl, rfl⟩)
      all_goals (go_ret; refine ⟨ret_int ?_, (by repeat (first | exact Below.refl _ _ | assumption | refine below_step ?_ (by assumption) | refine below_step ?_ (Joins.below_draws _ _ _) | (refine Below.alloc ?_ (by first | omega | (simp; done) | (simp; omega)) _) | (refine Below.setCell ?_ (by first | omega | (simp; done) | (simp; omega)) _) | refine Below.drew ?_))⟩; have b0 := B0.out; have k2 := K2.out; go_light; simp only [wireE, if_pos b0, if_pos k2]; (try simp only [Bool.not_eq_true', Bool.not_eq_false', decide_eq_true_eq, decide_eq_false_iff_not, beq_iff_eq, beq_eq_false_iff_ne, bne_iff_ne, ne_eq, Bool.or_eq_true, Bool.and_eq_true, Bool.or_eq_false_iff, Bool.and_eq_false_imp, bne_eq_false_iff_eq, List.isEmpty_iff, List.isEmpty_eq_false_iff, inB_true, inB_false] at *); (repeat' split) <;> first | omega | (simp_all; done))
    · have q1 : (o.kind == 2) = false := by simp [hk2]
      have q1' : (o.kind != 2) = true := by simp [hk2]
      have K2 : Hid (¬ o.kind = 2) := hk2
      by_cases hk1 : o.kind = 1
      · have q2 : (o.kind == 1) = true := by simp [hk1]
        have K1 : Hid (o.kind = 1) := hk1
        clear hk1 hk2 hkk
        by_cases hs : spanE o.start o.stop = 0
        · have hs1 : (spanE o.start o.stop != 0) = false := by simp [hs]
          have hs2 : (spanE o.start o.stop == 0) = true := by simp [hs]
          have S0 : Hid (spanE o.start o.stop = 0) := hs
          clear hs
          by_cases h4 : 4 < m
          · have h4' : decide ((4 : Int) < (m : Int)) = true := by simp; omega
            have h4'' : (4 : Int) < (m : Int) := by omega
            go_enter Try.func30, Try.ntmps30
            go_wp2_with fail
            refine HB.out.mono ?_
            rintro e w1 ⟨rfl, hb1⟩
            obtain ⟨hc_w1, hf_w1⟩ := bcell hb1; have hs_w1 := hb1.size; (try simp only [World.size_alloc, World.size_drew, World.size_setCell] at hs_w1); (try simp only [World.size_drew, World.cell?_drew, World.frozen?_drew] at hc_w1 hf_w1); have z0_w1 : w.heap.size < w1.heap.size := (by omega)
            go_wp2_with fail
            refine (spanFault_any _ _ _).mono ?_
            rintro e w2 ⟨rfl, hb2⟩
            obtain ⟨hc_w2, hf_w2⟩ := bcell hb2; have hs_w2 := hb2.size; (try simp only [World.size_alloc, World.size_drew, World.size_setCell] at hs_w2); (try simp only [World.size_drew, World.cell?_drew, World.frozen?_drew] at hc_w2 hf_w2); have z0_w2 : w.heap.size < w2.heap.size := (by omega)
            go_wp2_with fail
            go_loopw [3, 4] (fun e i wr => e = .int .i64 1 ∧ i = .int .i64 0 ∧ wr = w2) (fun _ _ _ => 0)
            case atStart => exact ⟨rfl, rfl, rfl⟩
            case round =>
              obtain ⟨rfl, rfl, rfl⟩ := hrel
              go_wp2
              go_ret
              exact ⟨ret_int (by have := ML.out; simp only [wireE, if_pos B0.out, if_neg K2.out, if_pos K1.out, if_pos S0.out]; rw [if_neg (by omega)]), (by repeat (first | exact Below.refl _ _ | assumption | refine below_step ?_ (by assumption) | refine below_step ?_ (Joins.below_draws _ _ _) | (refine Below.alloc ?_ (by first | omega | (simp; done) | (simp; omega)) _) | (refine Below.setCell ?_ (by first | omega | (simp; done) | (simp; omega)) _) | refine Below.drew ?_))⟩
          · have h4' : decide ((4 : Int) < (m : Int)) = false := by simp; omega
            have h4'' : ¬ (4 : Int) < (m : Int) := by omega
            go_enter Try.func30, Try.ntmps30
            go_wp2_with fail
            refine HB.out.mono ?_
            rintro e w1 ⟨rfl, hb1⟩
            obtain ⟨hc_w1, hf_w1⟩ := bcell hb1; have hs_w1 := hb1.size; (try simp only [World.size_alloc, World.size_drew, World.size_setCell] at hs_w1); (try simp only [World.size_drew, World.cell?_drew, World.frozen?_drew] at hc_w1 hf_w1); have z0_w1 : w.heap.size < w1.heap.size := (by omega)
            go_wp2_with fail
            refine (spanFault_any _ _ _).mono ?_
            rintro e w2 ⟨rfl, hb2⟩
            obtain ⟨hc_w2, hf_w2⟩ := bcell hb2; have hs_w2 := hb2.size; (try simp only [World.size_alloc, World.size_drew, World.size_setCell] at hs_w2); (try simp only [World.size_drew, World.cell?_drew, World.frozen?_drew] at hc_w2 hf_w2); have z0_w2 : w.heap.size < w2.heap.size := (by omega)
            have hV2 := (hV1.mono valR_stays hb1).mono valR_stays hb2
            go_wp2_with fail
            go_loopw [3, 4] (fun e i wr => ∃ k : Nat, k ≤ m ∧ e = .int .i64 (firstN (valsE vs) k) ∧ i = .int .i64 k ∧ Below w2.heap.size w2 wr) (fun _ i _ => m - (intOf i).toNat)
            case atStart => exact ⟨0, by omega, by rw [S0.out]; rfl, rfl, Below.refl _ _⟩
            case round =>
              obtain ⟨k, hk, rfl, rfl, hbr⟩ := hrel
              obtain ⟨hc_wr, hf_wr⟩ := bcell hbr; have hs_wr := hbr.size; (try simp only [World.size_alloc, World.size_drew, World.size_setCell] at hs_wr); (try simp only [World.size_drew, World.cell?_drew, World.frozen?_drew] at hc_wr hf_wr); have z0_wr : w.heap.size < wr.heap.size := (by omega)
              have hVr := hV2.mono valR_stays hbr
              by_cases hgo : k < m ∧ firstN (valsE vs) k = 0
              · obtain ⟨hlt, hfz⟩ := hgo
                have hfz1 : (firstN (valsE vs) k == 0) = true := by simp [hfz]
                have FZ : Hid (firstN (valsE vs) k = 0) := hfz; clear hfz
                obtain ⟨b, off, row, hix, hblt, hrow, hrr, hvn⟩ := hVr.index (P := Try.prog) Try.underlying31 size_value (i := k) (by have := ML.out; omega)
                subst hrr
                obtain ⟨c0, c1, c2⟩ := hrow.three
                have hkl : k < vs.length := by have := ML.out; omega
                have hgd : Hid (valsE vs k = valE vs[k]) := by show valsE vs k = _; unfold valsE; rw [vals_getD vs k hkl]
                go_wp2_with fail
                refine (valFault_any _ _ _ _ hvn).mono ?_
                rintro e w3 ⟨rfl, hb3⟩
                go_wp2
                go_roundw
                case rel => exact ⟨k + 1, by omega, by rw [firstN_succ FZ.out hgd.out], by go_num, (by repeat (first | exact Below.refl _ _ | assumption | refine below_step ?_ (by assumption) | refine below_step ?_ (Joins.below_draws _ _ _) | (refine Below.alloc ?_ (by first | omega | (simp; done) | (simp; omega)) _) | (refine Below.setCell ?_ (by first | omega | (simp; done) | (simp; omega)) _) | refine Below.drew ?_))⟩
                case measure => simp [intOf]; omega
              · have hend : k = m ∨ firstN (valsE vs) k ≠ 0 := by omega
                have EN : Hid (firstN (valsE vs) k = firstN (valsE vs) vs.length) := by
                  have h1 := ML.out
                  show firstN (valsE vs) k = _
                  rw [firstN_end hk hend, h1]
                by_cases hv0 : firstN (valsE vs) k = 0
                · have hkm : ¬ (k : Int) < (m : Int) := by omega
                  have hv1 : (firstN (valsE vs) k == 0) = true := by simp [hv0]
                  have VZ : Hid (firstN (valsE vs) vs.length = 0) := by show _ = _; rw [← EN.out]; exact hv0
                  clear hv0 hgo hend
                  go_wp2_with (go_at_call 64; refine (nameFault_any _ _ ht).mono ?_; rintro e w' ⟨rfl, rfl⟩)
                  go_ret
                  exact ⟨ret_int (by have := ML.out; simp only [wireE, if_pos B0.out, if_neg K2.out, if_pos K1.out, if_pos S0.out, if_pos VZ.out]; rw [if_pos (by omega)]), (by repeat (first | exact Below.refl _ _ | assumption | refine below_step ?_ (by assumption) | refine below_step ?_ (Joins.below_draws _ _ _) | (refine Below.alloc ?_ (by first | omega | (simp; done) | (simp; omega)) _) | (refine Below.setCell ?_ (by first | omega | (simp; done) | (simp; omega)) _) | refine Below.drew ?_))⟩
                · have hv1 : (firstN (valsE vs) k == 0) = false := by simp [hv0]
                  have VZ : Hid (¬ firstN (valsE vs) vs.length = 0) := by show ¬ _ = _; rw [← EN.out]; exact hv0
                  clear hv0 hgo hend
                  by_cases hkm : (k : Int) < (m : Int)
                  · go_wp2
                    go_ret
                    exact ⟨ret_int (by have := ML.out; rw [EN.out]; simp only [wireE, if_pos B0.out, if_neg K2.out, if_pos K1.out, if_pos S0.out, if_neg VZ.out]; rw [if_pos (by omega)]), (by repeat (first | exact Below.refl _ _ | assumption | refine below_step ?_ (by assumption) | refine below_step ?_ (Joins.below_draws _ _ _) | (refine Below.alloc ?_ (by first | omega | (simp; done) | (simp; omega)) _) | (refine Below.setCell ?_ (by first | omega | (simp; done) | (simp; omega)) _) | refine Below.drew ?_))⟩
                  · go_wp2
                    go_ret
                    exact ⟨ret_int (by have := ML.out; rw [EN.out]; simp only [wireE, if_pos B0.out, if_neg K2.out, if_pos K1.out, if_pos S0.out, if_neg VZ.out]; rw [if_pos (by omega)]), (by repeat (first | exact Below.refl _ _ | assumption | refine below_step ?_ (by assumption) | refine below_step ?_ (Joins.below_draws _ _ _) | (refine Below.alloc ?_ (by first | omega | (simp; done) | (simp; omega)) _) | (refine Below.setCell ?_ (by first | omega | (simp; done) | (simp; omega)) _) | refine Below.drew ?_))⟩
        · have hs1 : (spanE o.start o.stop != 0) = true := by simp [hs]
          have hs2 : (spanE o.start o.stop == 0) = false := by simp [hs]
          have S0 : Hid (¬ spanE o.start o.stop = 0) := hs
          clear hs
          go_enter Try.func30, Try.ntmps30
          go_wp2_with fail
          refine HB.out.mono ?_
          rintro e w1 ⟨rfl, hb1⟩
          obtain ⟨hc_w1, hf_w1⟩ := bcell hb1; have hs_w1 := hb1.size; (try simp only [World.size_alloc, World.size_drew, World.size_setCell] at hs_w1); (try simp only [World.size_drew, World.cell?_drew, World.frozen?_drew] at hc_w1 hf_w1); have z0_w1 : w.heap.size < w1.heap.size := (by omega)
          go_wp2_with fail
          refine (spanFault_any _ _ _).mono ?_
          rintro e w2 ⟨rfl, hb2⟩
          obtain ⟨hc_w2, hf_w2⟩ := bcell hb2; have hs_w2 := hb2.size; (try simp only [World.size_alloc, World.size_drew, World.size_setCell] at hs_w2); (try simp only [World.size_drew, World.cell?_drew, World.frozen?_drew] at hc_w2 hf_w2); have z0_w2 : w.heap.size < w2.heap.size := (by omega)
          go_wp2_with fail
          go_loopw [3, 4] (fun e i wr => e = .int .i64 (spanE o.start o.stop) ∧ i = .int .i64 0 ∧ wr = w2) (fun _ _ _ => 0)
          case atStart => exact ⟨rfl, rfl, rfl⟩
          case round =>
            obtain ⟨rfl, rfl, rfl⟩ := hrel
            by_cases hm0 : 0 < m
            · go_wp2
              go_ret
              exact ⟨ret_int (by simp only [wireE, if_pos B0.out, if_neg K2.out, if_pos K1.out, if_neg S0.out]), (by repeat (first | exact Below.refl _ _ | assumption | refine below_step ?_ (by assumption) | refine below_step ?_ (Joins.below_draws _ _ _) | (refine Below.alloc ?_ (by first | omega | (simp; done) | (simp; omega)) _) | (refine Below.setCell ?_ (by first | omega | (simp; done) | (simp; omega)) _) | refine Below.drew ?_))⟩
            · go_wp2
              go_ret
              exact ⟨ret_int (by simp only [wireE, if_pos B0.out, if_neg K2.out, if_pos K1.out, if_neg S0.out]), (by repeat (first | exact Below.refl _ _ | assumption | refine below_step ?_ (by assumption) | refine below_step ?_ (Joins.below_draws _ _ _) | (refine Below.alloc ?_ (by first | omega | (simp; done) | (simp; omega)) _) | (refine Below.setCell ?_ (by first | omega | (simp; done) | (simp; omega)) _) | refine Below.drew ?_))⟩
      · have q2 : (o.kind == 1) = false := by simp [hk1]
        have K1 : Hid (¬ o.kind = 1) := hk1
        clear hk1 hk2 hkk
        go_enter Try.func30, Try.ntmps30
        go_wp2_with fail
        refine HB.out.mono ?_
        rintro e w1 ⟨rfl, hb1⟩
        obtain ⟨hc_w1, hf_w1⟩ := bcell hb1; have hs_w1 := hb1.size; (try simp only [World.size_alloc, World.size_drew, World.size_setCell] at hs_w1); (try simp only [World.size_drew, World.cell?_drew, World.frozen?_drew] at hc_w1 hf_w1); have z0_w1 : w.heap.size < w1.heap.size := (by omega)
        go_wp2_with (go_at_call 64; refine (nameFault_any _ _ ht).mono ?_; rintro e w' ⟨rfl, rfl⟩)
        go_ret
        exact ⟨ret_int (by simp only [wireE, if_pos B0.out, if_neg K2.out, if_neg K1.out]), (by repeat (first | exact Below.refl _ _ | assumption | refine below_step ?_ (by assumption) | refine below_step ?_ (Joins.below_draws _ _ _) | (refine Below.alloc ?_ (by first | omega | (simp; done) | (simp; omega)) _) | (refine Below.setCell ?_ (by first | omega | (simp; done) | (simp; omega)) _) | refine Below.drew ?_))⟩
  · have hz1 : (bareE o m != 0) = true := by simp [hz]
    have B0 : Hid (¬ bareE o vs.length = 0) := by show ¬ _ = _; rw [← BE.out]; exact hz
    clear hz
    go_enter Try.func30, Try.ntmps30
    go_wp2_with fail
    refine HB.out.mono ?_
    rintro e w1 ⟨rfl, hb1⟩
    go_wp2
    go_ret
    exact ⟨ret_int (by rw [BE.out]; simp only [wireE, if_neg B0.out]), (by repeat (first | exact Below.refl _ _ | assumption | refine below_step ?_ (by assumption) | refine below_step ?_ (Joins.below_draws _ _ _) | (refine Below.alloc ?_ (by first | omega | (simp; done) | (simp; omega)) _) | (refine Below.setCell ?_ (by first | omega | (simp; done) | (simp; omega)) _) | refine Below.drew ?_))⟩
end Go.Proofs.Ytciomaeieggbiaa
