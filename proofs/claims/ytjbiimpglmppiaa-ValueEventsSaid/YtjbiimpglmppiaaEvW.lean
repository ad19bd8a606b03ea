/-
  The walks of value.CheckEvent and of its reference.
-/
import Derived.Test.YtjbiimpglmppiaaValF
import Derived.Test.YtjbiimpglmppiaaSpanW
import Derived.RegionTactic
import Derived.Deep.RegionWith
namespace Go.Proofs.Ytjbiimpglmppiaa
open Go.RowKit
set_option linter.unusedVariables false
set_option linter.unusedSimpArgs false

/-- A type of events; its row of cells. -/
structure Typ where
  name : ByteArray
  fields : List Fld
instance : Inhabited Typ := ⟨⟨ByteArray.empty, []⟩⟩
def typR : World → List Value → Typ → Prop := fun w row t => ∃ ao n cap, row = [.string t.name, .slice ao n cap] ∧ t.name.size ≤ maxLen ∧ SlR w 2 fldR ao n cap t.fields
theorem typR_stays : Stays typR := fun w w' row t hb ⟨ao, n, cap, e, h1, h2⟩ => ⟨ao, n, cap, e, h1, h2.mono fldR_stays hb⟩
theorem size_type : SizeIs Try.prog 38 2 := fun w => by kernel_rfl

/-- An event. -/
structure Evt where
  number : Int
  type : Int
  start : Int
  stop : Int
def Evt.val (x : Evt) (v : Value) : Value := .agg #[.int .i64 x.number, .int .i64 x.type, .int .i64 x.start, .int .i64 x.stop, v]
/-- What an event is refused for. -/
def eventE (ts : List Typ) (x : Evt) (vs : List Val) : Int :=
  if 1 ≤ x.number ∧ x.number ≤ 1048576 then
    (if 0 ≤ x.type ∧ x.type < ts.length then (if spanE x.start x.stop = 0 then fitE (ts.getD x.type.toNat default).name (ts.getD x.type.toNat default).fields vs else spanE x.start x.stop) else 6) else 2

set_option maxHeartbeats 2000000 in
theorem event_any (to : Option Addr) (tn tcap : Nat) (ts : List Typ) (x : Evt) (vo : Option Addr) (m vcap : Nat) (vs : List Val) (w : World) (hT : SlR w 2 typR to tn tcap ts) (hV : SlR w 3 valR vo m vcap vs) :
    Calls Try.prog 31 #[.slice to tn tcap, x.val (.slice vo m vcap)] w fun e' w' => e' = .returned (.int .i64 (eventE ts x vs)) ∧ Below w.heap.size w w' := by
  have TL : Hid (tn = ts.length) := hT.len
  have hvle := hV.le
  have htle := hT.le
  have hd : Below w.heap.size w (w.alloc (.cells #[.int .i64 x.number, .int .i64 x.type, .int .i64 x.start, .int .i64 x.stop, .slice vo m vcap] 51)) := Joins.below_alloc1 _ _
  have hV1 := hV.mono valR_stays hd
  have hT1 := hT.mono typR_stays hd
  unfold Evt.val
  by_cases hn : 1 ≤ x.number ∧ x.number ≤ 1048576
  · have N1 : Hid (1 ≤ x.number ∧ x.number ≤ 1048576) := hn
    have n1 : decide (x.number < 1) = false := by simp; omega
    have n2 : decide ((1048576 : Int) < x.number) = false := by simp; omega
    have n3 : inB x.number 1 1048576 = true := inB_true.2 hn
    clear hn
    by_cases ht : 0 ≤ x.type ∧ x.type < tn
    · generalize hxt : x.type = xt at *
      obtain ⟨j, rfl⟩ := Int.eq_ofNat_of_zero_le ht.1
      have hjt : j < ts.length := by have := TL.out; omega
      have T1 : Hid (0 ≤ x.type ∧ x.type < ts.length) := by have := TL.out; rw [hxt]; exact ⟨ht.1, by omega⟩
      have TJ : Hid (ts.getD x.type.toNat default = ts[j]) := by show _ = _; rw [hxt]; simp [List.getD, List.getElem?_eq_getElem hjt]
      have t1 : decide ((j : Int) < 0) = false := by simp
      have t2 : decide ((tn : Int) ≤ (j : Int)) = false := by simp; omega
      have t3 : inB (j : Int) 0 ((tn : Int) - 1) = true := by rw [inB_true]; omega
      have hjn : j < tn := by omega
      obtain ⟨b, off, row, hix, hblt, hrow, ⟨ao, n, cap, rfl, hnm, hF⟩⟩ := hT1.index (P := Try.prog) Try.underlying49 size_type hjt
      obtain ⟨c0, c1⟩ := hrow.two
      clear hxt ht
      by_cases hs : spanE x.start x.stop = 0
      · have hs1 : (spanE x.start x.stop != 0) = false := by simp [hs]
        have hs2 : (spanE x.start x.stop == 0) = true := by simp [hs]
        have S0 : Hid (spanE x.start x.stop = 0) := hs
        clear hs
        go_enter Try.func31, Try.ntmps31
        go_wp2_with fail
        refine (span_any _ _ _).mono ?_
        rintro e w1 ⟨rfl, hb1⟩
        obtain ⟨hc_w1, hf_w1⟩ := bcell hb1; have hs_w1 := hb1.size; (try simp only [World.size_alloc, World.size_drew] at hs_w1); have z0_w1 : w.heap.size < w1.heap.size := (by omega)
        have hF1 := hF.mono fldR_stays hb1
        have hV2 := hV1.mono valR_stays hb1
        have d0 : w1.cell? ⟨b, off + j * 2, none⟩ = some (.string ts[j].name) := (hb1.cell (p := ⟨b, off + j * 2, none⟩) hblt).trans c0
        have d1 : w1.cell? ⟨b, off + j * 2 + 1, none⟩ = some (.slice ao n cap) := (hb1.cell (p := ⟨b, off + j * 2 + 1, none⟩) hblt).trans c1
        go_wp2_with fail
        go_region_with (go_at_call 27; refine (fit_any ts[j].name ao n cap ts[j].fields vo m vcap vs _ hnm (hF1.mono fldR_stays ((Below.refl _ _).drew)) (hV2.mono valR_stays ((Below.refl _ _).drew))).mono ?_; rintro e w2 ⟨rfl, hb2⟩)
        all_goals
          go_wp2
          go_ret
          exact ⟨ret_int (by simp only [eventE, if_pos N1.out, if_pos T1.out, if_pos S0.out, TJ.out]), below_step (below_step hd hb1) (((Below.refl _ _).drew).trans hb2)⟩
      · have hs1 : (spanE x.start x.stop != 0) = true := by simp [hs]
        have hs2 : (spanE x.start x.stop == 0) = false := by simp [hs]
        have S0 : Hid (¬ spanE x.start x.stop = 0) := hs
        clear hs
        go_enter Try.func31, Try.ntmps31
        go_wp2_with fail
        refine (span_any _ _ _).mono ?_
        rintro e w1 ⟨rfl, hb1⟩
        go_wp2
        go_ret
        exact ⟨ret_int (by simp only [eventE, if_pos N1.out, if_pos T1.out, if_neg S0.out]), (by repeat (first | exact Below.refl _ _ | assumption | refine below_step ?_ (by assumption) | refine below_step ?_ (Joins.below_draws _ _ _) | (refine Below.alloc ?_ (by first | omega | (simp; done) | (simp; omega)) _) | (refine Below.setCell ?_ (by first | omega | (simp; done) | (simp; omega)) _) | refine Below.drew ?_))⟩
    · have T1 : Hid (¬ (0 ≤ x.type ∧ x.type < ts.length)) := by have := TL.out; intro h; exact ht ⟨h.1, by omega⟩
      by_cases ht0 : x.type < 0
      · have t1 : decide (x.type < 0) = true := by simp; omega
        have t3 : inB x.type 0 ((tn : Int) - 1) = false := by rw [inB_false]; omega
        clear ht
        go_enter Try.func31, Try.ntmps31
        go_wp2
        go_ret
        exact ⟨ret_int (by simp only [eventE, if_pos N1.out, if_neg T1.out]), (by repeat (first | exact Below.refl _ _ | assumption | refine below_step ?_ (by assumption) | refine below_step ?_ (Joins.below_draws _ _ _) | (refine Below.alloc ?_ (by first | omega | (simp; done) | (simp; omega)) _) | (refine Below.setCell ?_ (by first | omega | (simp; done) | (simp; omega)) _) | refine Below.drew ?_))⟩
      · have t1 : decide (x.type < 0) = false := by simp; omega
        have t2 : decide ((tn : Int) ≤ x.type) = true := by simp; omega
        have t3 : inB x.type 0 ((tn : Int) - 1) = false := by rw [inB_false]; omega
        clear ht
        go_enter Try.func31, Try.ntmps31
        go_wp2
        go_ret
        exact ⟨ret_int (by simp only [eventE, if_pos N1.out, if_neg T1.out]), (by repeat (first | exact Below.refl _ _ | assumption | refine below_step ?_ (by assumption) | refine below_step ?_ (Joins.below_draws _ _ _) | (refine Below.alloc ?_ (by first | omega | (simp; done) | (simp; omega)) _) | (refine Below.setCell ?_ (by first | omega | (simp; done) | (simp; omega)) _) | refine Below.drew ?_))⟩
  · have N1 : Hid (¬ (1 ≤ x.number ∧ x.number ≤ 1048576)) := hn
    have n3 : inB x.number 1 1048576 = false := inB_false.2 hn
    by_cases hn0 : x.number < 1
    · have n1 : decide (x.number < 1) = true := by simp; omega
      clear hn
      go_enter Try.func31, Try.ntmps31
      go_wp2
      go_ret
      exact ⟨ret_int (by simp only [eventE, if_neg N1.out]), (by repeat (first | exact Below.refl _ _ | assumption | refine below_step ?_ (by assumption) | refine below_step ?_ (Joins.below_draws _ _ _) | (refine Below.alloc ?_ (by first | omega | (simp; done) | (simp; omega)) _) | (refine Below.setCell ?_ (by first | omega | (simp; done) | (simp; omega)) _) | refine Below.drew ?_))⟩
    · have n1 : decide (x.number < 1) = false := by simp; omega
      have n2 : decide ((1048576 : Int) < x.number) = true := by simp; omega
      clear hn
      go_enter Try.func31, Try.ntmps31
      go_wp2
      go_ret
      exact ⟨ret_int (by simp only [eventE, if_neg N1.out]), (by repeat (first | exact Below.refl _ _ | assumption | refine below_step ?_ (by assumption) | refine below_step ?_ (Joins.below_draws _ _ _) | (refine Below.alloc ?_ (by first | omega | (simp; done) | (simp; omega)) _) | (refine Below.setCell ?_ (by first | omega | (simp; done) | (simp; omega)) _) | refine Below.drew ?_))⟩

set_option maxHeartbeats 2000000 in
theorem eventFault_any (to : Option Addr) (tn tcap : Nat) (ts : List Typ) (x : Evt) (vo : Option Addr) (m vcap : Nat) (vs : List Val) (w : World) (hT : SlR w 2 typR to tn tcap ts) (hV : SlR w 3 valR vo m vcap vs) :
    Calls Try.prog 32 #[.slice to tn tcap, x.val (.slice vo m vcap)] w fun e' w' => e' = .returned (.int .i64 (eventE ts x vs)) ∧ Below w.heap.size w w' := by
  have TL : Hid (tn = ts.length) := hT.len
  have hvle := hV.le
  have htle := hT.le
  have hd : Below w.heap.size w (w.alloc (.cells #[.int .i64 x.number, .int .i64 x.type, .int .i64 x.start, .int .i64 x.stop, .slice vo m vcap] 51)) := Joins.below_alloc1 _ _
  have hV1 := hV.mono valR_stays hd
  have hT1 := hT.mono typR_stays hd
  unfold Evt.val
  by_cases hn : 1 ≤ x.number ∧ x.number ≤ 1048576
  · have N1 : Hid (1 ≤ x.number ∧ x.number ≤ 1048576) := hn
    have n1 : decide (x.number < 1) = false := by simp; omega
    have n2 : decide ((1048576 : Int) < x.number) = false := by simp; omega
    have n3 : inB x.number 1 1048576 = true := inB_true.2 hn
    clear hn
    by_cases ht : 0 ≤ x.type ∧ x.type < tn
    · generalize hxt : x.type = xt at *
      obtain ⟨j, rfl⟩ := Int.eq_ofNat_of_zero_le ht.1
      have hjt : j < ts.length := by have := TL.out; omega
      have T1 : Hid (0 ≤ x.type ∧ x.type < ts.length) := by have := TL.out; rw [hxt]; exact ⟨ht.1, by omega⟩
      have TJ : Hid (ts.getD x.type.toNat default = ts[j]) := by show _ = _; rw [hxt]; simp [List.getD, List.getElem?_eq_getElem hjt]
      have t1 : decide ((j : Int) < 0) = false := by simp
      have t2 : decide ((tn : Int) ≤ (j : Int)) = false := by simp; omega
      have t3 : inB (j : Int) 0 ((tn : Int) - 1) = true := by rw [inB_true]; omega
      have hjn : j < tn := by omega
      obtain ⟨b, off, row, hix, hblt, hrow, ⟨ao, n, cap, rfl, hnm, hF⟩⟩ := hT1.index (P := Try.prog) Try.underlying49 size_type hjt
      obtain ⟨c0, c1⟩ := hrow.two
      clear hxt ht
      by_cases hs : spanE x.start x.stop = 0
      · have hs1 : (spanE x.start x.stop != 0) = false := by simp [hs]
        have hs2 : (spanE x.start x.stop == 0) = true := by simp [hs]
        have S0 : Hid (spanE x.start x.stop = 0) := hs
        clear hs
        go_enter Try.func32, Try.ntmps32
        go_wp2_with (go_at_call 39; refine (in_any _ _ _ _).mono ?_; rintro e w' ⟨rfl, rfl⟩)
        refine (spanFault_any _ _ _).mono ?_
        rintro e w1 ⟨rfl, hb1⟩
        obtain ⟨hc_w1, hf_w1⟩ := bcell hb1; have hs_w1 := hb1.size; (try simp only [World.size_alloc, World.size_drew] at hs_w1); have z0_w1 : w.heap.size < w1.heap.size := (by omega)
        have hF1 := hF.mono fldR_stays hb1
        have hV2 := hV1.mono valR_stays hb1
        have d0 : w1.cell? ⟨b, off + j * 2, none⟩ = some (.string ts[j].name) := (hb1.cell (p := ⟨b, off + j * 2, none⟩) hblt).trans c0
        have d1 : w1.cell? ⟨b, off + j * 2 + 1, none⟩ = some (.slice ao n cap) := (hb1.cell (p := ⟨b, off + j * 2 + 1, none⟩) hblt).trans c1
        go_wp2_with fail
        go_region_with (go_at_call 28; refine (fitFault_any ts[j].name ao n cap ts[j].fields vo m vcap vs _ hnm (hF1.mono fldR_stays ((Below.refl _ _).drew)) (hV2.mono valR_stays ((Below.refl _ _).drew))).mono ?_; rintro e w2 ⟨rfl, hb2⟩)
        all_goals
          go_wp2
          go_ret
          exact ⟨ret_int (by simp only [eventE, if_pos N1.out, if_pos T1.out, if_pos S0.out, TJ.out]), below_step (below_step hd hb1) (((Below.refl _ _).drew).trans hb2)⟩
      · have hs1 : (spanE x.start x.stop != 0) = true := by simp [hs]
        have hs2 : (spanE x.start x.stop == 0) = false := by simp [hs]
        have S0 : Hid (¬ spanE x.start x.stop = 0) := hs
        clear hs
        go_enter Try.func32, Try.ntmps32
        go_wp2_with (go_at_call 39; refine (in_any _ _ _ _).mono ?_; rintro e w' ⟨rfl, rfl⟩)
        refine (spanFault_any _ _ _).mono ?_
        rintro e w1 ⟨rfl, hb1⟩
        go_wp2
        go_ret
        exact ⟨ret_int (by simp only [eventE, if_pos N1.out, if_pos T1.out, if_neg S0.out]), (by repeat (first | exact Below.refl _ _ | assumption | refine below_step ?_ (by assumption) | refine below_step ?_ (Joins.below_draws _ _ _) | (refine Below.alloc ?_ (by first | omega | (simp; done) | (simp; omega)) _) | (refine Below.setCell ?_ (by first | omega | (simp; done) | (simp; omega)) _) | refine Below.drew ?_))⟩
    · have T1 : Hid (¬ (0 ≤ x.type ∧ x.type < ts.length)) := by have := TL.out; intro h; exact ht ⟨h.1, by omega⟩
      by_cases ht0 : x.type < 0
      · have t1 : decide (x.type < 0) = true := by simp; omega
        have t3 : inB x.type 0 ((tn : Int) - 1) = false := by rw [inB_false]; omega
        clear ht
        go_enter Try.func32, Try.ntmps32
        go_wp2_with (go_at_call 39; refine (in_any _ _ _ _).mono ?_; rintro e w' ⟨rfl, rfl⟩)
        go_ret
        exact ⟨ret_int (by simp only [eventE, if_pos N1.out, if_neg T1.out]), (by repeat (first | exact Below.refl _ _ | assumption | refine below_step ?_ (by assumption) | refine below_step ?_ (Joins.below_draws _ _ _) | (refine Below.alloc ?_ (by first | omega | (simp; done) | (simp; omega)) _) | (refine Below.setCell ?_ (by first | omega | (simp; done) | (simp; omega)) _) | refine Below.drew ?_))⟩
      · have t1 : decide (x.type < 0) = false := by simp; omega
        have t2 : decide ((tn : Int) ≤ x.type) = true := by simp; omega
        have t3 : inB x.type 0 ((tn : Int) - 1) = false := by rw [inB_false]; omega
        clear ht
        go_enter Try.func32, Try.ntmps32
        go_wp2_with (go_at_call 39; refine (in_any _ _ _ _).mono ?_; rintro e w' ⟨rfl, rfl⟩)
        go_ret
        exact ⟨ret_int (by simp only [eventE, if_pos N1.out, if_neg T1.out]), (by repeat (first | exact Below.refl _ _ | assumption | refine below_step ?_ (by assumption) | refine below_step ?_ (Joins.below_draws _ _ _) | (refine Below.alloc ?_ (by first | omega | (simp; done) | (simp; omega)) _) | (refine Below.setCell ?_ (by first | omega | (simp; done) | (simp; omega)) _) | refine Below.drew ?_))⟩
  · have N1 : Hid (¬ (1 ≤ x.number ∧ x.number ≤ 1048576)) := hn
    have n3 : inB x.number 1 1048576 = false := inB_false.2 hn
    by_cases hn0 : x.number < 1
    · have n1 : decide (x.number < 1) = true := by simp; omega
      clear hn
      go_enter Try.func32, Try.ntmps32
      go_wp2_with (go_at_call 39; refine (in_any _ _ _ _).mono ?_; rintro e w' ⟨rfl, rfl⟩)
      go_ret
      exact ⟨ret_int (by simp only [eventE, if_neg N1.out]), (by repeat (first | exact Below.refl _ _ | assumption | refine below_step ?_ (by assumption) | refine below_step ?_ (Joins.below_draws _ _ _) | (refine Below.alloc ?_ (by first | omega | (simp; done) | (simp; omega)) _) | (refine Below.setCell ?_ (by first | omega | (simp; done) | (simp; omega)) _) | refine Below.drew ?_))⟩
    · have n1 : decide (x.number < 1) = false := by simp; omega
      have n2 : decide ((1048576 : Int) < x.number) = true := by simp; omega
      clear hn
      go_enter Try.func32, Try.ntmps32
      go_wp2_with (go_at_call 39; refine (in_any _ _ _ _).mono ?_; rintro e w' ⟨rfl, rfl⟩)
      go_ret
      exact ⟨ret_int (by simp only [eventE, if_neg N1.out]), (by repeat (first | exact Below.refl _ _ | assumption | refine below_step ?_ (by assumption) | refine below_step ?_ (Joins.below_draws _ _ _) | (refine Below.alloc ?_ (by first | omega | (simp; done) | (simp; omega)) _) | (refine Below.setCell ?_ (by first | omega | (simp; done) | (simp; omega)) _) | refine Below.drew ?_))⟩
end Go.Proofs.Ytjbiimpglmppiaa
