/-
  The walks of acts' checks.
-/
import Derived.Test.YtciomaeieggbiaaOpnW
namespace Go.Proofs.Ytciomaeieggbiaa
open Go.RowKit
set_option linter.unusedVariables false
set_option linter.unusedSimpArgs false

set_option linter.unusedVariables false
set_option linter.unusedSimpArgs false

/-- Is an operation all empty? n: how many values it has. -/
def noneB (o : Opn) (n : Nat) : Bool := decide (o.kind = 0 ∧ o.type.size = 0 ∧ o.start = 0 ∧ o.stop = 0 ∧ n = 0 ∧ o.delta = 0 ∧ o.collect = false)
/-- An act. -/
structure Ac where
  kind : Int
  op : Opn
  pick : Int
  source : ByteArray
def Ac.val (a : Ac) (v : Value) : Value := .agg #[.int .i64 a.kind, .int .i64 a.op.kind, .string a.op.type, .int .i64 a.op.start, .int .i64 a.op.stop, v, .int .i64 a.op.delta, .bool a.op.collect, .int .i64 a.pick, .string a.source]
/-- What an act is refused for on a tape; in a script. -/
def noteE (a : Ac) (vs : List Val) : Int :=
  if a.kind = 1 then (if a.pick = 0 ∧ a.source.size = 0 then wireE a.op vs else 4)
  else if a.kind = 4 then (if a.pick = 0 ∧ noneB a.op vs.length = true then (if a.source.size ≤ 3000 then 0 else 1) else 4) else 3
def actE (a : Ac) (vs : List Val) : Int :=
  if a.kind = 1 ∨ a.kind = 4 then noteE a vs
  else if a.kind = 2 ∨ a.kind = 3 then (if a.source.size = 0 ∧ noneB a.op vs.length = true ∧ (a.kind = 2 → a.pick = 0) then (if 0 ≤ a.pick ∧ a.pick ≤ 200000 then 0 else 2) else 4) else 3

set_option maxHeartbeats 2000000 in
theorem none_any (o : Opn) (vo : Option Addr) (m vcap : Nat) (w : World) (hm : m ≤ 9223372036854775807) :
    Calls Try.prog 66 #[o.val (.slice vo m vcap)] w fun e' w' => e' = .returned (.bool (noneB o m)) ∧ Below w.heap.size w w' := by
  obtain ⟨k, t, s, e, d, c⟩ := o
  unfold Opn.val
  cases c
  all_goals
    go_enter Try.func66, Try.ntmps66
    go_wp2
    all_goals (go_ret; refine ⟨ret_bool ?_, (by repeat (first | exact Below.refl _ _ | assumption | refine below_step ?_ (by assumption) | refine below_step ?_ (Joins.below_draws _ _ _) | (refine Below.alloc ?_ (by first | omega | (simp; done) | (simp; omega)) _) | (refine Below.setCell ?_ (by first | omega | (simp; done) | (simp; omega)) _) | refine Below.drew ?_))⟩; go_light; unfold noneB; rw [Bool.eq_iff_iff]; (try simp only [Bool.not_eq_true', Bool.not_eq_false', decide_eq_true_eq, decide_eq_false_iff_not, beq_iff_eq, beq_eq_false_iff_ne, bne_iff_ne, ne_eq, Bool.or_eq_true, Bool.and_eq_true, Bool.or_eq_false_iff, Bool.and_eq_false_imp, bne_eq_false_iff_eq, List.isEmpty_iff, List.isEmpty_eq_false_iff, size_toList] at *); simp [size_toList, -ByteArray.size_eq_zero_iff]; try omega)
set_option maxHeartbeats 2000000 in
theorem noOp_any (o : Opn) (vo : Option Addr) (m vcap : Nat) (w : World) (hm : m ≤ 9223372036854775807) :
    Calls Try.prog 68 #[o.val (.slice vo m vcap)] w fun e' w' => e' = .returned (.bool (noneB o m)) ∧ Below w.heap.size w w' := by
  obtain ⟨k, t, s, e, d, c⟩ := o
  unfold Opn.val
  cases c
  all_goals
    go_enter Try.func68, Try.ntmps68
    go_wp2
    all_goals (go_ret; refine ⟨ret_bool ?_, (by repeat (first | exact Below.refl _ _ | assumption | refine below_step ?_ (by assumption) | refine below_step ?_ (Joins.below_draws _ _ _) | (refine Below.alloc ?_ (by first | omega | (simp; done) | (simp; omega)) _) | (refine Below.setCell ?_ (by first | omega | (simp; done) | (simp; omega)) _) | refine Below.drew ?_))⟩; go_light; unfold noneB; rw [Bool.eq_iff_iff]; (try simp only [Bool.not_eq_true', Bool.not_eq_false', decide_eq_true_eq, decide_eq_false_iff_not, beq_iff_eq, beq_eq_false_iff_ne, bne_iff_ne, ne_eq, Bool.or_eq_true, Bool.and_eq_true, Bool.or_eq_false_iff, Bool.and_eq_false_imp, bne_eq_false_iff_eq, List.isEmpty_iff, List.isEmpty_eq_false_iff, size_toList] at *); simp [size_toList, -ByteArray.size_eq_zero_iff]; try omega)
set_option maxHeartbeats 2000000 in
theorem note_any (a : Ac) (vo : Option Addr) (m vcap : Nat) (vs : List Val) (w : World) (ht : a.op.type.size ≤ maxLen) (hs : a.source.size ≤ maxLen) (hV : SlR w 3 valR vo m vcap vs) :
    Calls Try.prog 37 #[a.val (.slice vo m vcap)] w fun e' w' => e' = .returned (.int .i64 (noteE a vs)) ∧ Below w.heap.size w w' := by
  have ML : Hid (m = vs.length) := hV.len
  have hvle := hV.le
  unfold maxLen at hs
  have hd : Below w.heap.size w (w.alloc (.cells #[.int .i64 a.kind, .int .i64 a.op.kind, .string a.op.type, .int .i64 a.op.start, .int .i64 a.op.stop, .slice vo m vcap, .int .i64 a.op.delta, .bool a.op.collect, .int .i64 a.pick, .string a.source] 41)) := Joins.below_alloc1 _ _
  have hV1 := hV.mono valR_stays hd
  have HW : Hid (∀ wx, wx = (w.alloc (.cells #[.int .i64 a.kind, .int .i64 a.op.kind, .string a.op.type, .int .i64 a.op.start, .int .i64 a.op.stop, .slice vo m vcap, .int .i64 a.op.delta, .bool a.op.collect, .int .i64 a.pick, .string a.source] 41)) →
    Calls Try.prog 25 #[.agg #[.int .i64 a.op.kind, .string a.op.type, .int .i64 a.op.start, .int .i64 a.op.stop, .slice vo m vcap, .int .i64 a.op.delta, .bool a.op.collect]] wx fun e' w' => e' = .returned (.int .i64 (wireE a.op vs)) ∧ Below wx.heap.size wx w') := fun wx h => by
      subst h; exact wireCheck_any a.op vo m vcap vs _ ht hV1
  have HN : Hid (∀ wx : World, Calls Try.prog 66 #[.agg #[.int .i64 a.op.kind, .string a.op.type, .int .i64 a.op.start, .int .i64 a.op.stop, .slice vo m vcap, .int .i64 a.op.delta, .bool a.op.collect]] wx fun e' w' => e' = .returned (.bool (noneB a.op m)) ∧ Below wx.heap.size wx w') := fun wx => none_any a.op vo m vcap wx (by omega)
  unfold Ac.val
  by_cases hk1 : a.kind = 1
  · have q1 : (a.kind == 1) = true := by simp [hk1]
    have q1n : (a.kind != 1) = false := by simp [hk1]
    have q4 : (a.kind == 4) = false := by simp [hk1]
    have q4n : (a.kind != 4) = true := by simp [hk1]
    have K1 : Hid (a.kind = 1) := hk1
    clear hk1
    by_cases hp : a.pick = 0
    · have p1 : (a.pick != 0) = false := by simp [hp]
      have P0 : Hid (a.pick = 0) := hp
      clear hp
      by_cases hsr : a.source.toList = []
      · have s1 : (!a.source.toList.isEmpty) = false := by simp [hsr]
        have S0 : Hid (a.source.size = 0) := (size_toList _).1 hsr
        clear hsr
        go_enter Try.func37, Try.ntmps37
        go_wp2_with fail
        refine (HW.out _ rfl).mono ?_
        rintro e w1 ⟨rfl, hb1⟩
        go_wp2
        go_ret
        exact ⟨ret_int (by simp only [noteE, if_pos K1.out, if_pos (And.intro P0.out S0.out)]), (by repeat (first | exact Below.refl _ _ | assumption | refine below_step ?_ (by assumption) | refine below_step ?_ (Joins.below_draws _ _ _) | (refine Below.alloc ?_ (by first | omega | (simp; done) | (simp; omega)) _) | (refine Below.setCell ?_ (by first | omega | (simp; done) | (simp; omega)) _) | refine Below.drew ?_))⟩
      · have s1 : (!a.source.toList.isEmpty) = true := by cases h : a.source.toList <;> simp_all
        have S0 : Hid (¬ a.source.size = 0) := fun h => hsr ((size_toList _).2 h)
        clear hsr
        go_enter Try.func37, Try.ntmps37
        go_wp2
        go_ret
        exact ⟨ret_int (by simp only [noteE, if_pos K1.out]; rw [if_neg (fun h => S0.out h.2)]), (by repeat (first | exact Below.refl _ _ | assumption | refine below_step ?_ (by assumption) | refine below_step ?_ (Joins.below_draws _ _ _) | (refine Below.alloc ?_ (by first | omega | (simp; done) | (simp; omega)) _) | (refine Below.setCell ?_ (by first | omega | (simp; done) | (simp; omega)) _) | refine Below.drew ?_))⟩
    · have p1 : (a.pick != 0) = true := by simp [hp]
      have P0 : Hid (¬ a.pick = 0) := hp
      clear hp
      go_enter Try.func37, Try.ntmps37
      go_wp2
      go_ret
      exact ⟨ret_int (by simp only [noteE, if_pos K1.out]; rw [if_neg (fun h => P0.out h.1)]), (by repeat (first | exact Below.refl _ _ | assumption | refine below_step ?_ (by assumption) | refine below_step ?_ (Joins.below_draws _ _ _) | (refine Below.alloc ?_ (by first | omega | (simp; done) | (simp; omega)) _) | (refine Below.setCell ?_ (by first | omega | (simp; done) | (simp; omega)) _) | refine Below.drew ?_))⟩
  · have q1 : (a.kind == 1) = false := by simp [hk1]
    have q1n : (a.kind != 1) = true := by simp [hk1]
    have K1 : Hid (¬ a.kind = 1) := hk1
    by_cases hk4 : a.kind = 4
    · have q4 : (a.kind == 4) = true := by simp [hk4]
      have q4n : (a.kind != 4) = false := by simp [hk4]
      have K4 : Hid (a.kind = 4) := hk4
      clear hk4 hk1
      by_cases hp : a.pick = 0
      · have p1 : (a.pick != 0) = false := by simp [hp]
        have P0 : Hid (a.pick = 0) := hp
        clear hp
        cases hn : noneB a.op m with
        | true =>
          have N0 : Hid (noneB a.op vs.length = true) := by show _ = _; rw [← ML.out]; exact hn
          go_enter Try.func37, Try.ntmps37
          go_wp2_with fail
          refine (HN.out _).mono ?_
          rintro e w1 ⟨rfl, hb1⟩
          obtain ⟨hc_w1, hf_w1⟩ := bcell hb1; have hs_w1 := hb1.size; (try simp only [World.size_alloc, World.size_drew, World.size_setCell] at hs_w1); (try simp only [World.size_drew, World.cell?_drew, World.frozen?_drew] at hc_w1 hf_w1); have z0_w1 : w.heap.size < w1.heap.size := (by omega)
          go_wp2
          all_goals (go_ret; refine ⟨ret_int ?_, (by repeat (first | exact Below.refl _ _ | assumption | refine below_step ?_ (by assumption) | refine below_step ?_ (Joins.below_draws _ _ _) | (refine Below.alloc ?_ (by first | omega | (simp; done) | (simp; omega)) _) | (refine Below.setCell ?_ (by first | omega | (simp; done) | (simp; omega)) _) | refine Below.drew ?_))⟩; have k1 := K1.out; have k4 := K4.out; have p0 := P0.out; have n0 := N0.out; go_light; simp only [noteE, if_neg k1, if_pos k4, if_pos (And.intro p0 n0)]; (repeat' split) <;> omega)
        | false =>
          have N0 : Hid (noneB a.op vs.length = false) := by show _ = _; rw [← ML.out]; exact hn
          go_enter Try.func37, Try.ntmps37
          go_wp2_with fail
          refine (HN.out _).mono ?_
          rintro e w1 ⟨rfl, hb1⟩
          obtain ⟨hc_w1, hf_w1⟩ := bcell hb1; have hs_w1 := hb1.size; (try simp only [World.size_alloc, World.size_drew, World.size_setCell] at hs_w1); (try simp only [World.size_drew, World.cell?_drew, World.frozen?_drew] at hc_w1 hf_w1); have z0_w1 : w.heap.size < w1.heap.size := (by omega)
          go_wp2
          go_ret
          exact ⟨ret_int (by simp only [noteE, if_neg K1.out, if_pos K4.out, N0.out]; simp), (by repeat (first | exact Below.refl _ _ | assumption | refine below_step ?_ (by assumption) | refine below_step ?_ (Joins.below_draws _ _ _) | (refine Below.alloc ?_ (by first | omega | (simp; done) | (simp; omega)) _) | (refine Below.setCell ?_ (by first | omega | (simp; done) | (simp; omega)) _) | refine Below.drew ?_))⟩
      · have p1 : (a.pick != 0) = true := by simp [hp]
        have P0 : Hid (¬ a.pick = 0) := hp
        clear hp
        go_enter Try.func37, Try.ntmps37
        go_wp2
        go_ret
        exact ⟨ret_int (by simp only [noteE, if_neg K1.out, if_pos K4.out]; rw [if_neg (fun h => P0.out h.1)]), (by repeat (first | exact Below.refl _ _ | assumption | refine below_step ?_ (by assumption) | refine below_step ?_ (Joins.below_draws _ _ _) | (refine Below.alloc ?_ (by first | omega | (simp; done) | (simp; omega)) _) | (refine Below.setCell ?_ (by first | omega | (simp; done) | (simp; omega)) _) | refine Below.drew ?_))⟩
    · have q4 : (a.kind == 4) = false := by simp [hk4]
      have q4n : (a.kind != 4) = true := by simp [hk4]
      have K4 : Hid (¬ a.kind = 4) := hk4
      clear hk4 hk1
      go_enter Try.func37, Try.ntmps37
      go_wp2
      go_ret
      exact ⟨ret_int (by simp only [noteE, if_neg K1.out, if_neg K4.out]), (by repeat (first | exact Below.refl _ _ | assumption | refine below_step ?_ (by assumption) | refine below_step ?_ (Joins.below_draws _ _ _) | (refine Below.alloc ?_ (by first | omega | (simp; done) | (simp; omega)) _) | (refine Below.setCell ?_ (by first | omega | (simp; done) | (simp; omega)) _) | refine Below.drew ?_))⟩

set_option maxHeartbeats 2000000 in
theorem noteFault_any (a : Ac) (vo : Option Addr) (m vcap : Nat) (vs : List Val) (w : World) (ht : a.op.type.size ≤ maxLen) (hs : a.source.size ≤ maxLen) (hV : SlR w 3 valR vo m vcap vs) :
    Calls Try.prog 41 #[a.val (.slice vo m vcap)] w fun e' w' => e' = .returned (.int .i64 (noteE a vs)) ∧ Below w.heap.size w w' := by
  have ML : Hid (m = vs.length) := hV.len
  have hvle := hV.le
  unfold maxLen at hs
  have hd : Below w.heap.size w (w.alloc (.cells #[.int .i64 a.kind, .int .i64 a.op.kind, .string a.op.type, .int .i64 a.op.start, .int .i64 a.op.stop, .slice vo m vcap, .int .i64 a.op.delta, .bool a.op.collect, .int .i64 a.pick, .string a.source] 41)) := Joins.below_alloc1 _ _
  have hV1 := hV.mono valR_stays hd
  have HW : Hid (∀ wx, wx = (w.alloc (.cells #[.int .i64 a.kind, .int .i64 a.op.kind, .string a.op.type, .int .i64 a.op.start, .int .i64 a.op.stop, .slice vo m vcap, .int .i64 a.op.delta, .bool a.op.collect, .int .i64 a.pick, .string a.source] 41)) →
    Calls Try.prog 30 #[.agg #[.int .i64 a.op.kind, .string a.op.type, .int .i64 a.op.start, .int .i64 a.op.stop, .slice vo m vcap, .int .i64 a.op.delta, .bool a.op.collect]] wx fun e' w' => e' = .returned (.int .i64 (wireE a.op vs)) ∧ Below wx.heap.size wx w') := fun wx h => by
      subst h; exact wireFault_any a.op vo m vcap vs _ ht hV1
  have HN : Hid (∀ wx : World, Calls Try.prog 68 #[.agg #[.int .i64 a.op.kind, .string a.op.type, .int .i64 a.op.start, .int .i64 a.op.stop, .slice vo m vcap, .int .i64 a.op.delta, .bool a.op.collect]] wx fun e' w' => e' = .returned (.bool (noneB a.op m)) ∧ Below wx.heap.size wx w') := fun wx => noOp_any a.op vo m vcap wx (by omega)
  unfold Ac.val
  by_cases hk1 : a.kind = 1
  · have q1 : (a.kind == 1) = true := by simp [hk1]
    have q1n : (a.kind != 1) = false := by simp [hk1]
    have q4 : (a.kind == 4) = false := by simp [hk1]
    have q4n : (a.kind != 4) = true := by simp [hk1]
    have K1 : Hid (a.kind = 1) := hk1
    clear hk1
    by_cases hp : a.pick = 0
    · have p1 : (a.pick != 0) = false := by simp [hp]
      have P0 : Hid (a.pick = 0) := hp
      clear hp
      by_cases hsr : a.source.toList = []
      · have s1 : (!a.source.toList.isEmpty) = false := by simp [hsr]
        have S0 : Hid (a.source.size = 0) := (size_toList _).1 hsr
        clear hsr
        go_enter Try.func41, Try.ntmps41
        go_wp2_with fail
        refine (HW.out _ rfl).mono ?_
        rintro e w1 ⟨rfl, hb1⟩
        go_wp2
        go_ret
        exact ⟨ret_int (by simp only [noteE, if_pos K1.out, if_pos (And.intro P0.out S0.out)]), (by repeat (first | exact Below.refl _ _ | assumption | refine below_step ?_ (by assumption) | refine below_step ?_ (Joins.below_draws _ _ _) | (refine Below.alloc ?_ (by first | omega | (simp; done) | (simp; omega)) _) | (refine Below.setCell ?_ (by first | omega | (simp; done) | (simp; omega)) _) | refine Below.drew ?_))⟩
      · have s1 : (!a.source.toList.isEmpty) = true := by cases h : a.source.toList <;> simp_all
        have S0 : Hid (¬ a.source.size = 0) := fun h => hsr ((size_toList _).2 h)
        clear hsr
        go_enter Try.func41, Try.ntmps41
        go_wp2
        go_ret
        exact ⟨ret_int (by simp only [noteE, if_pos K1.out]; rw [if_neg (fun h => S0.out h.2)]), (by repeat (first | exact Below.refl _ _ | assumption | refine below_step ?_ (by assumption) | refine below_step ?_ (Joins.below_draws _ _ _) | (refine Below.alloc ?_ (by first | omega | (simp; done) | (simp; omega)) _) | (refine Below.setCell ?_ (by first | omega | (simp; done) | (simp; omega)) _) | refine Below.drew ?_))⟩
    · have p1 : (a.pick != 0) = true := by simp [hp]
      have P0 : Hid (¬ a.pick = 0) := hp
      clear hp
      go_enter Try.func41, Try.ntmps41
      go_wp2
      go_ret
      exact ⟨ret_int (by simp only [noteE, if_pos K1.out]; rw [if_neg (fun h => P0.out h.1)]), (by repeat (first | exact Below.refl _ _ | assumption | refine below_step ?_ (by assumption) | refine below_step ?_ (Joins.below_draws _ _ _) | (refine Below.alloc ?_ (by first | omega | (simp; done) | (simp; omega)) _) | (refine Below.setCell ?_ (by first | omega | (simp; done) | (simp; omega)) _) | refine Below.drew ?_))⟩
  · have q1 : (a.kind == 1) = false := by simp [hk1]
    have q1n : (a.kind != 1) = true := by simp [hk1]
    have K1 : Hid (¬ a.kind = 1) := hk1
    by_cases hk4 : a.kind = 4
    · have q4 : (a.kind == 4) = true := by simp [hk4]
      have q4n : (a.kind != 4) = false := by simp [hk4]
      have K4 : Hid (a.kind = 4) := hk4
      clear hk4 hk1
      by_cases hp : a.pick = 0
      · have p1 : (a.pick != 0) = false := by simp [hp]
        have P0 : Hid (a.pick = 0) := hp
        clear hp
        cases hn : noneB a.op m with
        | true =>
          have N0 : Hid (noneB a.op vs.length = true) := by show _ = _; rw [← ML.out]; exact hn
          go_enter Try.func41, Try.ntmps41
          go_wp2_with fail
          refine (HN.out _).mono ?_
          rintro e w1 ⟨rfl, hb1⟩
          obtain ⟨hc_w1, hf_w1⟩ := bcell hb1; have hs_w1 := hb1.size; (try simp only [World.size_alloc, World.size_drew, World.size_setCell] at hs_w1); (try simp only [World.size_drew, World.cell?_drew, World.frozen?_drew] at hc_w1 hf_w1); have z0_w1 : w.heap.size < w1.heap.size := (by omega)
          go_wp2
          all_goals (go_ret; refine ⟨ret_int ?_, (by repeat (first | exact Below.refl _ _ | assumption | refine below_step ?_ (by assumption) | refine below_step ?_ (Joins.below_draws _ _ _) | (refine Below.alloc ?_ (by first | omega | (simp; done) | (simp; omega)) _) | (refine Below.setCell ?_ (by first | omega | (simp; done) | (simp; omega)) _) | refine Below.drew ?_))⟩; have k1 := K1.out; have k4 := K4.out; have p0 := P0.out; have n0 := N0.out; go_light; simp only [noteE, if_neg k1, if_pos k4, if_pos (And.intro p0 n0)]; (repeat' split) <;> omega)
        | false =>
          have N0 : Hid (noneB a.op vs.length = false) := by show _ = _; rw [← ML.out]; exact hn
          go_enter Try.func41, Try.ntmps41
          go_wp2_with fail
          refine (HN.out _).mono ?_
          rintro e w1 ⟨rfl, hb1⟩
          obtain ⟨hc_w1, hf_w1⟩ := bcell hb1; have hs_w1 := hb1.size; (try simp only [World.size_alloc, World.size_drew, World.size_setCell] at hs_w1); (try simp only [World.size_drew, World.cell?_drew, World.frozen?_drew] at hc_w1 hf_w1); have z0_w1 : w.heap.size < w1.heap.size := (by omega)
          go_wp2
          go_ret
          exact ⟨ret_int (by simp only [noteE, if_neg K1.out, if_pos K4.out, N0.out]; simp), (by repeat (first | exact Below.refl _ _ | assumption | refine below_step ?_ (by assumption) | refine below_step ?_ (Joins.below_draws _ _ _) | (refine Below.alloc ?_ (by first | omega | (simp; done) | (simp; omega)) _) | (refine Below.setCell ?_ (by first | omega | (simp; done) | (simp; omega)) _) | refine Below.drew ?_))⟩
      · have p1 : (a.pick != 0) = true := by simp [hp]
        have P0 : Hid (¬ a.pick = 0) := hp
        clear hp
        go_enter Try.func41, Try.ntmps41
        go_wp2
        go_ret
        exact ⟨ret_int (by simp only [noteE, if_neg K1.out, if_pos K4.out]; rw [if_neg (fun h => P0.out h.1)]), (by repeat (first | exact Below.refl _ _ | assumption | refine below_step ?_ (by assumption) | refine below_step ?_ (Joins.below_draws _ _ _) | (refine Below.alloc ?_ (by first | omega | (simp; done) | (simp; omega)) _) | (refine Below.setCell ?_ (by first | omega | (simp; done) | (simp; omega)) _) | refine Below.drew ?_))⟩
    · have q4 : (a.kind == 4) = false := by simp [hk4]
      have q4n : (a.kind != 4) = true := by simp [hk4]
      have K4 : Hid (¬ a.kind = 4) := hk4
      clear hk4 hk1
      go_enter Try.func41, Try.ntmps41
      go_wp2
      go_ret
      exact ⟨ret_int (by simp only [noteE, if_neg K1.out, if_neg K4.out]), (by repeat (first | exact Below.refl _ _ | assumption | refine below_step ?_ (by assumption) | refine below_step ?_ (Joins.below_draws _ _ _) | (refine Below.alloc ?_ (by first | omega | (simp; done) | (simp; omega)) _) | (refine Below.setCell ?_ (by first | omega | (simp; done) | (simp; omega)) _) | refine Below.drew ?_))⟩
end Go.Proofs.Ytciomaeieggbiaa
