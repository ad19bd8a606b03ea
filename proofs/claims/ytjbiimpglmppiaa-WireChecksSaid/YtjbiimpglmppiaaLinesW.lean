/-
  The walks of lines.Check and of its reference.
-/
import Derived.Test.YtjbiimpglmppiaaActW
namespace Go.Proofs.Ytjbiimpglmppiaa
open Go.RowKit
set_option linter.unusedVariables false
set_option linter.unusedSimpArgs false


set_option maxHeartbeats 2000000 in
theorem act_any (a : Ac) (vo : Option Addr) (m vcap : Nat) (vs : List Val) (w : World) (ht : a.op.type.size ≤ maxLen) (hs : a.source.size ≤ maxLen) (hV : SlR w 3 valR vo m vcap vs) :
    Calls Try.prog 35 #[a.val (.slice vo m vcap)] w fun e' w' => e' = .returned (.int .i64 (actE a vs)) ∧ Below w.heap.size w w' := by
  have ML : Hid (m = vs.length) := hV.len
  have hvle := hV.le
  have hd : Below w.heap.size w (w.alloc (.cells #[.int .i64 a.kind, .int .i64 a.op.kind, .string a.op.type, .int .i64 a.op.start, .int .i64 a.op.stop, .slice vo m vcap, .int .i64 a.op.delta, .bool a.op.collect, .int .i64 a.pick, .string a.source] 55)) := Joins.below_alloc1 _ _
  have hV1 := hV.mono valR_stays hd
  have HC : Hid (∀ wx, wx = (w.alloc (.cells #[.int .i64 a.kind, .int .i64 a.op.kind, .string a.op.type, .int .i64 a.op.start, .int .i64 a.op.stop, .slice vo m vcap, .int .i64 a.op.delta, .bool a.op.collect, .int .i64 a.pick, .string a.source] 55)) →
    Calls Try.prog 33 #[.agg #[.int .i64 a.kind, .int .i64 a.op.kind, .string a.op.type, .int .i64 a.op.start, .int .i64 a.op.stop, .slice vo m vcap, .int .i64 a.op.delta, .bool a.op.collect, .int .i64 a.pick, .string a.source]] wx fun e' w' => e' = .returned (.int .i64 (noteE a vs)) ∧ Below wx.heap.size wx w') := fun wx h => by
      subst h; exact note_any a vo m vcap vs _ ht hs hV1
  have HB : Hid (∀ wx : World, Calls Try.prog 50 #[.agg #[.int .i64 a.kind, .int .i64 a.op.kind, .string a.op.type, .int .i64 a.op.start, .int .i64 a.op.stop, .slice vo m vcap, .int .i64 a.op.delta, .bool a.op.collect, .int .i64 a.pick, .string a.source]] wx fun e' w' => e' = .returned (.bool (decide (a.source.size = 0) && noneB a.op m)) ∧ Below wx.heap.size wx w') := fun wx => bareAct_any a vo m vcap wx (by omega)
  unfold Ac.val
  by_cases hk : a.kind = 1
  · have K : Hid (a.kind = 1 ∨ a.kind = 4) := by show _ ∨ _; omega
    have q1 : (a.kind == 1) = true := by simp [hk]
    have q2 : (a.kind == 2) = false := by simp [hk]
    have q3 : (a.kind == 3) = false := by simp [hk]
    have q4 : (a.kind == 4) = false := by simp [hk]
    clear hk
    go_enter Try.func35, Try.ntmps35
    go_wp2_with fail
    refine (HC.out _ rfl).mono ?_
    rintro e w1 ⟨rfl, hb1⟩
    go_wp2
    go_ret
    exact ⟨ret_int (by simp only [actE, if_pos K.out]), (by repeat (first | exact Below.refl _ _ | assumption | refine below_step ?_ (by assumption) | refine below_step ?_ (Joins.below_draws _ _ _) | (refine Below.alloc ?_ (by first | omega | (simp; done) | (simp; omega)) _) | (refine Below.setCell ?_ (by first | omega | (simp; done) | (simp; omega)) _) | refine Below.drew ?_))⟩
  by_cases hk : a.kind = 4
  · have K : Hid (a.kind = 1 ∨ a.kind = 4) := by show _ ∨ _; omega
    have q1 : (a.kind == 1) = false := by simp [hk]
    have q2 : (a.kind == 2) = false := by simp [hk]
    have q3 : (a.kind == 3) = false := by simp [hk]
    have q4 : (a.kind == 4) = true := by simp [hk]
    clear hk
    go_enter Try.func35, Try.ntmps35
    go_wp2_with fail
    refine (HC.out _ rfl).mono ?_
    rintro e w1 ⟨rfl, hb1⟩
    go_wp2
    go_ret
    exact ⟨ret_int (by simp only [actE, if_pos K.out]), (by repeat (first | exact Below.refl _ _ | assumption | refine below_step ?_ (by assumption) | refine below_step ?_ (Joins.below_draws _ _ _) | (refine Below.alloc ?_ (by first | omega | (simp; done) | (simp; omega)) _) | (refine Below.setCell ?_ (by first | omega | (simp; done) | (simp; omega)) _) | refine Below.drew ?_))⟩
  by_cases hk : a.kind = 2
  · have K : Hid (¬ (a.kind = 1 ∨ a.kind = 4)) := by show ¬ (_ ∨ _); omega
    have K2 : Hid (a.kind = 2 ∨ a.kind = 3) := by show _ ∨ _; omega
    have KK : Hid (a.kind = 2) := hk
    have q1 : (a.kind == 1) = false := by simp [hk]
    have q2 : (a.kind == 2) = true := by simp [hk]
    have q3 : (a.kind == 3) = false := by simp [hk]
    have q4 : (a.kind == 4) = false := by simp [hk]
    clear hk
    by_cases hsr : a.source.toList = []
    · have s1 : (!a.source.toList.isEmpty) = false := by simp [hsr]
      have S0 : Hid (a.source.size = 0) := (size_toList _).1 hsr
      clear hsr
      cases hn : noneB a.op m with
      | true =>
        have N0 : Hid (noneB a.op vs.length = true) := by show _ = _; rw [← ML.out]; exact hn
        have hbt : (decide (a.source.size = 0) && true) = true := by have := S0.out; simp [this, -ByteArray.size_eq_zero_iff]
        go_enter Try.func35, Try.ntmps35
        go_wp2_with fail
        refine (HB.out _).mono ?_
        rintro e w1 ⟨rfl, hb1⟩
        obtain ⟨hc_w1, hf_w1⟩ := bcell hb1; have hs_w1 := hb1.size; (try simp only [World.size_alloc, World.size_drew] at hs_w1); have z0_w1 : w.heap.size < w1.heap.size := (by omega)
        rw [hn]
        rw [hbt]
        go_wp2
        all_goals (go_ret; refine ⟨ret_int ?_, (by repeat (first | exact Below.refl _ _ | assumption | refine below_step ?_ (by assumption) | refine below_step ?_ (Joins.below_draws _ _ _) | (refine Below.alloc ?_ (by first | omega | (simp; done) | (simp; omega)) _) | (refine Below.setCell ?_ (by first | omega | (simp; done) | (simp; omega)) _) | refine Below.drew ?_))⟩; have k1 := K.out; have k2 := K2.out; have kk := KK.out; have s0 := S0.out; have n0 := N0.out; go_light; simp only [actE, if_neg k1, if_pos k2]; (try simp only [Bool.not_eq_true', Bool.not_eq_false', decide_eq_true_eq, decide_eq_false_iff_not, beq_iff_eq, beq_eq_false_iff_ne, bne_iff_ne, ne_eq, Bool.or_eq_true, Bool.and_eq_true, Bool.or_eq_false_iff, Bool.and_eq_false_imp, bne_eq_false_iff_eq, List.isEmpty_iff, List.isEmpty_eq_false_iff, inB_true, inB_false] at *); (repeat' split) <;> first | omega | (simp_all; done) | (simp_all; omega))
      | false =>
        have N0 : Hid (noneB a.op vs.length = false) := by show _ = _; rw [← ML.out]; exact hn
        have hbt : (decide (a.source.size = 0) && false) = false := by simp
        go_enter Try.func35, Try.ntmps35
        go_wp2_with fail
        refine (HB.out _).mono ?_
        rintro e w1 ⟨rfl, hb1⟩
        obtain ⟨hc_w1, hf_w1⟩ := bcell hb1; have hs_w1 := hb1.size; (try simp only [World.size_alloc, World.size_drew] at hs_w1); have z0_w1 : w.heap.size < w1.heap.size := (by omega)
        rw [hn]
        rw [hbt]
        go_wp2
        all_goals (go_ret; refine ⟨ret_int ?_, (by repeat (first | exact Below.refl _ _ | assumption | refine below_step ?_ (by assumption) | refine below_step ?_ (Joins.below_draws _ _ _) | (refine Below.alloc ?_ (by first | omega | (simp; done) | (simp; omega)) _) | (refine Below.setCell ?_ (by first | omega | (simp; done) | (simp; omega)) _) | refine Below.drew ?_))⟩; have k1 := K.out; have k2 := K2.out; have n0 := N0.out; go_light; simp only [actE, if_neg k1, if_pos k2, n0]; simp)
    · have s1 : (!a.source.toList.isEmpty) = true := by cases h : a.source.toList <;> simp_all
      have S0 : Hid (¬ a.source.size = 0) := fun h => hsr ((size_toList _).2 h)
      clear hsr
      have hbt : (decide (a.source.size = 0) && noneB a.op m) = false := by have := S0.out; simp [this, -ByteArray.size_eq_zero_iff]
      go_enter Try.func35, Try.ntmps35
      go_wp2_with fail
      refine (HB.out _).mono ?_
      rintro e w1 ⟨rfl, hb1⟩
      obtain ⟨hc_w1, hf_w1⟩ := bcell hb1; have hs_w1 := hb1.size; (try simp only [World.size_alloc, World.size_drew] at hs_w1); have z0_w1 : w.heap.size < w1.heap.size := (by omega)
      rw [hbt]
      go_wp2
      all_goals (go_ret; refine ⟨ret_int ?_, (by repeat (first | exact Below.refl _ _ | assumption | refine below_step ?_ (by assumption) | refine below_step ?_ (Joins.below_draws _ _ _) | (refine Below.alloc ?_ (by first | omega | (simp; done) | (simp; omega)) _) | (refine Below.setCell ?_ (by first | omega | (simp; done) | (simp; omega)) _) | refine Below.drew ?_))⟩; have k1 := K.out; have k2 := K2.out; have s0 := S0.out; go_light; simp only [actE, if_neg k1, if_pos k2]; rw [if_neg (fun h => s0 h.1)])
  by_cases hk : a.kind = 3
  · have K : Hid (¬ (a.kind = 1 ∨ a.kind = 4)) := by show ¬ (_ ∨ _); omega
    have K2 : Hid (a.kind = 2 ∨ a.kind = 3) := by show _ ∨ _; omega
    have KK : Hid (a.kind = 3) := hk
    have q1 : (a.kind == 1) = false := by simp [hk]
    have q2 : (a.kind == 2) = false := by simp [hk]
    have q3 : (a.kind == 3) = true := by simp [hk]
    have q4 : (a.kind == 4) = false := by simp [hk]
    clear hk
    by_cases hsr : a.source.toList = []
    · have s1 : (!a.source.toList.isEmpty) = false := by simp [hsr]
      have S0 : Hid (a.source.size = 0) := (size_toList _).1 hsr
      clear hsr
      cases hn : noneB a.op m with
      | true =>
        have N0 : Hid (noneB a.op vs.length = true) := by show _ = _; rw [← ML.out]; exact hn
        have hbt : (decide (a.source.size = 0) && true) = true := by have := S0.out; simp [this, -ByteArray.size_eq_zero_iff]
        go_enter Try.func35, Try.ntmps35
        go_wp2_with fail
        refine (HB.out _).mono ?_
        rintro e w1 ⟨rfl, hb1⟩
        obtain ⟨hc_w1, hf_w1⟩ := bcell hb1; have hs_w1 := hb1.size; (try simp only [World.size_alloc, World.size_drew] at hs_w1); have z0_w1 : w.heap.size < w1.heap.size := (by omega)
        rw [hn]
        rw [hbt]
        go_wp2
        all_goals (go_ret; refine ⟨ret_int ?_, (by repeat (first | exact Below.refl _ _ | assumption | refine below_step ?_ (by assumption) | refine below_step ?_ (Joins.below_draws _ _ _) | (refine Below.alloc ?_ (by first | omega | (simp; done) | (simp; omega)) _) | (refine Below.setCell ?_ (by first | omega | (simp; done) | (simp; omega)) _) | refine Below.drew ?_))⟩; have k1 := K.out; have k2 := K2.out; have kk := KK.out; have s0 := S0.out; have n0 := N0.out; go_light; simp only [actE, if_neg k1, if_pos k2]; (try simp only [Bool.not_eq_true', Bool.not_eq_false', decide_eq_true_eq, decide_eq_false_iff_not, beq_iff_eq, beq_eq_false_iff_ne, bne_iff_ne, ne_eq, Bool.or_eq_true, Bool.and_eq_true, Bool.or_eq_false_iff, Bool.and_eq_false_imp, bne_eq_false_iff_eq, List.isEmpty_iff, List.isEmpty_eq_false_iff, inB_true, inB_false] at *); (repeat' split) <;> first | omega | (simp_all; done) | (simp_all; omega))
      | false =>
        have N0 : Hid (noneB a.op vs.length = false) := by show _ = _; rw [← ML.out]; exact hn
        have hbt : (decide (a.source.size = 0) && false) = false := by simp
        go_enter Try.func35, Try.ntmps35
        go_wp2_with fail
        refine (HB.out _).mono ?_
        rintro e w1 ⟨rfl, hb1⟩
        obtain ⟨hc_w1, hf_w1⟩ := bcell hb1; have hs_w1 := hb1.size; (try simp only [World.size_alloc, World.size_drew] at hs_w1); have z0_w1 : w.heap.size < w1.heap.size := (by omega)
        rw [hn]
        rw [hbt]
        go_wp2
        all_goals (go_ret; refine ⟨ret_int ?_, (by repeat (first | exact Below.refl _ _ | assumption | refine below_step ?_ (by assumption) | refine below_step ?_ (Joins.below_draws _ _ _) | (refine Below.alloc ?_ (by first | omega | (simp; done) | (simp; omega)) _) | (refine Below.setCell ?_ (by first | omega | (simp; done) | (simp; omega)) _) | refine Below.drew ?_))⟩; have k1 := K.out; have k2 := K2.out; have n0 := N0.out; go_light; simp only [actE, if_neg k1, if_pos k2, n0]; simp)
    · have s1 : (!a.source.toList.isEmpty) = true := by cases h : a.source.toList <;> simp_all
      have S0 : Hid (¬ a.source.size = 0) := fun h => hsr ((size_toList _).2 h)
      clear hsr
      have hbt : (decide (a.source.size = 0) && noneB a.op m) = false := by have := S0.out; simp [this, -ByteArray.size_eq_zero_iff]
      go_enter Try.func35, Try.ntmps35
      go_wp2_with fail
      refine (HB.out _).mono ?_
      rintro e w1 ⟨rfl, hb1⟩
      obtain ⟨hc_w1, hf_w1⟩ := bcell hb1; have hs_w1 := hb1.size; (try simp only [World.size_alloc, World.size_drew] at hs_w1); have z0_w1 : w.heap.size < w1.heap.size := (by omega)
      rw [hbt]
      go_wp2
      all_goals (go_ret; refine ⟨ret_int ?_, (by repeat (first | exact Below.refl _ _ | assumption | refine below_step ?_ (by assumption) | refine below_step ?_ (Joins.below_draws _ _ _) | (refine Below.alloc ?_ (by first | omega | (simp; done) | (simp; omega)) _) | (refine Below.setCell ?_ (by first | omega | (simp; done) | (simp; omega)) _) | refine Below.drew ?_))⟩; have k1 := K.out; have k2 := K2.out; have s0 := S0.out; go_light; simp only [actE, if_neg k1, if_pos k2]; rw [if_neg (fun h => s0 h.1)])
  have K : Hid (¬ (a.kind = 1 ∨ a.kind = 4)) := by show ¬ (_ ∨ _); omega
  have K2 : Hid (¬ (a.kind = 2 ∨ a.kind = 3)) := by show ¬ (_ ∨ _); omega
  have q1 : (a.kind == 1) = false := by rw [beq_eq_false_iff_ne]; omega
  have q2 : (a.kind == 2) = false := by rw [beq_eq_false_iff_ne]; omega
  have q3 : (a.kind == 3) = false := by rw [beq_eq_false_iff_ne]; omega
  have q4 : (a.kind == 4) = false := by rw [beq_eq_false_iff_ne]; omega
  go_enter Try.func35, Try.ntmps35
  go_wp2
  go_ret
  exact ⟨ret_int (by simp only [actE, if_neg K.out, if_neg K2.out]), (by repeat (first | exact Below.refl _ _ | assumption | refine below_step ?_ (by assumption) | refine below_step ?_ (Joins.below_draws _ _ _) | (refine Below.alloc ?_ (by first | omega | (simp; done) | (simp; omega)) _) | (refine Below.setCell ?_ (by first | omega | (simp; done) | (simp; omega)) _) | refine Below.drew ?_))⟩

set_option maxHeartbeats 2000000 in
theorem actFault_any (a : Ac) (vo : Option Addr) (m vcap : Nat) (vs : List Val) (w : World) (ht : a.op.type.size ≤ maxLen) (hs : a.source.size ≤ maxLen) (hV : SlR w 3 valR vo m vcap vs) :
    Calls Try.prog 36 #[a.val (.slice vo m vcap)] w fun e' w' => e' = .returned (.int .i64 (actE a vs)) ∧ Below w.heap.size w w' := by
  have ML : Hid (m = vs.length) := hV.len
  have hvle := hV.le
  have hd : Below w.heap.size w (w.alloc (.cells #[.int .i64 a.kind, .int .i64 a.op.kind, .string a.op.type, .int .i64 a.op.start, .int .i64 a.op.stop, .slice vo m vcap, .int .i64 a.op.delta, .bool a.op.collect, .int .i64 a.pick, .string a.source] 55)) := Joins.below_alloc1 _ _
  have hV1 := hV.mono valR_stays hd
  have HC : Hid (∀ wx, wx = (w.alloc (.cells #[.int .i64 a.kind, .int .i64 a.op.kind, .string a.op.type, .int .i64 a.op.start, .int .i64 a.op.stop, .slice vo m vcap, .int .i64 a.op.delta, .bool a.op.collect, .int .i64 a.pick, .string a.source] 55)) →
    Calls Try.prog 34 #[.agg #[.int .i64 a.kind, .int .i64 a.op.kind, .string a.op.type, .int .i64 a.op.start, .int .i64 a.op.stop, .slice vo m vcap, .int .i64 a.op.delta, .bool a.op.collect, .int .i64 a.pick, .string a.source]] wx fun e' w' => e' = .returned (.int .i64 (noteE a vs)) ∧ Below wx.heap.size wx w') := fun wx h => by
      subst h; exact noteFault_any a vo m vcap vs _ ht hs hV1
  have HN : Hid (∀ wx : World, Calls Try.prog 49 #[.agg #[.int .i64 a.op.kind, .string a.op.type, .int .i64 a.op.start, .int .i64 a.op.stop, .slice vo m vcap, .int .i64 a.op.delta, .bool a.op.collect]] wx fun e' w' => e' = .returned (.bool (noneB a.op m)) ∧ Below wx.heap.size wx w') := fun wx => noOp_any a.op vo m vcap wx (by omega)
  unfold Ac.val
  by_cases hk : a.kind = 1
  · have K : Hid (a.kind = 1 ∨ a.kind = 4) := by show _ ∨ _; omega
    have q1 : (a.kind == 1) = true := by simp [hk]
    have q2 : (a.kind == 2) = false := by simp [hk]
    have q3 : (a.kind == 3) = false := by simp [hk]
    have q4 : (a.kind == 4) = false := by simp [hk]
    have qi : inB a.kind 1 4 = true := by rw [inB_true]; omega
    clear hk
    go_enter Try.func36, Try.ntmps36
    go_wp2_with fail
    refine (HC.out _ rfl).mono ?_
    rintro e w1 ⟨rfl, hb1⟩
    go_wp2
    go_ret
    exact ⟨ret_int (by simp only [actE, if_pos K.out]), (by repeat (first | exact Below.refl _ _ | assumption | refine below_step ?_ (by assumption) | refine below_step ?_ (Joins.below_draws _ _ _) | (refine Below.alloc ?_ (by first | omega | (simp; done) | (simp; omega)) _) | (refine Below.setCell ?_ (by first | omega | (simp; done) | (simp; omega)) _) | refine Below.drew ?_))⟩
  by_cases hk : a.kind = 4
  · have K : Hid (a.kind = 1 ∨ a.kind = 4) := by show _ ∨ _; omega
    have q1 : (a.kind == 1) = false := by simp [hk]
    have q2 : (a.kind == 2) = false := by simp [hk]
    have q3 : (a.kind == 3) = false := by simp [hk]
    have q4 : (a.kind == 4) = true := by simp [hk]
    have qi : inB a.kind 1 4 = true := by rw [inB_true]; omega
    clear hk
    go_enter Try.func36, Try.ntmps36
    go_wp2_with fail
    refine (HC.out _ rfl).mono ?_
    rintro e w1 ⟨rfl, hb1⟩
    go_wp2
    go_ret
    exact ⟨ret_int (by simp only [actE, if_pos K.out]), (by repeat (first | exact Below.refl _ _ | assumption | refine below_step ?_ (by assumption) | refine below_step ?_ (Joins.below_draws _ _ _) | (refine Below.alloc ?_ (by first | omega | (simp; done) | (simp; omega)) _) | (refine Below.setCell ?_ (by first | omega | (simp; done) | (simp; omega)) _) | refine Below.drew ?_))⟩
  by_cases hk : a.kind = 2
  · have K : Hid (¬ (a.kind = 1 ∨ a.kind = 4)) := by show ¬ (_ ∨ _); omega
    have K2 : Hid (a.kind = 2 ∨ a.kind = 3) := by show _ ∨ _; omega
    have KK : Hid (a.kind = 2) := hk
    have q1 : (a.kind == 1) = false := by simp [hk]
    have q2 : (a.kind == 2) = true := by simp [hk]
    have q3 : (a.kind == 3) = false := by simp [hk]
    have q4 : (a.kind == 4) = false := by simp [hk]
    have qi : inB a.kind 1 4 = true := by rw [inB_true]; omega
    clear hk
    by_cases hsr : a.source.toList = []
    · have s1 : (!a.source.toList.isEmpty) = false := by simp [hsr]
      have S0 : Hid (a.source.size = 0) := (size_toList _).1 hsr
      clear hsr
      cases hn : noneB a.op m with
      | true =>
        have N0 : Hid (noneB a.op vs.length = true) := by show _ = _; rw [← ML.out]; exact hn
        have hbt : (decide (a.source.size = 0) && true) = true := by have := S0.out; simp [this, -ByteArray.size_eq_zero_iff]
        go_enter Try.func36, Try.ntmps36
        go_wp2_with (go_at_call 39; refine (in_any _ _ _ _).mono ?_; rintro e w' ⟨rfl, rfl⟩)
        refine (HN.out _).mono ?_
        rintro e w1 ⟨rfl, hb1⟩
        obtain ⟨hc_w1, hf_w1⟩ := bcell hb1; have hs_w1 := hb1.size; (try simp only [World.size_alloc, World.size_drew] at hs_w1); have z0_w1 : w.heap.size < w1.heap.size := (by omega)
        go_wp2_with (go_at_call 39; refine (in_any _ _ _ _).mono ?_; rintro e w' ⟨rfl, rfl⟩)
        all_goals (go_ret; refine ⟨ret_int ?_, (by repeat (first | exact Below.refl _ _ | assumption | refine below_step ?_ (by assumption) | refine below_step ?_ (Joins.below_draws _ _ _) | (refine Below.alloc ?_ (by first | omega | (simp; done) | (simp; omega)) _) | (refine Below.setCell ?_ (by first | omega | (simp; done) | (simp; omega)) _) | refine Below.drew ?_))⟩; have k1 := K.out; have k2 := K2.out; have kk := KK.out; have s0 := S0.out; have n0 := N0.out; go_light; simp only [actE, if_neg k1, if_pos k2]; (try simp only [Bool.not_eq_true', Bool.not_eq_false', decide_eq_true_eq, decide_eq_false_iff_not, beq_iff_eq, beq_eq_false_iff_ne, bne_iff_ne, ne_eq, Bool.or_eq_true, Bool.and_eq_true, Bool.or_eq_false_iff, Bool.and_eq_false_imp, bne_eq_false_iff_eq, List.isEmpty_iff, List.isEmpty_eq_false_iff, inB_true, inB_false] at *); (repeat' split) <;> first | omega | (simp_all; done) | (simp_all; omega))
      | false =>
        have N0 : Hid (noneB a.op vs.length = false) := by show _ = _; rw [← ML.out]; exact hn
        have hbt : (decide (a.source.size = 0) && false) = false := by simp
        go_enter Try.func36, Try.ntmps36
        go_wp2_with (go_at_call 39; refine (in_any _ _ _ _).mono ?_; rintro e w' ⟨rfl, rfl⟩)
        refine (HN.out _).mono ?_
        rintro e w1 ⟨rfl, hb1⟩
        obtain ⟨hc_w1, hf_w1⟩ := bcell hb1; have hs_w1 := hb1.size; (try simp only [World.size_alloc, World.size_drew] at hs_w1); have z0_w1 : w.heap.size < w1.heap.size := (by omega)
        go_wp2_with (go_at_call 39; refine (in_any _ _ _ _).mono ?_; rintro e w' ⟨rfl, rfl⟩)
        all_goals (go_ret; refine ⟨ret_int ?_, (by repeat (first | exact Below.refl _ _ | assumption | refine below_step ?_ (by assumption) | refine below_step ?_ (Joins.below_draws _ _ _) | (refine Below.alloc ?_ (by first | omega | (simp; done) | (simp; omega)) _) | (refine Below.setCell ?_ (by first | omega | (simp; done) | (simp; omega)) _) | refine Below.drew ?_))⟩; have k1 := K.out; have k2 := K2.out; have n0 := N0.out; go_light; simp only [actE, if_neg k1, if_pos k2, n0]; simp)
    · have s1 : (!a.source.toList.isEmpty) = true := by cases h : a.source.toList <;> simp_all
      have S0 : Hid (¬ a.source.size = 0) := fun h => hsr ((size_toList _).2 h)
      clear hsr
      go_enter Try.func36, Try.ntmps36
      go_wp2_with (go_at_call 39; refine (in_any _ _ _ _).mono ?_; rintro e w' ⟨rfl, rfl⟩)
      all_goals (go_ret; refine ⟨ret_int ?_, (by repeat (first | exact Below.refl _ _ | assumption | refine below_step ?_ (by assumption) | refine below_step ?_ (Joins.below_draws _ _ _) | (refine Below.alloc ?_ (by first | omega | (simp; done) | (simp; omega)) _) | (refine Below.setCell ?_ (by first | omega | (simp; done) | (simp; omega)) _) | refine Below.drew ?_))⟩; have k1 := K.out; have k2 := K2.out; have s0 := S0.out; go_light; simp only [actE, if_neg k1, if_pos k2]; rw [if_neg (fun h => s0 h.1)])
  by_cases hk : a.kind = 3
  · have K : Hid (¬ (a.kind = 1 ∨ a.kind = 4)) := by show ¬ (_ ∨ _); omega
    have K2 : Hid (a.kind = 2 ∨ a.kind = 3) := by show _ ∨ _; omega
    have KK : Hid (a.kind = 3) := hk
    have q1 : (a.kind == 1) = false := by simp [hk]
    have q2 : (a.kind == 2) = false := by simp [hk]
    have q3 : (a.kind == 3) = true := by simp [hk]
    have q4 : (a.kind == 4) = false := by simp [hk]
    have qi : inB a.kind 1 4 = true := by rw [inB_true]; omega
    clear hk
    by_cases hsr : a.source.toList = []
    · have s1 : (!a.source.toList.isEmpty) = false := by simp [hsr]
      have S0 : Hid (a.source.size = 0) := (size_toList _).1 hsr
      clear hsr
      cases hn : noneB a.op m with
      | true =>
        have N0 : Hid (noneB a.op vs.length = true) := by show _ = _; rw [← ML.out]; exact hn
        have hbt : (decide (a.source.size = 0) && true) = true := by have := S0.out; simp [this, -ByteArray.size_eq_zero_iff]
        go_enter Try.func36, Try.ntmps36
        go_wp2_with (go_at_call 39; refine (in_any _ _ _ _).mono ?_; rintro e w' ⟨rfl, rfl⟩)
        refine (HN.out _).mono ?_
        rintro e w1 ⟨rfl, hb1⟩
        obtain ⟨hc_w1, hf_w1⟩ := bcell hb1; have hs_w1 := hb1.size; (try simp only [World.size_alloc, World.size_drew] at hs_w1); have z0_w1 : w.heap.size < w1.heap.size := (by omega)
        go_wp2_with (go_at_call 39; refine (in_any _ _ _ _).mono ?_; rintro e w' ⟨rfl, rfl⟩)
        all_goals (go_ret; refine ⟨ret_int ?_, (by repeat (first | exact Below.refl _ _ | assumption | refine below_step ?_ (by assumption) | refine below_step ?_ (Joins.below_draws _ _ _) | (refine Below.alloc ?_ (by first | omega | (simp; done) | (simp; omega)) _) | (refine Below.setCell ?_ (by first | omega | (simp; done) | (simp; omega)) _) | refine Below.drew ?_))⟩; have k1 := K.out; have k2 := K2.out; have kk := KK.out; have s0 := S0.out; have n0 := N0.out; go_light; simp only [actE, if_neg k1, if_pos k2]; (try simp only [Bool.not_eq_true', Bool.not_eq_false', decide_eq_true_eq, decide_eq_false_iff_not, beq_iff_eq, beq_eq_false_iff_ne, bne_iff_ne, ne_eq, Bool.or_eq_true, Bool.and_eq_true, Bool.or_eq_false_iff, Bool.and_eq_false_imp, bne_eq_false_iff_eq, List.isEmpty_iff, List.isEmpty_eq_false_iff, inB_true, inB_false] at *); (repeat' split) <;> first | omega | (simp_all; done) | (simp_all; omega))
      | false =>
        have N0 : Hid (noneB a.op vs.length = false) := by show _ = _; rw [← ML.out]; exact hn
        have hbt : (decide (a.source.size = 0) && false) = false := by simp
        go_enter Try.func36, Try.ntmps36
        go_wp2_with (go_at_call 39; refine (in_any _ _ _ _).mono ?_; rintro e w' ⟨rfl, rfl⟩)
        refine (HN.out _).mono ?_
        rintro e w1 ⟨rfl, hb1⟩
        obtain ⟨hc_w1, hf_w1⟩ := bcell hb1; have hs_w1 := hb1.size; (try simp only [World.size_alloc, World.size_drew] at hs_w1); have z0_w1 : w.heap.size < w1.heap.size := (by omega)
        go_wp2_with (go_at_call 39; refine (in_any _ _ _ _).mono ?_; rintro e w' ⟨rfl, rfl⟩)
        all_goals (go_ret; refine ⟨ret_int ?_, (by repeat (first | exact Below.refl _ _ | assumption | refine below_step ?_ (by assumption) | refine below_step ?_ (Joins.below_draws _ _ _) | (refine Below.alloc ?_ (by first | omega | (simp; done) | (simp; omega)) _) | (refine Below.setCell ?_ (by first | omega | (simp; done) | (simp; omega)) _) | refine Below.drew ?_))⟩; have k1 := K.out; have k2 := K2.out; have n0 := N0.out; go_light; simp only [actE, if_neg k1, if_pos k2, n0]; simp)
    · have s1 : (!a.source.toList.isEmpty) = true := by cases h : a.source.toList <;> simp_all
      have S0 : Hid (¬ a.source.size = 0) := fun h => hsr ((size_toList _).2 h)
      clear hsr
      go_enter Try.func36, Try.ntmps36
      go_wp2_with (go_at_call 39; refine (in_any _ _ _ _).mono ?_; rintro e w' ⟨rfl, rfl⟩)
      all_goals (go_ret; refine ⟨ret_int ?_, (by repeat (first | exact Below.refl _ _ | assumption | refine below_step ?_ (by assumption) | refine below_step ?_ (Joins.below_draws _ _ _) | (refine Below.alloc ?_ (by first | omega | (simp; done) | (simp; omega)) _) | (refine Below.setCell ?_ (by first | omega | (simp; done) | (simp; omega)) _) | refine Below.drew ?_))⟩; have k1 := K.out; have k2 := K2.out; have s0 := S0.out; go_light; simp only [actE, if_neg k1, if_pos k2]; rw [if_neg (fun h => s0 h.1)])
  have K : Hid (¬ (a.kind = 1 ∨ a.kind = 4)) := by show ¬ (_ ∨ _); omega
  have K2 : Hid (¬ (a.kind = 2 ∨ a.kind = 3)) := by show ¬ (_ ∨ _); omega
  have q1 : (a.kind == 1) = false := by rw [beq_eq_false_iff_ne]; omega
  have q2 : (a.kind == 2) = false := by rw [beq_eq_false_iff_ne]; omega
  have q3 : (a.kind == 3) = false := by rw [beq_eq_false_iff_ne]; omega
  have q4 : (a.kind == 4) = false := by rw [beq_eq_false_iff_ne]; omega
  have qi : inB a.kind 1 4 = false := by rw [inB_false]; omega
  go_enter Try.func36, Try.ntmps36
  go_wp2_with (go_at_call 39; refine (in_any _ _ _ _).mono ?_; rintro e w' ⟨rfl, rfl⟩)
  go_ret
  exact ⟨ret_int (by simp only [actE, if_neg K.out, if_neg K2.out]), (by repeat (first | exact Below.refl _ _ | assumption | refine below_step ?_ (by assumption) | refine below_step ?_ (Joins.below_draws _ _ _) | (refine Below.alloc ?_ (by first | omega | (simp; done) | (simp; omega)) _) | (refine Below.setCell ?_ (by first | omega | (simp; done) | (simp; omega)) _) | refine Below.drew ?_))⟩
end Go.Proofs.Ytjbiimpglmppiaa
