/-
  The laws of checks of operations and acts, walked.
-/
import Derived.Test.YtjbiimpglmppiaaLinesW
namespace Go.Proofs.Ytjbiimpglmppiaa
open Go.RowKit
set_option linter.unusedVariables false
set_option linter.unusedSimpArgs false

set_option maxHeartbeats 1000000 in
theorem bares_walk (o : Opn) (vo : Option Addr) (m vcap : Nat) (vs : List Val) (w : World) (ht : o.type.size ≤ maxLen) (hV : SlR w 3 valR vo m vcap vs) :
    Calls Try.prog 4 #[o.val (.slice vo m vcap)] w fun e w' => e = .returned (.bool true) ∧ Below w.heap.size w w' := by
  have hvle := hV.le
  have hd : Below w.heap.size w (w.alloc (.cells #[.int .i64 o.kind, .string o.type, .int .i64 o.start, .int .i64 o.stop, .slice vo m vcap, .int .i64 o.delta, .bool o.collect] 29)) := Joins.below_alloc1 _ _
  have hV1 := hV.mono valR_stays hd
  have C1 : Hid (∀ wx : World, SlR wx 3 valR vo m vcap vs → Calls Try.prog 17 #[.agg #[.int .i64 o.kind, .string o.type, .int .i64 o.start, .int .i64 o.stop, .slice vo m vcap, .int .i64 o.delta, .bool o.collect]] wx fun e' w' => e' = .returned (.int .i64 (bareE o m)) ∧ Below wx.heap.size wx w') := fun wx h => bare_any o vo m vcap wx ht (by have := h.le; omega)
  have C2 : Hid (∀ wx : World, SlR wx 3 valR vo m vcap vs → Calls Try.prog 18 #[.agg #[.int .i64 o.kind, .string o.type, .int .i64 o.start, .int .i64 o.stop, .slice vo m vcap, .int .i64 o.delta, .bool o.collect]] wx fun e' w' => e' = .returned (.int .i64 (bareE o m)) ∧ Below wx.heap.size wx w') := fun wx h => opFault_any o vo m vcap wx ht (by have := h.le; omega)
  unfold Opn.val
  go_enter Try.func4, Try.ntmps4
  go_wp2_with fail
  refine (C1.out _ hV1).mono ?_
  rintro e w1 ⟨rfl, hb1⟩
  obtain ⟨hc_w1, hf_w1⟩ := bcell hb1; have hs_w1 := hb1.size; (try simp only [World.size_alloc, World.size_drew] at hs_w1); have z0_w1 : w.heap.size < w1.heap.size := (by omega)
  have hV2 := hV1.mono valR_stays hb1
  go_wp2_with fail
  refine (C2.out _ hV2).mono ?_
  rintro e w2 ⟨rfl, hb2⟩
  go_wp2
  go_ret
  exact ⟨rfl, (by repeat (first | exact Below.refl _ _ | assumption | refine below_step ?_ (by assumption) | refine below_step ?_ (Joins.below_draws _ _ _) | (refine Below.alloc ?_ (by first | omega | (simp; done) | (simp; omega)) _) | (refine Below.setCell ?_ (by first | omega | (simp; done) | (simp; omega)) _) | refine Below.drew ?_))⟩

set_option maxHeartbeats 1000000 in
theorem wires_walk (o : Opn) (vo : Option Addr) (m vcap : Nat) (vs : List Val) (w : World) (ht : o.type.size ≤ maxLen) (hV : SlR w 3 valR vo m vcap vs) :
    Calls Try.prog 10 #[o.val (.slice vo m vcap)] w fun e w' => e = .returned (.bool true) ∧ Below w.heap.size w w' := by
  have hvle := hV.le
  have hd : Below w.heap.size w (w.alloc (.cells #[.int .i64 o.kind, .string o.type, .int .i64 o.start, .int .i64 o.stop, .slice vo m vcap, .int .i64 o.delta, .bool o.collect] 29)) := Joins.below_alloc1 _ _
  have hV1 := hV.mono valR_stays hd
  have C1 : Hid (∀ wx : World, SlR wx 3 valR vo m vcap vs → Calls Try.prog 29 #[.agg #[.int .i64 o.kind, .string o.type, .int .i64 o.start, .int .i64 o.stop, .slice vo m vcap, .int .i64 o.delta, .bool o.collect]] wx fun e' w' => e' = .returned (.int .i64 (wireE o vs)) ∧ Below wx.heap.size wx w') := fun wx h => wireCheck_any o vo m vcap vs wx ht h
  have C2 : Hid (∀ wx : World, SlR wx 3 valR vo m vcap vs → Calls Try.prog 30 #[.agg #[.int .i64 o.kind, .string o.type, .int .i64 o.start, .int .i64 o.stop, .slice vo m vcap, .int .i64 o.delta, .bool o.collect]] wx fun e' w' => e' = .returned (.int .i64 (wireE o vs)) ∧ Below wx.heap.size wx w') := fun wx h => wireFault_any o vo m vcap vs wx ht h
  unfold Opn.val
  go_enter Try.func10, Try.ntmps10
  go_wp2_with fail
  refine (C1.out _ hV1).mono ?_
  rintro e w1 ⟨rfl, hb1⟩
  obtain ⟨hc_w1, hf_w1⟩ := bcell hb1; have hs_w1 := hb1.size; (try simp only [World.size_alloc, World.size_drew] at hs_w1); have z0_w1 : w.heap.size < w1.heap.size := (by omega)
  have hV2 := hV1.mono valR_stays hb1
  go_wp2_with fail
  refine (C2.out _ hV2).mono ?_
  rintro e w2 ⟨rfl, hb2⟩
  go_wp2
  go_ret
  exact ⟨rfl, (by repeat (first | exact Below.refl _ _ | assumption | refine below_step ?_ (by assumption) | refine below_step ?_ (Joins.below_draws _ _ _) | (refine Below.alloc ?_ (by first | omega | (simp; done) | (simp; omega)) _) | (refine Below.setCell ?_ (by first | omega | (simp; done) | (simp; omega)) _) | refine Below.drew ?_))⟩

set_option maxHeartbeats 1000000 in
theorem notes_walk (o : Ac) (vo : Option Addr) (m vcap : Nat) (vs : List Val) (w : World) (ht : o.op.type.size ≤ maxLen) (hs : o.source.size ≤ maxLen) (hV : SlR w 3 valR vo m vcap vs) :
    Calls Try.prog 12 #[o.val (.slice vo m vcap)] w fun e w' => e = .returned (.bool true) ∧ Below w.heap.size w w' := by
  have hvle := hV.le
  have hd : Below w.heap.size w (w.alloc (.cells #[.int .i64 o.kind, .int .i64 o.op.kind, .string o.op.type, .int .i64 o.op.start, .int .i64 o.op.stop, .slice vo m vcap, .int .i64 o.op.delta, .bool o.op.collect, .int .i64 o.pick, .string o.source] 55)) := Joins.below_alloc1 _ _
  have hV1 := hV.mono valR_stays hd
  have C1 : Hid (∀ wx : World, SlR wx 3 valR vo m vcap vs → Calls Try.prog 33 #[.agg #[.int .i64 o.kind, .int .i64 o.op.kind, .string o.op.type, .int .i64 o.op.start, .int .i64 o.op.stop, .slice vo m vcap, .int .i64 o.op.delta, .bool o.op.collect, .int .i64 o.pick, .string o.source]] wx fun e' w' => e' = .returned (.int .i64 (noteE o vs)) ∧ Below wx.heap.size wx w') := fun wx h => note_any o vo m vcap vs wx ht hs h
  have C2 : Hid (∀ wx : World, SlR wx 3 valR vo m vcap vs → Calls Try.prog 34 #[.agg #[.int .i64 o.kind, .int .i64 o.op.kind, .string o.op.type, .int .i64 o.op.start, .int .i64 o.op.stop, .slice vo m vcap, .int .i64 o.op.delta, .bool o.op.collect, .int .i64 o.pick, .string o.source]] wx fun e' w' => e' = .returned (.int .i64 (noteE o vs)) ∧ Below wx.heap.size wx w') := fun wx h => noteFault_any o vo m vcap vs wx ht hs h
  unfold Ac.val
  go_enter Try.func12, Try.ntmps12
  go_wp2_with fail
  refine (C1.out _ hV1).mono ?_
  rintro e w1 ⟨rfl, hb1⟩
  obtain ⟨hc_w1, hf_w1⟩ := bcell hb1; have hs_w1 := hb1.size; (try simp only [World.size_alloc, World.size_drew] at hs_w1); have z0_w1 : w.heap.size < w1.heap.size := (by omega)
  have hV2 := hV1.mono valR_stays hb1
  go_wp2_with fail
  refine (C2.out _ hV2).mono ?_
  rintro e w2 ⟨rfl, hb2⟩
  go_wp2
  go_ret
  exact ⟨rfl, (by repeat (first | exact Below.refl _ _ | assumption | refine below_step ?_ (by assumption) | refine below_step ?_ (Joins.below_draws _ _ _) | (refine Below.alloc ?_ (by first | omega | (simp; done) | (simp; omega)) _) | (refine Below.setCell ?_ (by first | omega | (simp; done) | (simp; omega)) _) | refine Below.drew ?_))⟩

set_option maxHeartbeats 1000000 in
theorem lines_walk (o : Ac) (vo : Option Addr) (m vcap : Nat) (vs : List Val) (w : World) (ht : o.op.type.size ≤ maxLen) (hs : o.source.size ≤ maxLen) (hV : SlR w 3 valR vo m vcap vs) :
    Calls Try.prog 13 #[o.val (.slice vo m vcap)] w fun e w' => e = .returned (.bool true) ∧ Below w.heap.size w w' := by
  have hvle := hV.le
  have hd : Below w.heap.size w (w.alloc (.cells #[.int .i64 o.kind, .int .i64 o.op.kind, .string o.op.type, .int .i64 o.op.start, .int .i64 o.op.stop, .slice vo m vcap, .int .i64 o.op.delta, .bool o.op.collect, .int .i64 o.pick, .string o.source] 55)) := Joins.below_alloc1 _ _
  have hV1 := hV.mono valR_stays hd
  have C1 : Hid (∀ wx : World, SlR wx 3 valR vo m vcap vs → Calls Try.prog 35 #[.agg #[.int .i64 o.kind, .int .i64 o.op.kind, .string o.op.type, .int .i64 o.op.start, .int .i64 o.op.stop, .slice vo m vcap, .int .i64 o.op.delta, .bool o.op.collect, .int .i64 o.pick, .string o.source]] wx fun e' w' => e' = .returned (.int .i64 (actE o vs)) ∧ Below wx.heap.size wx w') := fun wx h => act_any o vo m vcap vs wx ht hs h
  have C2 : Hid (∀ wx : World, SlR wx 3 valR vo m vcap vs → Calls Try.prog 36 #[.agg #[.int .i64 o.kind, .int .i64 o.op.kind, .string o.op.type, .int .i64 o.op.start, .int .i64 o.op.stop, .slice vo m vcap, .int .i64 o.op.delta, .bool o.op.collect, .int .i64 o.pick, .string o.source]] wx fun e' w' => e' = .returned (.int .i64 (actE o vs)) ∧ Below wx.heap.size wx w') := fun wx h => actFault_any o vo m vcap vs wx ht hs h
  unfold Ac.val
  go_enter Try.func13, Try.ntmps13
  go_wp2_with fail
  refine (C1.out _ hV1).mono ?_
  rintro e w1 ⟨rfl, hb1⟩
  obtain ⟨hc_w1, hf_w1⟩ := bcell hb1; have hs_w1 := hb1.size; (try simp only [World.size_alloc, World.size_drew] at hs_w1); have z0_w1 : w.heap.size < w1.heap.size := (by omega)
  have hV2 := hV1.mono valR_stays hb1
  go_wp2_with fail
  refine (C2.out _ hV2).mono ?_
  rintro e w2 ⟨rfl, hb2⟩
  go_wp2
  go_ret
  exact ⟨rfl, (by repeat (first | exact Below.refl _ _ | assumption | refine below_step ?_ (by assumption) | refine below_step ?_ (Joins.below_draws _ _ _) | (refine Below.alloc ?_ (by first | omega | (simp; done) | (simp; omega)) _) | (refine Below.setCell ?_ (by first | omega | (simp; done) | (simp; omega)) _) | refine Below.drew ?_))⟩
end Go.Proofs.Ytjbiimpglmppiaa
