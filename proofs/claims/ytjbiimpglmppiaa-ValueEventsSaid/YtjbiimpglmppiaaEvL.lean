/-
  The law of events, walked.
-/
import Derived.Test.YtjbiimpglmppiaaEvW
namespace Go.Proofs.Ytjbiimpglmppiaa
open Go.RowKit
set_option linter.unusedVariables false
set_option linter.unusedSimpArgs false

set_option maxHeartbeats 1000000 in
theorem events_walk (to : Option Addr) (tn tcap : Nat) (ts : List Typ) (x : Evt) (vo : Option Addr) (m vcap : Nat) (vs : List Val) (w : World) (hT : SlR w 2 typR to tn tcap ts) (hV : SlR w 3 valR vo m vcap vs) :
    Calls Try.prog 11 #[.slice to tn tcap, x.val (.slice vo m vcap)] w fun e' w' => e' = .returned (.bool true) ∧ Below w.heap.size w w' := by
  have hd : Below w.heap.size w (w.alloc (.cells #[.int .i64 x.number, .int .i64 x.type, .int .i64 x.start, .int .i64 x.stop, .slice vo m vcap] 51)) := Joins.below_alloc1 _ _
  have hV1 := hV.mono valR_stays hd
  have hT1 := hT.mono typR_stays hd
  have C1 : Hid (∀ wx : World, SlR wx 2 typR to tn tcap ts → SlR wx 3 valR vo m vcap vs → Calls Try.prog 31 #[.slice to tn tcap, .agg #[.int .i64 x.number, .int .i64 x.type, .int .i64 x.start, .int .i64 x.stop, .slice vo m vcap]] wx fun e' w' => e' = .returned (.int .i64 (eventE ts x vs)) ∧ Below wx.heap.size wx w') := fun wx h h' => event_any to tn tcap ts x vo m vcap vs wx h h'
  have C2 : Hid (∀ wx : World, SlR wx 2 typR to tn tcap ts → SlR wx 3 valR vo m vcap vs → Calls Try.prog 32 #[.slice to tn tcap, .agg #[.int .i64 x.number, .int .i64 x.type, .int .i64 x.start, .int .i64 x.stop, .slice vo m vcap]] wx fun e' w' => e' = .returned (.int .i64 (eventE ts x vs)) ∧ Below wx.heap.size wx w') := fun wx h h' => eventFault_any to tn tcap ts x vo m vcap vs wx h h'
  unfold Evt.val
  go_enter Try.func11, Try.ntmps11
  go_wp2_with fail
  refine (C1.out _ hT1 hV1).mono ?_
  rintro e w1 ⟨rfl, hb1⟩
  obtain ⟨hc_w1, hf_w1⟩ := bcell hb1; have hs_w1 := hb1.size; (try simp only [World.size_alloc, World.size_drew] at hs_w1); have z0_w1 : w.heap.size < w1.heap.size := (by omega)
  have hV2 := hV1.mono valR_stays hb1
  have hT2 := hT1.mono typR_stays hb1
  go_wp2_with fail
  refine (C2.out _ hT2 hV2).mono ?_
  rintro e w2 ⟨rfl, hb2⟩
  go_wp2
  go_ret
  exact ⟨rfl, (by repeat (first | exact Below.refl _ _ | assumption | refine below_step ?_ (by assumption) | refine below_step ?_ (Joins.below_draws _ _ _) | (refine Below.alloc ?_ (by first | omega | (simp; done) | (simp; omega)) _) | (refine Below.setCell ?_ (by first | omega | (simp; done) | (simp; omega)) _) | refine Below.drew ?_))⟩
end Go.Proofs.Ytjbiimpglmppiaa
