/-
  The law TapeAppends, walked.
-/
import Derived.Test.YtciomaeieggbiaaAppY
namespace Go.Proofs.Ytciomaeieggbiaa
open Go.RowKit
set_option linter.unusedVariables false
set_option linter.unusedSimpArgs false

theorem append_any (F : Nat → Prop) (ao : Option Addr) (n cap : Nat) (s : Int) (xs : List UInt8) (a : Ac) (vo : Option Addr) (m vcap : Nat) (vs : List Val) (w : World) (hX : SlF F w 1 byteF ao n cap xs) (ht : a.op.type.size ≤ maxLen) (hs : a.source.size ≤ maxLen) (hV : SlR w 3 valR vo m vcap vs) :
    Calls Try.prog 14 #[.agg #[.slice ao n cap, .int .i64 s], a.val (.slice vo m vcap)] w (TapePost (appE n s a vs) (appS n s a vs) (appD n s a vs xs) w) := by
  by_cases h : mayB n s = true
  · by_cases hn : noteE a vs = 0
    · by_cases hf : 200000 < n + 2 + (noteL a vs).length
      · have e1 : appE n s a vs = 8 := by unfold appE; rw [if_pos h, if_pos hn, if_pos hf]
        unfold appS appD; rw [e1]
        exact (append_full F ao n cap s xs a vo m vcap vs w h hX ht hs hV hn hf).mono fun e w' h => tapePost_bad 8 w w' e h
      · have e1 : appE n s a vs = 0 := by unfold appE; rw [if_pos h, if_pos hn, if_neg hf]
        unfold appS appD; rw [e1]
        exact append_good F ao n cap s xs a vo m vcap vs w h hX ht hs hV hn hf
    · have e1 : appE n s a vs = noteE a vs := by unfold appE; rw [if_pos h, if_neg hn]
      unfold appS appD; rw [e1, if_neg hn, if_neg hn]
      exact (append_err F ao n cap s xs a vo m vcap vs w h hX ht hs hV hn).mono fun e w' h => tapePost_bad _ w w' e h
  · have h' : mayB n s = false := by simpa using h
    have e1 : appE n s a vs = 9 := by unfold appE; rw [if_neg h]
    unfold appS appD; rw [e1]
    exact (append_bad ao n cap s a vo m vcap w h').mono fun e w' h => tapePost_bad 9 w w' e h
theorem appended_any (F : Nat → Prop) (ao : Option Addr) (n cap : Nat) (s : Int) (xs : List UInt8) (a : Ac) (vo : Option Addr) (m vcap : Nat) (vs : List Val) (w : World) (hX : SlF F w 1 byteF ao n cap xs) (ht : a.op.type.size ≤ maxLen) (hs : a.source.size ≤ maxLen) (hV : SlR w 3 valR vo m vcap vs) :
    Calls Try.prog 15 #[.agg #[.slice ao n cap, .int .i64 s], a.val (.slice vo m vcap)] w (TapePost (appE n s a vs) (appS n s a vs) (appD n s a vs xs) w) := by
  by_cases h : mayB n s = true
  · by_cases hn : noteE a vs = 0
    · by_cases hf : 200000 < n + 2 + (noteL a vs).length
      · have e1 : appE n s a vs = 8 := by unfold appE; rw [if_pos h, if_pos hn, if_pos hf]
        unfold appS appD; rw [e1]
        exact (appended_full ao n cap s a vo m vcap vs w h ht hs hV hn hf).mono fun e w' h => tapePost_bad 8 w w' e h
      · have e1 : appE n s a vs = 0 := by unfold appE; rw [if_pos h, if_pos hn, if_neg hf]
        unfold appS appD; rw [e1]
        exact appended_good F ao n cap s xs a vo m vcap vs w h hX ht hs hV hn hf
    · have e1 : appE n s a vs = noteE a vs := by unfold appE; rw [if_pos h, if_neg hn]
      unfold appS appD; rw [e1, if_neg hn, if_neg hn]
      exact (appended_err ao n cap s a vo m vcap vs w h ht hs hV hn).mono fun e w' h => tapePost_bad _ w w' e h
  · have h' : mayB n s = false := by simpa using h
    have e1 : appE n s a vs = 9 := by unfold appE; rw [if_neg h]
    unfold appS appD; rw [e1]
    exact (appended_bad ao n cap s a vo m vcap w h').mono fun e w' h => tapePost_bad 9 w w' e h

set_option maxHeartbeats 4000000 in
set_option maxRecDepth 100000 in
theorem tapeAppends_walk (F : Nat → Prop) (ao : Option Addr) (n cap : Nat) (s : Int) (xs : List UInt8) (a : Ac) (vo : Option Addr) (m vcap : Nat) (vs : List Val) (w : World) (hX : SlF F w 1 byteF ao n cap xs) (hn : n ≤ 140737488355328) (ht : a.op.type.size ≤ maxLen) (hs : a.source.size ≤ maxLen) (hV : SlR w 3 valR vo m vcap vs) :
    Calls Try.prog 5 #[.agg #[.slice ao n cap, .int .i64 s], a.val (.slice vo m vcap)] w fun e w' => e = .returned (.bool true) ∧ Below w.heap.size w w' := by
  have H1 : Hid (∀ wx (G : Nat → Prop) (bo : Option Addr) (bcap : Nat), Below w.heap.size w wx → SlF G wx 1 byteF bo n bcap xs → Calls Try.prog 14 #[.agg #[.slice bo n bcap, .int .i64 s], a.val (.slice vo m vcap)] wx (TapePost (appE n s a vs) (appS n s a vs) (appD n s a vs xs) wx)) := fun wx G bo bcap hb hS => append_any G bo n bcap s xs a vo m vcap vs wx hS ht hs (hV.mono valR_stays hb)
  have H2 : Hid (∀ wx, Below w.heap.size w wx → Calls Try.prog 15 #[.agg #[.slice ao n cap, .int .i64 s], a.val (.slice vo m vcap)] wx (TapePost (appE n s a vs) (appS n s a vs) (appD n s a vs xs) wx)) := fun wx hb => appended_any F ao n cap s xs a vo m vcap vs wx (hX.below byteF_firm hb) ht hs (hV.mono valR_stays hb)
  unfold TapePost at H1 H2
  generalize appE n s a vs = code at H1 H2
  generalize appS n s a vs = sy at H1 H2
  generalize appD n s a vs xs = D at H1 H2
  obtain ⟨ak, ⟨ok, ot, o1, o2, od, oc⟩, p, src⟩ := a
  unfold Ac.val at H1 H2 ⊢
  simp only at H1 H2 ⊢
  go_enter Try.func5, Try.ntmps5
  go_wp2_with fail
  refine (tapes_any F ao n cap s xs _ (hX.below byteF_firm (by repeat (first | exact Below.refl _ _ | assumption | refine below_step ?_ (by assumption) | refine below_step ?_ (Joins.below_draws _ _ _) | (refine Below.alloc ?_ (by first | omega | (simp; done) | (simp; omega)) _) | (refine Below.setCell ?_ (by first | omega | (simp; done) | (simp; omega)) _) | refine Below.drew ?_))) hn).mono ?_
  rintro e w1 ⟨ao1, cap1, rfl, hb1, hS1⟩
  obtain ⟨hc_w1, hf_w1⟩ := bcell hb1; have hs_w1 := hb1.size; (try simp only [World.size_alloc, World.size_drew, World.size_setCell] at hs_w1); (try simp only [World.size_drew, World.cell?_drew, World.frozen?_drew] at hc_w1 hf_w1); have z0_w1 : w.heap.size < w1.heap.size := (by omega); have z1_w1 : w.heap.size + 1 < w1.heap.size := (by omega)
  go_wp2_with fail
  refine (H1.out _ _ ao1 cap1 (by repeat (first | exact Below.refl _ _ | assumption | refine below_step ?_ (by assumption) | refine below_step ?_ (Joins.below_draws _ _ _) | (refine Below.alloc ?_ (by first | omega | (simp; done) | (simp; omega)) _) | (refine Below.setCell ?_ (by first | omega | (simp; done) | (simp; omega)) _) | refine Below.drew ?_)) (hS1.below byteF_firm (by repeat (first | exact Below.refl _ _ | assumption | refine below_step ?_ (by assumption) | refine below_step ?_ (Joins.below_draws _ _ _) | (refine Below.alloc ?_ (by first | omega | (simp; done) | (simp; omega)) _) | (refine Below.setCell ?_ (by first | omega | (simp; done) | (simp; omega)) _) | refine Below.drew ?_)))).mono ?_
  rintro e w2 ⟨ao2, cap2, rfl, hb2, hS2⟩
  obtain ⟨hc_w2, hf_w2⟩ := bcell hb2; have hs_w2 := hb2.size; (try simp only [World.size_alloc, World.size_drew, World.size_setCell] at hs_w2); (try simp only [World.size_drew, World.cell?_drew, World.frozen?_drew] at hc_w2 hf_w2)
  have y2 : w.heap.size < w2.heap.size := by omega
  have y2' : w1.heap.size < w2.heap.size := by omega
  have y2'' : w.heap.size + 1 < w2.heap.size := by omega
  go_wp2_with fail
  refine (H2.out _ (by repeat (first | exact Below.refl _ _ | assumption | refine below_step ?_ (by assumption) | refine below_step ?_ (Joins.below_draws _ _ _) | (refine Below.alloc ?_ (by first | omega | (simp; done) | (simp; omega)) _) | (refine Below.setCell ?_ (by first | omega | (simp; done) | (simp; omega)) _) | refine Below.drew ?_))).mono ?_
  rintro e w3 ⟨ao3, cap3, rfl, hb3, hS3⟩
  obtain ⟨hc_w3, hf_w3⟩ := bcell hb3; have hs_w3 := hb3.size; (try simp only [World.size_alloc, World.size_drew, World.size_setCell] at hs_w3); (try simp only [World.size_drew, World.cell?_drew, World.frozen?_drew] at hc_w3 hf_w3)
  have y3 : w.heap.size < w3.heap.size := by omega
  have y3' : w1.heap.size < w3.heap.size := by omega
  have y3'' : w2.heap.size < w3.heap.size := by omega
  go_wp2_with fail
  refine (sameTape_yes _ _ ao2 _ cap2 _ _ ao3 _ cap3 _ (hS2.below byteF_firm (by repeat (first | exact Below.refl _ _ | assumption | refine below_step ?_ (by assumption) | refine below_step ?_ (Joins.below_draws _ _ _) | (refine Below.alloc ?_ (by first | omega | (simp; done) | (simp; omega)) _) | (refine Below.setCell ?_ (by first | omega | (simp; done) | (simp; omega)) _) | refine Below.drew ?_))) (hS3.below byteF_firm (by repeat (first | exact Below.refl _ _ | assumption | refine below_step ?_ (by assumption) | refine below_step ?_ (Joins.below_draws _ _ _) | (refine Below.alloc ?_ (by first | omega | (simp; done) | (simp; omega)) _) | (refine Below.setCell ?_ (by first | omega | (simp; done) | (simp; omega)) _) | refine Below.drew ?_)))).mono ?_
  rintro e w4 ⟨rfl, hb4⟩
  obtain ⟨hc_w4, hf_w4⟩ := bcell hb4; have hs_w4 := hb4.size; (try simp only [World.size_alloc, World.size_drew, World.size_setCell] at hs_w4); (try simp only [World.size_drew, World.cell?_drew, World.frozen?_drew] at hc_w4 hf_w4)
  have y4 : w.heap.size < w4.heap.size := by omega
  have y4' : w1.heap.size < w4.heap.size := by omega
  go_wp2_with fail
  refine (sameTape_yes _ F ao1 n cap1 _ _ ao n cap _ (hS1.below byteF_firm (by repeat (first | exact Below.refl _ _ | assumption | refine below_step ?_ (by assumption) | refine below_step ?_ (Joins.below_draws _ _ _) | (refine Below.alloc ?_ (by first | omega | (simp; done) | (simp; omega)) _) | (refine Below.setCell ?_ (by first | omega | (simp; done) | (simp; omega)) _) | refine Below.drew ?_))) (hX.below byteF_firm (by repeat (first | exact Below.refl _ _ | assumption | refine below_step ?_ (by assumption) | refine below_step ?_ (Joins.below_draws _ _ _) | (refine Below.alloc ?_ (by first | omega | (simp; done) | (simp; omega)) _) | (refine Below.setCell ?_ (by first | omega | (simp; done) | (simp; omega)) _) | refine Below.drew ?_)))).mono ?_
  rintro e w5 ⟨rfl, hb5⟩
  go_wp2
  go_ret
  exact ⟨rfl, (by repeat (first | exact Below.refl _ _ | assumption | refine below_step ?_ (by assumption) | refine below_step ?_ (Joins.below_draws _ _ _) | (refine Below.alloc ?_ (by first | omega | (simp; done) | (simp; omega)) _) | (refine Below.setCell ?_ (by first | omega | (simp; done) | (simp; omega)) _) | refine Below.drew ?_))⟩
end Go.Proofs.Ytciomaeieggbiaa
