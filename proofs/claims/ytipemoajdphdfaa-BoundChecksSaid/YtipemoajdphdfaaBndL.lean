/-
  The laws of package bound, walked: its check.
-/
import Derived.Test.YtipemoajdphdfaaBndC
namespace Go.Proofs.Ytipemoajdphdfaa
open Go.RowKit
set_option linter.unusedVariables false
set_option linter.unusedSimpArgs false

set_option maxHeartbeats 1000000 in
theorem boundChecks_walk (ao : Option Addr) (n cap : Nat) (m : List (List Int)) (w : World) (hM : SlR w 1 lineR ao n cap m) (h24 : n * 24 ≤ 140737488355328) :
    Calls Try.prog 3 #[.slice ao n cap] w fun e w' => e = .returned (.bool true) ∧ Below w.heap.size w w' := by
  go_enter Try.func3, Try.ntmps3
  go_wp2_with fail
  refine (matCopy_any ao n cap m w hM h24).mono ?_
  rintro e w1 ⟨ao1, cap1, rfl, hb1, hM1⟩
  obtain ⟨hc_w1, hf_w1⟩ := bcell hb1; have hs_w1 := hb1.size; (try simp only [World.size_alloc, World.size_drew] at hs_w1)
  go_wp2_with fail
  refine (matCheck_any ao1 n cap1 m w1 hM1).mono ?_
  rintro e w2 ⟨rfl, hb2⟩
  have hM2 := hM.mono lineR_stays (below_step hb1 hb2)
  obtain ⟨hc_w2, hf_w2⟩ := bcell hb2; have hs_w2 := hb2.size; (try simp only [World.size_alloc, World.size_drew] at hs_w2)
  go_wp2_with fail
  refine (matFault_any ao n cap m w2 hM2).mono ?_
  rintro e w3 ⟨rfl, hb3⟩
  go_wp2
  go_ret
  exact ⟨rfl, (by repeat (first | exact Below.refl _ _ | assumption | refine below_step ?_ (by assumption) | refine below_step ?_ (Joins.below_draws _ _ _) | (refine Below.alloc ?_ (by first | omega | (simp; done) | (simp; omega)) _) | (refine Below.setCell ?_ (by first | omega | (simp; done) | (simp; omega)) _) | refine Below.drew ?_))⟩
end Go.Proofs.Ytipemoajdphdfaa
