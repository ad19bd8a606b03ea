/-
  The law BoundCloses, walked.
-/
import Derived.Test.YtpgjfnchmgenhaaClsW
namespace Go.Proofs.Ytpgjfnchmgenhaa
open Go.RowKit
set_option linter.unusedVariables false
set_option linter.unusedSimpArgs false

set_option maxHeartbeats 2000000 in
theorem boundCloses_walk (F : Nat → Prop) (ao : Option Addr) (n cap : Nat) (m : List (List Int)) (w : World) (hM : SlF F w 1 lineF ao n cap m) (hn : n * 24 ≤ 140737488355328) :
    Calls Try.prog 3 #[.slice ao n cap] w fun e w' => e = .returned (.bool true) ∧ Below w.heap.size w w' := by
  have H1 : Hid (∀ wx (G : Nat → Prop) (bo : Option Addr) (bcap : Nat), SlF G wx 1 lineF bo n bcap m → Calls Try.prog 5 #[.slice bo n bcap] wx (ClosPost m wx)) := fun wx G bo bcap hS => close_any G bo n bcap m wx hS
  have H2 : Hid (∀ wx, Below w.heap.size w wx → Calls Try.prog 6 #[.slice ao n cap] wx (ClosPost m wx)) := fun wx hb => closed_any F ao n cap m wx (hM.below lineF_firm hb)
  unfold ClosPost at H1 H2
  generalize closC m = code at H1 H2
  generalize closM m = D at H1 H2
  go_enter Try.func3, Try.ntmps3
  go_wp2_with fail
  refine (matNew_any F ao n cap m _ hM hn).mono ?_
  rintro e w1 ⟨ao1, cap1, rfl, hb1, hS1⟩
  go_wp2_with fail
  refine (H1.out _ _ ao1 cap1 hS1).mono ?_
  rintro e w2 ⟨ao2, n2, cap2, rfl, hb2, hS2⟩
  go_wp2_with fail
  refine (H2.out _ (by repeat (first | exact Below.refl _ _ | assumption | refine below_step ?_ (by assumption) | refine below_step ?_ (Joins.below_draws _ _ _) | (refine Below.alloc ?_ (by first | omega | (simp; done) | (simp; omega)) _) | (refine Below.setCell ?_ (by first | omega | (simp; done) | (simp; omega)) _) | refine Below.drew ?_))).mono ?_
  rintro e w3 ⟨ao3, n3, cap3, rfl, hb3, hS3⟩
  go_wp2_with fail
  refine (sameRows_yes _ _ ao2 n2 cap2 ao3 n3 cap3 _ _ (hS2.below lineF_firm hb3) hS3).mono ?_
  rintro e w4 ⟨rfl, hb4⟩
  go_wp2_with fail
  refine (sameRows_yes _ F ao1 n cap1 ao n cap _ _ (hS1.below lineF_firm (hb2.trans ((hb3.mono hb2.size).trans (hb4.mono (Nat.le_trans hb2.size hb3.size))))) (hM.below lineF_firm (by repeat (first | exact Below.refl _ _ | assumption | refine below_step ?_ (by assumption) | refine below_step ?_ (Joins.below_draws _ _ _) | (refine Below.alloc ?_ (by first | omega | (simp; done) | (simp; omega)) _) | (refine Below.setCell ?_ (by first | omega | (simp; done) | (simp; omega)) _) | refine Below.drew ?_)))).mono ?_
  rintro e w5 ⟨rfl, hb5⟩
  go_wp2
  go_ret
  exact ⟨rfl, (by repeat (first | exact Below.refl _ _ | assumption | refine below_step ?_ (by assumption) | refine below_step ?_ (Joins.below_draws _ _ _) | (refine Below.alloc ?_ (by first | omega | (simp; done) | (simp; omega)) _) | (refine Below.setCell ?_ (by first | omega | (simp; done) | (simp; omega)) _) | refine Below.drew ?_))⟩
end Go.Proofs.Ytpgjfnchmgenhaa
