/-
  The law TapeRecovers, walked.
-/
import Derived.Test.YtciomaeieggbiaaRcS
import Derived.Test.YtciomaeieggbiaaSmA
namespace Go.Proofs.Ytciomaeieggbiaa
open Go.RowKit
set_option linter.unusedVariables false
set_option linter.unusedSimpArgs false

def recE (n : Nat) (s : Int) : Int := if mayB n s = true then 0 else 9
def recS (n : Nat) (s : Int) (xs : List UInt8) : Int := if mayB n s = true then min s (recF n xs 0).2 else 0
def recD (n : Nat) (s : Int) (xs : List UInt8) : List UInt8 := if mayB n s = true then xs.take (recF n xs 0).2 else []
def recA (n : Nat) (s : Int) (xs : List UInt8) : List (Ac × List Val) := if mayB n s = true then (recF n xs 0).1 else []
theorem recover_any (F : Nat → Prop) (ao : Option Addr) (n cap : Nat) (s : Int) (xs : List UInt8) (w : World) (hX : SlF F w 1 byteF ao n cap xs) :
    Calls Try.prog 17 #[.agg #[.slice ao n cap, .int .i64 s]] w (RecPost (recE n s) (recS n s xs) (recD n s xs) (recA n s xs) w) := by
  unfold recE recS recD recA
  by_cases h : mayB n s = true
  · rw [if_pos h, if_pos h, if_pos h, if_pos h]
    exact recover_good F ao n cap s xs w h hX
  · rw [if_neg h, if_neg h, if_neg h, if_neg h]
    exact recover_bad ao n cap s w (by simpa using h)
theorem recovered_any (F : Nat → Prop) (ao : Option Addr) (n cap : Nat) (s : Int) (xs : List UInt8) (w : World) (hX : SlF F w 1 byteF ao n cap xs) :
    Calls Try.prog 18 #[.agg #[.slice ao n cap, .int .i64 s]] w (RecPost (recE n s) (recS n s xs) (recD n s xs) (recA n s xs) w) := by
  unfold recE recS recD recA
  by_cases h : mayB n s = true
  · rw [if_pos h, if_pos h, if_pos h, if_pos h]
    exact recovered_good F ao n cap s xs w h hX
  · rw [if_neg h, if_neg h, if_neg h, if_neg h]
    exact recovered_bad ao n cap s w (by simpa using h)

set_option maxHeartbeats 4000000 in
set_option maxRecDepth 100000 in
theorem tapeRecovers_walk (F : Nat → Prop) (ao : Option Addr) (n cap : Nat) (s : Int) (xs : List UInt8) (w : World) (hX : SlF F w 1 byteF ao n cap xs) (hn : n ≤ 140737488355328) :
    Calls Try.prog 6 #[.agg #[.slice ao n cap, .int .i64 s]] w fun e w' => e = .returned (.bool true) ∧ Below w.heap.size w w' := by
  have H1 : Hid (∀ wx (G : Nat → Prop) (bo : Option Addr) (bcap : Nat), SlF G wx 1 byteF bo n bcap xs → Calls Try.prog 17 #[.agg #[.slice bo n bcap, .int .i64 s]] wx (RecPost (recE n s) (recS n s xs) (recD n s xs) (recA n s xs) wx)) := fun wx G bo bcap hS => recover_any G bo n bcap s xs wx hS
  have H2 : Hid (∀ wx, Below w.heap.size w wx → Calls Try.prog 18 #[.agg #[.slice ao n cap, .int .i64 s]] wx (RecPost (recE n s) (recS n s xs) (recD n s xs) (recA n s xs) wx)) := fun wx hb => recovered_any F ao n cap s xs wx (hX.below byteF_firm hb)
  unfold RecPost at H1 H2
  generalize recE n s = code at H1 H2
  generalize recS n s xs = sy at H1 H2
  generalize recD n s xs = D at H1 H2
  generalize recA n s xs = L at H1 H2
  go_enter Try.func6, Try.ntmps6
  go_wp2_with fail
  refine (tapes_any F ao n cap s xs _ (hX.below byteF_firm (Joins.below_alloc1 _ _)) hn).mono ?_
  rintro e w1 ⟨ao1, cap1, rfl, hb1, hS1⟩
  obtain ⟨hc_w1, hf_w1⟩ := bcell hb1; have hs_w1 := hb1.size; (try simp only [World.size_alloc, World.size_drew, World.size_setCell] at hs_w1); (try simp only [World.size_drew, World.cell?_drew, World.frozen?_drew] at hc_w1 hf_w1); have z0_w1 : w.heap.size < w1.heap.size := (by omega)
  go_wp2_with fail
  refine (H1.out _ _ ao1 cap1 (hS1.below byteF_firm (by repeat (first | exact Below.refl _ _ | assumption | refine below_step ?_ (by assumption) | refine below_step ?_ (Joins.below_draws _ _ _) | (refine Below.alloc ?_ (by first | omega | (simp; done) | (simp; omega)) _) | (refine Below.setCell ?_ (by first | omega | (simp; done) | (simp; omega)) _) | refine Below.drew ?_)))).mono ?_
  rintro e w2 ⟨ra2, rc2, ao2, cap2, rfl, hb2, hA2, hS2⟩
  obtain ⟨hc_w2, hf_w2⟩ := bcell hb2; have hs_w2 := hb2.size; (try simp only [World.size_alloc, World.size_drew, World.size_setCell] at hs_w2); (try simp only [World.size_drew, World.cell?_drew, World.frozen?_drew] at hc_w2 hf_w2)
  have y2 : w.heap.size < w2.heap.size := by omega
  have y2' : w1.heap.size < w2.heap.size := by omega
  go_wp2_with fail
  refine (H2.out _ (by repeat (first | exact Below.refl _ _ | assumption | refine below_step ?_ (by assumption) | refine below_step ?_ (Joins.below_draws _ _ _) | (refine Below.alloc ?_ (by first | omega | (simp; done) | (simp; omega)) _) | (refine Below.setCell ?_ (by first | omega | (simp; done) | (simp; omega)) _) | refine Below.drew ?_))).mono ?_
  rintro e w3 ⟨ra3, rc3, ao3, cap3, rfl, hb3, hA3, hS3⟩
  obtain ⟨hc_w3, hf_w3⟩ := bcell hb3; have hs_w3 := hb3.size; (try simp only [World.size_alloc, World.size_drew, World.size_setCell] at hs_w3); (try simp only [World.size_drew, World.cell?_drew, World.frozen?_drew] at hc_w3 hf_w3)
  have y3 : w.heap.size < w3.heap.size := by omega
  have y3' : w1.heap.size < w3.heap.size := by omega
  have y3'' : w2.heap.size < w3.heap.size := by omega
  go_wp2_with fail
  refine (sameActs_yes _ _ ra2 _ rc2 ra3 rc3 _ _ (hA2.below actF_firm (by repeat (first | exact Below.refl _ _ | assumption | refine below_step ?_ (by assumption) | refine below_step ?_ (Joins.below_draws _ _ _) | (refine Below.alloc ?_ (by first | omega | (simp; done) | (simp; omega)) _) | (refine Below.setCell ?_ (by first | omega | (simp; done) | (simp; omega)) _) | refine Below.drew ?_))) (hA3.below actF_firm (by repeat (first | exact Below.refl _ _ | assumption | refine below_step ?_ (by assumption) | refine below_step ?_ (Joins.below_draws _ _ _) | (refine Below.alloc ?_ (by first | omega | (simp; done) | (simp; omega)) _) | (refine Below.setCell ?_ (by first | omega | (simp; done) | (simp; omega)) _) | refine Below.drew ?_)))).mono ?_
  rintro e w4 ⟨rfl, hb4⟩
  obtain ⟨hc_w4, hf_w4⟩ := bcell hb4; have hs_w4 := hb4.size; (try simp only [World.size_alloc, World.size_drew, World.size_setCell] at hs_w4); (try simp only [World.size_drew, World.cell?_drew, World.frozen?_drew] at hc_w4 hf_w4)
  have y4 : w.heap.size < w4.heap.size := by omega
  have y4' : w1.heap.size < w4.heap.size := by omega
  have y4'' : w2.heap.size < w4.heap.size := by omega
  have y4''' : w3.heap.size < w4.heap.size := by omega
  go_wp2_with fail
  refine (sameTape_yes _ _ ao2 _ cap2 _ _ ao3 _ cap3 _ (hS2.below byteF_firm (by repeat (first | exact Below.refl _ _ | assumption | refine below_step ?_ (by assumption) | refine below_step ?_ (Joins.below_draws _ _ _) | (refine Below.alloc ?_ (by first | omega | (simp; done) | (simp; omega)) _) | (refine Below.setCell ?_ (by first | omega | (simp; done) | (simp; omega)) _) | refine Below.drew ?_))) (hS3.below byteF_firm (by repeat (first | exact Below.refl _ _ | assumption | refine below_step ?_ (by assumption) | refine below_step ?_ (Joins.below_draws _ _ _) | (refine Below.alloc ?_ (by first | omega | (simp; done) | (simp; omega)) _) | (refine Below.setCell ?_ (by first | omega | (simp; done) | (simp; omega)) _) | refine Below.drew ?_)))).mono ?_
  rintro e w5 ⟨rfl, hb5⟩
  obtain ⟨hc_w5, hf_w5⟩ := bcell hb5; have hs_w5 := hb5.size; (try simp only [World.size_alloc, World.size_drew, World.size_setCell] at hs_w5); (try simp only [World.size_drew, World.cell?_drew, World.frozen?_drew] at hc_w5 hf_w5)
  have y5 : w.heap.size < w5.heap.size := by omega
  have y5' : w1.heap.size < w5.heap.size := by omega
  go_wp2_with fail
  refine (sameTape_yes _ F ao1 n cap1 _ _ ao n cap _ (hS1.below byteF_firm (by repeat (first | exact Below.refl _ _ | assumption | refine below_step ?_ (by assumption) | refine below_step ?_ (Joins.below_draws _ _ _) | (refine Below.alloc ?_ (by first | omega | (simp; done) | (simp; omega)) _) | (refine Below.setCell ?_ (by first | omega | (simp; done) | (simp; omega)) _) | refine Below.drew ?_))) (hX.below byteF_firm (by repeat (first | exact Below.refl _ _ | assumption | refine below_step ?_ (by assumption) | refine below_step ?_ (Joins.below_draws _ _ _) | (refine Below.alloc ?_ (by first | omega | (simp; done) | (simp; omega)) _) | (refine Below.setCell ?_ (by first | omega | (simp; done) | (simp; omega)) _) | refine Below.drew ?_)))).mono ?_
  rintro e w6 ⟨rfl, hb6⟩
  go_wp2
  go_ret
  exact ⟨rfl, (by repeat (first | exact Below.refl _ _ | assumption | refine below_step ?_ (by assumption) | refine below_step ?_ (Joins.below_draws _ _ _) | (refine Below.alloc ?_ (by first | omega | (simp; done) | (simp; omega)) _) | (refine Below.setCell ?_ (by first | omega | (simp; done) | (simp; omega)) _) | refine Below.drew ?_))⟩
end Go.Proofs.Ytciomaeieggbiaa
