/-
  The laws of package tape that sync and crash, walked.
-/
import Derived.Test.YtipemoajdphdfaaTapY
namespace Go.Proofs.Ytipemoajdphdfaa
open Go.RowKit
set_option linter.unusedVariables false
set_option linter.unusedSimpArgs false

def syncS (n : Nat) (s : Int) : Int := if mayB n s = true then n else 0
def syncE (n : Nat) (s : Int) : Int := if mayB n s = true then 0 else 9
def syncD (n : Nat) (s : Int) (xs : List UInt8) : List UInt8 := if mayB n s = true then xs else []
theorem sync_any (F : Nat → Prop) (ao : Option Addr) (n cap : Nat) (s : Int) (xs : List UInt8) (w : World) (hX : SlF F w 1 byteF ao n cap xs) :
    Calls Try.prog 18 #[.agg #[.slice ao n cap, .int .i64 s]] w fun e w' => ∃ ao' n' cap', e = .returned (.tuple #[.agg #[.slice ao' n' cap', .int .i64 (syncS n s)], .int .i64 (syncE n s)]) ∧ Below w.heap.size w w' ∧ SlF (from_ w.heap.size) w' 1 byteF ao' n' cap' (syncD n s xs) := by
  unfold syncS syncE syncD
  by_cases h : mayB n s = true
  · simp only [h, if_true]
    exact (sync_good F ao n cap s xs w h hX).mono fun e w' ⟨a, c, e1, hb, hS⟩ => ⟨a, n, c, e1, hb, hS⟩
  · have h' : mayB n s = false := by simpa using h
    simp only [h', if_false, Bool.false_eq_true]
    exact (sync_bad ao n cap s w h').mono fun e w' ⟨e1, hb⟩ => ⟨none, 0, 0, e1, hb, SlF.nil⟩
theorem synced_any (F : Nat → Prop) (ao : Option Addr) (n cap : Nat) (s : Int) (xs : List UInt8) (w : World) (hX : SlF F w 1 byteF ao n cap xs) :
    Calls Try.prog 19 #[.agg #[.slice ao n cap, .int .i64 s]] w fun e w' => ∃ ao' n' cap', e = .returned (.tuple #[.agg #[.slice ao' n' cap', .int .i64 (syncS n s)], .int .i64 (syncE n s)]) ∧ Below w.heap.size w w' ∧ SlF (from_ w.heap.size) w' 1 byteF ao' n' cap' (syncD n s xs) := by
  unfold syncS syncE syncD
  by_cases h : mayB n s = true
  · simp only [h, if_true]
    exact (synced_good F ao n cap s xs w h hX).mono fun e w' ⟨a, c, e1, hb, hS⟩ => ⟨a, n, c, e1, hb, hS⟩
  · have h' : mayB n s = false := by simpa using h
    simp only [h', if_false, Bool.false_eq_true]
    exact (synced_bad ao n cap s w h').mono fun e w' ⟨e1, hb⟩ => ⟨none, 0, 0, e1, hb, SlF.nil⟩

def crashN (n : Nat) (s keep : Int) : Nat := (s + min keep (n - s)).toNat
def crashS (n : Nat) (s keep : Int) : Int := if mayB n s = true ∧ 0 ≤ keep then crashN n s keep else 0
def crashE (n : Nat) (s keep : Int) : Int := if mayB n s = true then (if 0 ≤ keep then 0 else 2) else 9
def crashD (n : Nat) (s keep : Int) (xs : List UInt8) : List UInt8 := if mayB n s = true ∧ 0 ≤ keep then xs.take (crashN n s keep) else []
theorem crashN_eq {n : Nat} {s keep : Int} (h : mayB n s = true) (hk : 0 ≤ keep) : (crashN n s keep : Int) = s + min keep (n - s) := by
  obtain ⟨h1, h2, h3⟩ := mayB_true h
  unfold crashN; omega
theorem crash_any (F : Nat → Prop) (ao : Option Addr) (n cap : Nat) (s keep : Int) (xs : List UInt8) (w : World) (hX : SlF F w 1 byteF ao n cap xs) :
    Calls Try.prog 21 #[.agg #[.slice ao n cap, .int .i64 s], .int .i64 keep] w fun e w' => ∃ ao' n' cap', e = .returned (.tuple #[.agg #[.slice ao' n' cap', .int .i64 (crashS n s keep)], .int .i64 (crashE n s keep)]) ∧ Below w.heap.size w w' ∧ SlF (from_ w.heap.size) w' 1 byteF ao' n' cap' (crashD n s keep xs) := by
  unfold crashS crashE crashD
  by_cases h : mayB n s = true
  · by_cases hk : 0 ≤ keep
    · simp only [h, hk, if_true, true_and]
      exact (crash_good F ao n cap s keep xs w h hk (crashN n s keep) (crashN_eq h hk) hX).mono fun e w' ⟨a, e1, hb, hS⟩ => ⟨a, _, _, e1, hb, hS⟩
    · simp only [h, hk, if_true, if_false, and_false]
      exact (crash_range F ao n cap s keep xs w h (by omega) hX).mono fun e w' ⟨e1, hb⟩ => ⟨none, 0, 0, e1, hb, SlF.nil⟩
  · have h' : mayB n s = false := by simpa using h
    simp only [h', if_false, Bool.false_eq_true, false_and]
    exact (crash_bad ao n cap s keep w h').mono fun e w' ⟨e1, hb⟩ => ⟨none, 0, 0, e1, hb, SlF.nil⟩
theorem crashed_any (F : Nat → Prop) (ao : Option Addr) (n cap : Nat) (s keep : Int) (xs : List UInt8) (w : World) (hX : SlF F w 1 byteF ao n cap xs) :
    Calls Try.prog 22 #[.agg #[.slice ao n cap, .int .i64 s], .int .i64 keep] w fun e w' => ∃ ao' n' cap', e = .returned (.tuple #[.agg #[.slice ao' n' cap', .int .i64 (crashS n s keep)], .int .i64 (crashE n s keep)]) ∧ Below w.heap.size w w' ∧ SlF (from_ w.heap.size) w' 1 byteF ao' n' cap' (crashD n s keep xs) := by
  unfold crashS crashE crashD
  by_cases h : mayB n s = true
  · by_cases hk : 0 ≤ keep
    · simp only [h, hk, if_true, true_and]
      exact (crashed_good F ao n cap s keep xs w h hk (crashN n s keep) (crashN_eq h hk) hX).mono fun e w' ⟨a, c, e1, hb, hS⟩ => ⟨a, _, _, e1, hb, hS⟩
    · simp only [h, hk, if_true, if_false, and_false]
      exact (crashed_range ao n cap s keep w h (by omega)).mono fun e w' ⟨e1, hb⟩ => ⟨none, 0, 0, e1, hb, SlF.nil⟩
  · have h' : mayB n s = false := by simpa using h
    simp only [h', if_false, Bool.false_eq_true, false_and]
    exact (crashed_bad ao n cap s keep w h').mono fun e w' ⟨e1, hb⟩ => ⟨none, 0, 0, e1, hb, SlF.nil⟩

set_option maxHeartbeats 2000000 in
theorem tapeSyncs_walk (F : Nat → Prop) (ao : Option Addr) (n cap : Nat) (s : Int) (xs : List UInt8) (w : World) (hX : SlF F w 1 byteF ao n cap xs) (hn : n ≤ 140737488355328) :
    Calls Try.prog 4 #[.agg #[.slice ao n cap, .int .i64 s]] w fun e w' => e = .returned (.bool true) ∧ Below w.heap.size w w' := by
  go_enter Try.func4, Try.ntmps4
  go_wp2_with fail
  refine (tapes_any F ao n cap s xs _ (hX.below byteF_firm (by repeat (first | exact Below.refl _ _ | assumption | refine below_step ?_ (by assumption) | refine below_step ?_ (Joins.below_draws _ _ _) | (refine Below.alloc ?_ (by first | omega | (simp; done) | (simp; omega)) _) | (refine Below.setCell ?_ (by first | omega | (simp; done) | (simp; omega)) _) | refine Below.drew ?_))) hn).mono ?_
  rintro e w1 ⟨ao1, cap1, rfl, hb1, hS1⟩
  obtain ⟨hc_w1, hf_w1⟩ := bcell hb1; have hs_w1 := hb1.size; (try simp only [World.size_alloc, World.size_drew, World.size_setCell] at hs_w1); (try simp only [World.size_drew, World.cell?_drew, World.frozen?_drew] at hc_w1 hf_w1); have z0_w1 : w.heap.size < w1.heap.size := (by omega)
  go_wp2_with fail
  refine (sync_any _ ao1 n cap1 s xs _ (hS1.below byteF_firm (by repeat (first | exact Below.refl _ _ | assumption | refine below_step ?_ (by assumption) | refine below_step ?_ (Joins.below_draws _ _ _) | (refine Below.alloc ?_ (by first | omega | (simp; done) | (simp; omega)) _) | (refine Below.setCell ?_ (by first | omega | (simp; done) | (simp; omega)) _) | refine Below.drew ?_)))).mono ?_
  rintro e w2 ⟨ao2, n2, cap2, rfl, hb2, hS2⟩
  obtain ⟨hc_w2, hf_w2⟩ := bcell hb2; have hs_w2 := hb2.size; (try simp only [World.size_alloc, World.size_drew, World.size_setCell] at hs_w2); (try simp only [World.size_drew, World.cell?_drew, World.frozen?_drew] at hc_w2 hf_w2)
  have y2 : w.heap.size < w2.heap.size := by omega
  have y2' : w1.heap.size < w2.heap.size := by omega
  go_wp2_with fail
  refine (synced_any F ao n cap s xs _ (hX.below byteF_firm (by repeat (first | exact Below.refl _ _ | assumption | refine below_step ?_ (by assumption) | refine below_step ?_ (Joins.below_draws _ _ _) | (refine Below.alloc ?_ (by first | omega | (simp; done) | (simp; omega)) _) | (refine Below.setCell ?_ (by first | omega | (simp; done) | (simp; omega)) _) | refine Below.drew ?_)))).mono ?_
  rintro e w3 ⟨ao3, n3, cap3, rfl, hb3, hS3⟩
  obtain ⟨hc_w3, hf_w3⟩ := bcell hb3; have hs_w3 := hb3.size; (try simp only [World.size_alloc, World.size_drew, World.size_setCell] at hs_w3); (try simp only [World.size_drew, World.cell?_drew, World.frozen?_drew] at hc_w3 hf_w3)
  have y3 : w.heap.size < w3.heap.size := by omega
  have y3' : w1.heap.size < w3.heap.size := by omega
  have y3'' : w2.heap.size < w3.heap.size := by omega
  go_wp2_with fail
  refine (sameTape_yes _ _ ao2 n2 cap2 _ _ ao3 n3 cap3 _ (hS2.below byteF_firm (by repeat (first | exact Below.refl _ _ | assumption | refine below_step ?_ (by assumption) | refine below_step ?_ (Joins.below_draws _ _ _) | (refine Below.alloc ?_ (by first | omega | (simp; done) | (simp; omega)) _) | (refine Below.setCell ?_ (by first | omega | (simp; done) | (simp; omega)) _) | refine Below.drew ?_))) (hS3.below byteF_firm (by repeat (first | exact Below.refl _ _ | assumption | refine below_step ?_ (by assumption) | refine below_step ?_ (Joins.below_draws _ _ _) | (refine Below.alloc ?_ (by first | omega | (simp; done) | (simp; omega)) _) | (refine Below.setCell ?_ (by first | omega | (simp; done) | (simp; omega)) _) | refine Below.drew ?_)))).mono ?_
  rintro e w4 ⟨rfl, hb4⟩
  obtain ⟨hc_w4, hf_w4⟩ := bcell hb4; have hs_w4 := hb4.size; (try simp only [World.size_alloc, World.size_drew, World.size_setCell] at hs_w4); (try simp only [World.size_drew, World.cell?_drew, World.frozen?_drew] at hc_w4 hf_w4)
  have y4 : w.heap.size < w4.heap.size := by omega
  have y4' : w1.heap.size < w4.heap.size := by omega
  go_wp2_with fail
  refine (sameTape_yes _ F ao1 n cap1 _ _ ao n cap _ (hS1.below byteF_firm (by repeat (first | exact Below.refl _ _ | assumption | refine below_step ?_ (by assumption) | refine below_step ?_ (Joins.below_draws _ _ _) | (refine Below.alloc ?_ (by first | omega | (simp; done) | (simp; omega)) _) | (refine Below.setCell ?_ (by first | omega | (simp; done) | (simp; omega)) _) | refine Below.drew ?_))) (hX.below byteF_firm (by repeat (first | exact Below.refl _ _ | assumption | refine below_step ?_ (by assumption) | refine below_step ?_ (Joins.below_draws _ _ _) | (refine Below.alloc ?_ (by first | omega | (simp; done) | (simp; omega)) _) | (refine Below.setCell ?_ (by first | omega | (simp; done) | (simp; omega)) _) | refine Below.drew ?_)))).mono ?_
  rintro e w5 ⟨rfl, hb5⟩
  go_wp2
  go_ret
  exact ⟨rfl, (by repeat (first | exact Below.refl _ _ | assumption | refine below_step ?_ (by assumption) | refine below_step ?_ (Joins.below_draws _ _ _) | (refine Below.alloc ?_ (by first | omega | (simp; done) | (simp; omega)) _) | (refine Below.setCell ?_ (by first | omega | (simp; done) | (simp; omega)) _) | refine Below.drew ?_))⟩
set_option maxHeartbeats 2000000 in
theorem tapeCrashes_walk (F : Nat → Prop) (ao : Option Addr) (n cap : Nat) (s keep : Int) (xs : List UInt8) (w : World) (hX : SlF F w 1 byteF ao n cap xs) (hn : n ≤ 140737488355328) :
    Calls Try.prog 5 #[.agg #[.slice ao n cap, .int .i64 s], .int .i64 keep] w fun e w' => e = .returned (.bool true) ∧ Below w.heap.size w w' := by
  go_enter Try.func5, Try.ntmps5
  go_wp2_with fail
  refine (tapes_any F ao n cap s xs _ (hX.below byteF_firm (by repeat (first | exact Below.refl _ _ | assumption | refine below_step ?_ (by assumption) | refine below_step ?_ (Joins.below_draws _ _ _) | (refine Below.alloc ?_ (by first | omega | (simp; done) | (simp; omega)) _) | (refine Below.setCell ?_ (by first | omega | (simp; done) | (simp; omega)) _) | refine Below.drew ?_))) hn).mono ?_
  rintro e w1 ⟨ao1, cap1, rfl, hb1, hS1⟩
  obtain ⟨hc_w1, hf_w1⟩ := bcell hb1; have hs_w1 := hb1.size; (try simp only [World.size_alloc, World.size_drew, World.size_setCell] at hs_w1); (try simp only [World.size_drew, World.cell?_drew, World.frozen?_drew] at hc_w1 hf_w1); have z0_w1 : w.heap.size < w1.heap.size := (by omega)
  go_wp2_with fail
  refine (crash_any _ ao1 n cap1 s keep xs _ (hS1.below byteF_firm (by repeat (first | exact Below.refl _ _ | assumption | refine below_step ?_ (by assumption) | refine below_step ?_ (Joins.below_draws _ _ _) | (refine Below.alloc ?_ (by first | omega | (simp; done) | (simp; omega)) _) | (refine Below.setCell ?_ (by first | omega | (simp; done) | (simp; omega)) _) | refine Below.drew ?_)))).mono ?_
  rintro e w2 ⟨ao2, n2, cap2, rfl, hb2, hS2⟩
  obtain ⟨hc_w2, hf_w2⟩ := bcell hb2; have hs_w2 := hb2.size; (try simp only [World.size_alloc, World.size_drew, World.size_setCell] at hs_w2); (try simp only [World.size_drew, World.cell?_drew, World.frozen?_drew] at hc_w2 hf_w2)
  have y2 : w.heap.size < w2.heap.size := by omega
  have y2' : w1.heap.size < w2.heap.size := by omega
  go_wp2_with fail
  refine (crashed_any F ao n cap s keep xs _ (hX.below byteF_firm (by repeat (first | exact Below.refl _ _ | assumption | refine below_step ?_ (by assumption) | refine below_step ?_ (Joins.below_draws _ _ _) | (refine Below.alloc ?_ (by first | omega | (simp; done) | (simp; omega)) _) | (refine Below.setCell ?_ (by first | omega | (simp; done) | (simp; omega)) _) | refine Below.drew ?_)))).mono ?_
  rintro e w3 ⟨ao3, n3, cap3, rfl, hb3, hS3⟩
  obtain ⟨hc_w3, hf_w3⟩ := bcell hb3; have hs_w3 := hb3.size; (try simp only [World.size_alloc, World.size_drew, World.size_setCell] at hs_w3); (try simp only [World.size_drew, World.cell?_drew, World.frozen?_drew] at hc_w3 hf_w3)
  have y3 : w.heap.size < w3.heap.size := by omega
  have y3' : w1.heap.size < w3.heap.size := by omega
  have y3'' : w2.heap.size < w3.heap.size := by omega
  go_wp2_with fail
  refine (sameTape_yes _ _ ao2 n2 cap2 _ _ ao3 n3 cap3 _ (hS2.below byteF_firm (by repeat (first | exact Below.refl _ _ | assumption | refine below_step ?_ (by assumption) | refine below_step ?_ (Joins.below_draws _ _ _) | (refine Below.alloc ?_ (by first | omega | (simp; done) | (simp; omega)) _) | (refine Below.setCell ?_ (by first | omega | (simp; done) | (simp; omega)) _) | refine Below.drew ?_))) (hS3.below byteF_firm (by repeat (first | exact Below.refl _ _ | assumption | refine below_step ?_ (by assumption) | refine below_step ?_ (Joins.below_draws _ _ _) | (refine Below.alloc ?_ (by first | omega | (simp; done) | (simp; omega)) _) | (refine Below.setCell ?_ (by first | omega | (simp; done) | (simp; omega)) _) | refine Below.drew ?_)))).mono ?_
  rintro e w4 ⟨rfl, hb4⟩
  obtain ⟨hc_w4, hf_w4⟩ := bcell hb4; have hs_w4 := hb4.size; (try simp only [World.size_alloc, World.size_drew, World.size_setCell] at hs_w4); (try simp only [World.size_drew, World.cell?_drew, World.frozen?_drew] at hc_w4 hf_w4)
  have y4 : w.heap.size < w4.heap.size := by omega
  have y4' : w1.heap.size < w4.heap.size := by omega
  go_wp2_with fail
  refine (sameTape_yes _ F ao1 n cap1 _ _ ao n cap _ (hS1.below byteF_firm (by repeat (first | exact Below.refl _ _ | assumption | refine below_step ?_ (by assumption) | refine below_step ?_ (Joins.below_draws _ _ _) | (refine Below.alloc ?_ (by first | omega | (simp; done) | (simp; omega)) _) | (refine Below.setCell ?_ (by first | omega | (simp; done) | (simp; omega)) _) | refine Below.drew ?_))) (hX.below byteF_firm (by repeat (first | exact Below.refl _ _ | assumption | refine below_step ?_ (by assumption) | refine below_step ?_ (Joins.below_draws _ _ _) | (refine Below.alloc ?_ (by first | omega | (simp; done) | (simp; omega)) _) | (refine Below.setCell ?_ (by first | omega | (simp; done) | (simp; omega)) _) | refine Below.drew ?_)))).mono ?_
  rintro e w5 ⟨rfl, hb5⟩
  go_wp2
  go_ret
  exact ⟨rfl, (by repeat (first | exact Below.refl _ _ | assumption | refine below_step ?_ (by assumption) | refine below_step ?_ (Joins.below_draws _ _ _) | (refine Below.alloc ?_ (by first | omega | (simp; done) | (simp; omega)) _) | (refine Below.setCell ?_ (by first | omega | (simp; done) | (simp; omega)) _) | refine Below.drew ?_))⟩
end Go.Proofs.Ytipemoajdphdfaa
