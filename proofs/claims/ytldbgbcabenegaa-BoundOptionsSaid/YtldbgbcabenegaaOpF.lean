/-
  The walk of package bound's far.
-/
import Derived.Test.YtldbgbcabenegaaOpW
namespace Go.Proofs.Ytldbgbcabenegaa
open Go.RowKit
set_option linter.unusedVariables false
set_option linter.unusedSimpArgs false

set_option maxHeartbeats 1000000 in
set_option maxRecDepth 100000 in
theorem far_any (B : Nat) (ao : Option Addr) (k cap : Nat) (gs : Nat → Nat) (g : Mx) (x y : Nat) (lo hi : Int) (w : World) (hB : B ≤ w.heap.size) (hG : Grid (from_ B) w ao k cap gs g) (hx : x < k) (hy : y < k) (hn : -4611686018427387904 ≤ lo ∧ lo ≤ 4611686018427387904) :
    Calls Try.prog 18 #[.slice ao k cap, .int .i64 x, .int .i64 y, .int .i64 lo, .int .i64 hi] w fun e w' => e = .returned (.tuple #[]) ∧ Below B w w' ∧ Grid (from_ B) w' ao k cap gs (farG g x y lo hi) := by
  have HL := Lib.hid (less_any B ao k cap gs g x y lo w hB hG hx hy hn)
  have hle := hG.le
  have hmx := hG.max
  unfold maxLen at hmx
  unfold farG
  clear hG hn
  by_cases hh : 0 ≤ hi
  · rw [if_pos hh]
    go_enter Try.func18, Try.ntmps18
    go_wp2_with fail
    refine HL.out.mono ?_
    rintro e w1 ⟨rfl, hb1, hG1⟩
    have HG := Lib.hid hG1
    obtain ⟨g1, hg1⟩ : ∃ g1, Hid (g1 = lessG g x y lo) := ⟨_, rfl⟩
    rw [← hg1.out] at hG1 HG
    obtain ⟨Ai, rci, hAlt, hglt, hF, hne, h1, h2, hix, hcell, hent⟩ := hG1.at hy
    obtain ⟨e1, e2, e3⟩ := hent x hx
    have KG : Hid (∀ v, v = min (g1 y x) hi → Below B w (w1.setCell ⟨gs y, x, none⟩ (.int .i64 v)).drew ∧ Grid (from_ B) (w1.setCell ⟨gs y, x, none⟩ (.int .i64 v)).drew ao k cap gs (setB g1 y x (min (g1 y x) hi))) := fun v hv => by
      rw [hv]
      exact ⟨(hb1.setCell (p := ⟨gs y, x, none⟩) hF _).drew, (HG.out.store hy hx (min (g1 y x) hi)).same Same.drew⟩
    clear hG1 hent
    go_wp2_with fail
    go_still_tail 15, (by kernel_rfl)
    change wpList _ _ _ _ _ w1.drew
    go_wp2
    all_goals
      go_end0
      rw [← hg1.out]
      exact ⟨rfl, KG.out _ (by omega)⟩
  · rw [if_neg hh]
    go_enter Try.func18, Try.ntmps18
    go_wp2_with fail
    refine HL.out.mono ?_
    rintro e w1 ⟨rfl, hb1, hG1⟩
    go_wp2
    go_end0
    exact ⟨rfl, hb1, hG1⟩
end Go.Proofs.Ytldbgbcabenegaa
