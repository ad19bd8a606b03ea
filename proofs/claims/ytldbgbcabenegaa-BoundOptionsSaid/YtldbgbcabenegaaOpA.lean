/-
  The walk of the reference's ahead: a bound laid into a matrix of the call's own.
-/
import Derived.Test.YtldbgbcabenegaaOpS
namespace Go.Proofs.Ytldbgbcabenegaa
open Go.RowKit
set_option linter.unusedVariables false
set_option linter.unusedSimpArgs false

set_option maxHeartbeats 1000000 in
set_option maxRecDepth 100000 in
theorem ahead_any (B : Nat) (ao : Option Addr) (k cap : Nat) (gs : Nat → Nat) (g : Mx) (x y : Nat) (n : Int) (w : World) (hB : B ≤ w.heap.size) (hG : Grid (from_ B) w ao k cap gs g) (hx : x < k) (hy : y < k) (hn : -4611686018427387904 ≤ n ∧ n ≤ 4611686018427387904) :
    Calls Try.prog 25 #[.slice ao k cap, .int .i64 x, .int .i64 y, .int .i64 n] w fun e w' => e = .returned (.tuple #[]) ∧ Below B w w' ∧ Grid (from_ B) w' ao k cap gs (lessG g x y n) := by
  have HG := Lib.hid hG
  obtain ⟨Ai, rci, hAlt, hglt, hF, hne, h1, h2, hix, hcell, hent⟩ := hG.at hx
  obtain ⟨e1, e2, e3⟩ := hent y hy
  have hneg : IntKind.i64.wrap (-n) = -n := IntWalk.i64_in _ (by omega)
  obtain ⟨hn1, hn2⟩ := hn
  have hle := hG.le
  clear hG hent
  by_cases hl : -n < g x y
  · have KG : Hid (Below B w (w.setCell ⟨gs x, y, none⟩ (.int .i64 (-n))) ∧ Grid (from_ B) (w.setCell ⟨gs x, y, none⟩ (.int .i64 (-n))) ao k cap gs (lessG g x y n)) := by
      show _ ∧ _
      have hm : min (g x y) (-n) = -n := Int.min_eq_right (by omega)
      refine ⟨(Below.refl B w).setCell (p := ⟨gs x, y, none⟩) hF _, ?_⟩
      unfold lessG
      rw [hm]
      exact HG.out.store hx hy (-n)
    go_enter Try.func25, Try.ntmps25
    go_wp2
    go_end0
    exact ⟨rfl, KG.out⟩
  · have KG : Hid (Grid (from_ B) w ao k cap gs (lessG g x y n)) := by
      show Grid _ _ _ _ _ _ _
      have hm : min (g x y) (-n) = g x y := Int.min_eq_left (by omega)
      refine HG.out.congr fun r c hr hc => ?_
      unfold lessG setB
      rw [hm]
      split
      · rename_i e; rw [e.1, e.2]
      · rfl
    go_enter Try.func25, Try.ntmps25
    go_wp2
    go_end0
    exact ⟨rfl, Below.refl _ _, KG.out⟩
end Go.Proofs.Ytldbgbcabenegaa
