/-
  The walks of package bound's less, same, far: bounds laid into a matrix of the call's own.
-/
import Derived.Test.YtldbgbcabenegaaFwW
namespace Go.Proofs.Ytldbgbcabenegaa
open Go.RowKit
set_option linter.unusedVariables false
set_option linter.unusedSimpArgs false

/-- x lies so much ahead of y, at least. -/
def lessG (g : Mx) (x y : Nat) (n : Int) : Mx := setB g x y (min (g x y) (-n))
def sameG (g : Mx) (x y : Nat) : Mx := lessG (lessG g x y 0) y x 0
def farG (g : Mx) (x y : Nat) (lo hi : Int) : Mx := if 0 ≤ hi then setB (lessG g x y lo) y x (min (lessG g x y lo y x) hi) else lessG g x y lo
theorem min_if (a b : Int) : (if b < a then b else a) = min a b := by
  split
  · exact (Int.min_eq_right (by omega)).symm
  · exact (Int.min_eq_left (by omega)).symm

set_option maxHeartbeats 1000000 in
set_option maxRecDepth 100000 in
theorem less_any (B : Nat) (ao : Option Addr) (k cap : Nat) (gs : Nat → Nat) (g : Mx) (x y : Nat) (n : Int) (w : World) (hB : B ≤ w.heap.size) (hG : Grid (from_ B) w ao k cap gs g) (hx : x < k) (hy : y < k) (hn : -4611686018427387904 ≤ n ∧ n ≤ 4611686018427387904) :
    Calls Try.prog 16 #[.slice ao k cap, .int .i64 x, .int .i64 y, .int .i64 n] w fun e w' => e = .returned (.tuple #[]) ∧ Below B w w' ∧ Grid (from_ B) w' ao k cap gs (lessG g x y n) := by
  have HG := Lib.hid hG
  obtain ⟨Ai, rci, hAlt, hglt, hF, hne, h1, h2, hix, hcell, hent⟩ := hG.at hx
  obtain ⟨e1, e2, e3⟩ := hent y hy
  have hneg : IntKind.i64.wrap (-n) = -n := IntWalk.i64_in _ (by omega)
  have KG : Hid (∀ v, v = min (g x y) (-n) → Below B w (w.setCell ⟨gs x, y, none⟩ (.int .i64 v)).drew ∧ Grid (from_ B) (w.setCell ⟨gs x, y, none⟩ (.int .i64 v)).drew ao k cap gs (lessG g x y n)) := fun v hv => by
    rw [hv]
    exact ⟨((Below.refl B w).setCell (p := ⟨gs x, y, none⟩) hF _).drew, (HG.out.store hx hy (min (g x y) (-n))).same Same.drew⟩
  obtain ⟨hn1, hn2⟩ := hn
  have hle := hG.le
  clear hG hent
  go_enter Try.func16, Try.ntmps16
  go_wp2_with fail
  go_still_tail 16, (by kernel_rfl)
  change wpList _ _ _ _ _ w.drew
  go_wp2
  all_goals
    go_end0
    exact ⟨rfl, KG.out _ (by omega)⟩

set_option maxHeartbeats 1000000 in
theorem same_any (B : Nat) (ao : Option Addr) (k cap : Nat) (gs : Nat → Nat) (g : Mx) (x y : Nat) (w : World) (hB : B ≤ w.heap.size) (hG : Grid (from_ B) w ao k cap gs g) (hx : x < k) (hy : y < k) :
    Calls Try.prog 30 #[.slice ao k cap, .int .i64 x, .int .i64 y] w fun e w' => e = .returned (.tuple #[]) ∧ Below B w w' ∧ Grid (from_ B) w' ao k cap gs (sameG g x y) := by
  have HL := Lib.hid (less_any B ao k cap gs g x y 0 w hB hG hx hy (by omega))
  clear hG
  go_enter Try.func30, Try.ntmps30
  go_wp2_with fail
  refine HL.out.mono ?_
  rintro e w1 ⟨rfl, hb1, hG1⟩
  go_wp2_with fail
  refine (less_any B ao k cap gs _ y x 0 w1 (Nat.le_trans hB hb1.size) hG1 hy hx (by omega)).mono ?_
  rintro e w2 ⟨rfl, hb2, hG2⟩
  go_wp2
  go_end0
  exact ⟨rfl, hb1.trans hb2, hG2⟩
end Go.Proofs.Ytldbgbcabenegaa
