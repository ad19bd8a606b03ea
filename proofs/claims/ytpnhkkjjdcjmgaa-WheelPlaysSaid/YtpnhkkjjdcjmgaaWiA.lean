/-
  cmp.Or of two numbers; the order of timers that are due.
-/
import Derived.Test.YtpnhkkjjdcjmgaaWhZ
import Derived.Sort.Grow
namespace Go.Proofs.Ytpnhkkjjdcjmgaa
open Go.RowKit
set_option linter.unusedVariables false
set_option linter.unusedSimpArgs false

theorem ints_ix {b j n rc : Nat} (hj : j < n) (wx : World) : (Instr.indexAt 41 (.slice (some ⟨b, 0, none⟩) n rc) (.int .i64 j)).run Try.prog wx = .ok (.pointer (some ⟨b, j, none⟩)) wx := by
  have hs : ∀ w, (sizeOf 3).run Try.prog w = .ok 1 w := fun w => by kernel_rfl
  simp [Instr.indexAt, run_underlying Try.underlying41, asIntOf, hs]
  rw [if_pos hj, Go.WideShapes.add_plain, Nat.zero_add]
theorem or_any {w : World} {b : Nat} {x y : Int} (h0 : w.cell? ⟨b, 0, none⟩ = some (.int .i64 x)) (h1 : w.cell? ⟨b, 1, none⟩ = some (.int .i64 y)) :
    Calls Try.prog 24 #[.slice (some ⟨b, 0, none⟩) 2 2] w fun e w' => e = .returned (.int .i64 (if x = 0 then y else x)) ∧ w' = w := by
  have hix0 := fun wx => ints_ix (b := b) (rc := 2) (show 0 < 2 by omega) wx
  have hix1 := fun wx => ints_ix (b := b) (rc := 2) (show 1 < 2 by omega) wx
  by_cases hx : x = 0
  · rw [if_pos hx]
    subst hx
    by_cases hy : y = 0
    · subst hy
      go_enter Try.func24, Try.ntmps24
      go_wp2
      refine wp_loop_rounds 3 ?_
      rw [rounds_succ]
      go_wp2
      rw [rounds_succ]
      go_wp2
      rw [rounds_succ]
      go_wp2
      go_ret
      exact ⟨rfl, rfl⟩
    · go_enter Try.func24, Try.ntmps24
      go_wp2
      refine wp_loop_rounds 3 ?_
      rw [rounds_succ]
      go_wp2
      rw [rounds_succ]
      go_wp2
      go_ret
      exact ⟨rfl, rfl⟩
  · rw [if_neg hx]
    go_enter Try.func24, Try.ntmps24
    go_wp2
    refine wp_loop_rounds 3 ?_
    rw [rounds_succ]
    go_wp2
    go_ret
    exact ⟨rfl, rfl⟩
/-- A timer's cells within what the sort sees. -/
abbrev TmB := {t : Tm // t.at_ ≤ 1099511627776 ∧ t.ord ≤ 1099511627776}
instance : Inhabited TmB := ⟨⟨⟨0, 0, 0⟩, by decide⟩⟩
def tmE (t : TmB) : List Value := tmC t.1
def cmpT (x y : TmB) : Int := if (x.1.at_ : Int) - y.1.at_ = 0 then (x.1.ord : Int) - y.1.ord else (x.1.at_ : Int) - y.1.at_
set_option maxHeartbeats 2000000 in
theorem byTime_any (x y : TmB) (w : World) :
    Calls Try.prog 23 #[.agg #[.int .i64 x.1.id, .int .i64 x.1.at_, .int .i64 x.1.ord], .agg #[.int .i64 y.1.id, .int .i64 y.1.at_, .int .i64 y.1.ord]] w fun e w' => e = .returned (.int .i64 (cmpT x y)) ∧ ∃ q os', w' = Go.Sort.grow (w.drewN q) os' := by
  obtain ⟨⟨xi, xa, xo⟩, hx1, hx2⟩ := x
  obtain ⟨⟨yi, ya, yo⟩, hy1, hy2⟩ := y
  simp only at hx1 hx2 hy1 hy2 ⊢
  have e1 : IntKind.i64.wrap ((xa : Int) - ya) = (xa : Int) - ya := by simp [IntKind.wrap, IntKind.bits, IntKind.signed]; omega
  have e2 : IntKind.i64.wrap ((xo : Int) - yo) = (xo : Int) - yo := by simp [IntKind.wrap, IntKind.bits, IntKind.signed]; omega
  unfold cmpT
  simp only
  have HO : Hid (∀ wx b, wx.cell? ⟨b, 0, none⟩ = some (.int .i64 ((xa : Int) - ya)) → wx.cell? ⟨b, 1, none⟩ = some (.int .i64 ((xo : Int) - yo)) → Calls Try.prog 24 #[.slice (some ⟨b, 0, none⟩) 2 2] wx fun e w' => e = .returned (.int .i64 (if (xa : Int) - ya = 0 then (xo : Int) - yo else (xa : Int) - ya)) ∧ w' = wx) := fun wx b h0 h1 => or_any h0 h1
  generalize (if (xa : Int) - ya = 0 then (xo : Int) - yo else (xa : Int) - ya) = r at *
  go_enter Try.func23, Try.ntmps23
  go_wp2_with (go_at_call 24; refine (HO.out _ _ (by go_simp) (by go_simp)).mono ?_; rintro e w' ⟨rfl, rfl⟩)
  go_ret
  exact ⟨rfl, 0, _, by rw [Go.Sort.alloc_eq_grow, Go.Sort.alloc_eq_grow, Go.Sort.alloc_eq_grow, Go.Sort.grow_grow, Go.Sort.grow_grow]; rfl⟩
end Go.Proofs.Ytpnhkkjjdcjmgaa
