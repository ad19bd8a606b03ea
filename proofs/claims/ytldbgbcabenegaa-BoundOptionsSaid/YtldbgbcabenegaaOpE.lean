/-
  Two matrices merged, the greater bounds, as the options' loops use it: nothing comes as nil.
-/
import Derived.Test.YtldbgbcabenegaaOpQ
import Derived.Test.YtldbgbcabenegaaOpT
namespace Go.Proofs.Ytldbgbcabenegaa
open Go.RowKit
set_option linter.unusedVariables false
set_option linter.unusedSimpArgs false

theorem joinM_some {a b : List (List Int)} (h : pairE a b = 0) (ha : a ≠ []) : joinM max a b ≠ [] := by
  unfold joinM
  rw [if_pos h]
  intro e
  have := congrArg List.length e
  simp [gridL] at this
  exact ha this
theorem either_more (F G : Nat → Prop) (ao : Option Addr) (n cap : Nat) (a : List (List Int)) (bo : Option Addr) (m bcap : Nat) (b : List (List Int)) (w : World) (hA : SlF F w 1 lineF ao n cap a) (hB : SlF G w 1 lineF bo m bcap b) (ha : a ≠ []) :
    Calls Try.prog 9 #[.slice ao n cap, .slice bo m bcap] w fun e w' => ∃ ao' n' cap', e = .returned (.tuple #[.slice ao' n' cap', .int .i64 (pairE a b)]) ∧ Below w.heap.size w w' ∧ SlF (from_ w.heap.size) w' 1 lineF ao' n' cap' (joinM max a b) ∧ (joinM max a b = [] → ao' = none) := by
  by_cases h : pairE a b = 0
  · exact (either_any F G ao n cap a bo m bcap b w hA hB).mono fun e w' ⟨ao', n', cap', h1, h2, h3⟩ => ⟨ao', n', cap', h1, h2, h3, fun e => absurd e (joinM_some h ha)⟩
  · have HJ := Lib.hid (join_bad F G ao n cap a bo m bcap b (.func (.func 22) #[] #[]) w hA hB h)
    have H := Lib.hid h
    clear h
    go_enter Try.func9, Try.ntmps9
    go_wp2_with (go_at_call 21; refine HJ.out.mono ?_; rintro e w1 ⟨rfl, hb1⟩)
    go_ret2
    refine ⟨none, 0, 0, rfl, hb1, ?_, fun _ => rfl⟩
    unfold joinM
    rw [if_neg H.out]
    exact SlF.nil
theorem merged_more (F G : Nat → Prop) (ao : Option Addr) (n cap : Nat) (a : List (List Int)) (bo : Option Addr) (m bcap : Nat) (b : List (List Int)) (w : World) (hA : SlF F w 1 lineF ao n cap a) (hB : SlF G w 1 lineF bo m bcap b) (ha : a ≠ []) :
    Calls Try.prog 12 #[.slice ao n cap, .slice bo m bcap, .bool false] w fun e w' => ∃ ao' n' cap', e = .returned (.tuple #[.slice ao' n' cap', .int .i64 (pairE a b)]) ∧ Below w.heap.size w w' ∧ SlF (from_ w.heap.size) w' 1 lineF ao' n' cap' (joinM max a b) ∧ (joinM max a b = [] → ao' = none) := by
  by_cases h : pairE a b = 0
  · obtain ⟨h1, h2, h3, h4⟩ := pairE_good h
    have hn := hA.len
    have hm := hB.len
    refine (mergedMax_good F G ao n cap a bo m bcap b w hA hB h h2 h3 (by omega) (by omega)).mono fun e w' ⟨ao', cap', gs, h5, h6, h7⟩ => ⟨ao', n, cap', by rw [h5, h], h6, ?_, fun e => absurd e (joinM_some h ha)⟩
    have hS := h7.toF (by omega)
    rw [gridL_congr (mix2_end max a b n)] at hS
    unfold joinM
    rw [if_pos h, ← hn]
    exact hS
  · refine (merged_bad F G ao n cap a bo m bcap b false w hA hB h).mono fun e w' ⟨h5, h6⟩ => ⟨none, 0, 0, h5, h6, ?_, fun _ => rfl⟩
    unfold joinM
    rw [if_neg h]
    exact SlF.nil
end Go.Proofs.Ytldbgbcabenegaa
