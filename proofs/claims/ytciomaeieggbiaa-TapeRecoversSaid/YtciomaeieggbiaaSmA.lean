/-
  The walks of the comparisons of acts: acts that are the same.
-/
import Derived.Test.YtciomaeieggbiaaRcR
namespace Go.Proofs.Ytciomaeieggbiaa
open Go.RowKit
set_option linter.unusedVariables false
set_option linter.unusedSimpArgs false

set_option maxHeartbeats 2000000 in
set_option maxRecDepth 100000 in
theorem sameValues_yes (F G : Nat → Prop) (ao : Option Addr) (n cap : Nat) (bo : Option Addr) (bcap : Nat) (vs : List Val) (w : World) (hX : SlF F w 3 valF ao n cap vs) (hY : SlF G w 3 valF bo n bcap vs) :
    Calls Try.prog 92 #[.slice ao n cap, .slice bo n bcap] w fun e w' => e = .returned (.bool true) ∧ Below w.heap.size w w' := by
  have NL := Lib.hid hX.len
  have hle := hX.le
  have HX := Lib.hid hX
  have HY := Lib.hid hY
  clear hX hY
  go_enter Try.func92, Try.ntmps92
  go_wp2_with fail
  go_loopw [5] (fun i wr => ∃ k : Nat, k ≤ n ∧ i = .int .i64 k ∧ Below w.heap.size w wr) (fun i _ => n - (intOf i).toNat)
  case atStart => exact ⟨0, by omega, rfl, Below.refl _ _⟩
  case round =>
    obtain ⟨k, hk, rfl, hbr⟩ := hrel
    by_cases hlt : k < n
    · have hkl : k < vs.length := by have := NL.out; omega
      obtain ⟨ga, oa, ra, hixa, hFa, hla, hra, hrra⟩ := (HX.out.below valF_firm hbr).index (P := Try.prog) Try.underlying31 size_value (i := k) hkl
      obtain ⟨gb, ob, rb, hixb, hFb, hlb, hrb, hrrb⟩ := (HY.out.below valF_firm hbr).index (P := Try.prog) Try.underlying31 size_value (i := k) hkl
      have ea := hrra.1
      have eb := hrrb.1
      subst ea eb
      obtain ⟨a0, a1, a2⟩ := hra.three
      obtain ⟨b0, b1, b2⟩ := hrb.three
      clear hra hrb hrra hrrb
      generalize vs[k] = x at *
      have hlt' : (k : Int) < n := by omega
      go_wp2_with fail
      go_quiet (fail)
      go_wp2
      go_roundw
      case rel => exact ⟨k + 1, by omega, by go_num, hbr.trans ((Joins.below_draws _ _ _).mono hbr.size)⟩
      case measure => simp [intOf]; omega
    · have hkn : ¬ (k : Int) < n := by omega
      go_wp2
      go_ret
      exact ⟨rfl, hbr⟩

set_option maxHeartbeats 2000000 in
set_option maxRecDepth 100000 in
theorem sameOperation_yes (F G : Nat → Prop) (o : Opn) (ao : Option Addr) (n cap : Nat) (bo : Option Addr) (bcap : Nat) (vs : List Val) (w : World) (hX : SlF F w 3 valF ao n cap vs) (hY : SlF G w 3 valF bo n bcap vs) :
    Calls Try.prog 74 #[o.val (.slice ao n cap), o.val (.slice bo n bcap)] w fun e w' => e = .returned (.bool true) ∧ Below w.heap.size w w' := by
  have HV : Hid (∀ wx, Below w.heap.size w wx → Calls Try.prog 92 #[.slice ao n cap, .slice bo n bcap] wx fun e w' => e = .returned (.bool true) ∧ Below wx.heap.size wx w') := fun wx hb => sameValues_yes F G ao n cap bo bcap vs wx (hX.below valF_firm hb) (hY.below valF_firm hb)
  clear hX hY
  obtain ⟨k, t, st, sp, d, c⟩ := o
  unfold Opn.val
  go_enter Try.func74, Try.ntmps74
  go_wp2_with (go_at_call 92; refine (HV.out _ (by repeat (first | exact Below.refl _ _ | assumption | refine below_step ?_ (by assumption) | refine below_step ?_ (Joins.below_draws _ _ _) | (refine Below.alloc ?_ (by first | omega | (simp; done) | (simp; omega)) _) | (refine Below.setCell ?_ (by first | omega | (simp; done) | (simp; omega)) _) | refine Below.drew ?_))).mono ?_; rintro e w1 ⟨rfl, hb1⟩)
  all_goals
    go_ret
    exact ⟨rfl, (by repeat (first | exact Below.refl _ _ | assumption | refine below_step ?_ (by assumption) | refine below_step ?_ (Joins.below_draws _ _ _) | (refine Below.alloc ?_ (by first | omega | (simp; done) | (simp; omega)) _) | (refine Below.setCell ?_ (by first | omega | (simp; done) | (simp; omega)) _) | refine Below.drew ?_))⟩

set_option maxHeartbeats 2000000 in
set_option maxRecDepth 100000 in
theorem sameAct_yes (F G : Nat → Prop) (a : Ac) (ao : Option Addr) (n cap : Nat) (bo : Option Addr) (bcap : Nat) (vs : List Val) (w : World) (hX : SlF F w 3 valF ao n cap vs) (hY : SlF G w 3 valF bo n bcap vs) :
    Calls Try.prog 45 #[a.val (.slice ao n cap), a.val (.slice bo n bcap)] w fun e w' => e = .returned (.bool true) ∧ Below w.heap.size w w' := by
  have HV : Hid (∀ wx, Below w.heap.size w wx → Calls Try.prog 74 #[a.op.val (.slice ao n cap), a.op.val (.slice bo n bcap)] wx fun e w' => e = .returned (.bool true) ∧ Below wx.heap.size wx w') := fun wx hb => sameOperation_yes F G a.op ao n cap bo bcap vs wx (hX.below valF_firm hb) (hY.below valF_firm hb)
  clear hX hY
  obtain ⟨ak, ⟨k, t, st, sp, d, c⟩, p, src⟩ := a
  unfold Opn.val at HV
  unfold Ac.val
  simp only at HV ⊢
  go_enter Try.func45, Try.ntmps45
  go_wp2_with (go_at_call 74; refine (HV.out _ (by repeat (first | exact Below.refl _ _ | assumption | refine below_step ?_ (by assumption) | refine below_step ?_ (Joins.below_draws _ _ _) | (refine Below.alloc ?_ (by first | omega | (simp; done) | (simp; omega)) _) | (refine Below.setCell ?_ (by first | omega | (simp; done) | (simp; omega)) _) | refine Below.drew ?_))).mono ?_; rintro e w1 ⟨rfl, hb1⟩)
  all_goals
    go_ret
    exact ⟨rfl, (by repeat (first | exact Below.refl _ _ | assumption | refine below_step ?_ (by assumption) | refine below_step ?_ (Joins.below_draws _ _ _) | (refine Below.alloc ?_ (by first | omega | (simp; done) | (simp; omega)) _) | (refine Below.setCell ?_ (by first | omega | (simp; done) | (simp; omega)) _) | refine Below.drew ?_))⟩

theorem RowAt.ten {w : World} {b o : Nat} {x0 x1 x2 x3 x4 x5 x6 x7 x8 x9 : Value} (h : RowAt w b o 10 [x0, x1, x2, x3, x4, x5, x6, x7, x8, x9]) :
    w.cell? ⟨b, o, none⟩ = some x0 ∧ w.cell? ⟨b, o + 1, none⟩ = some x1 ∧ w.cell? ⟨b, o + 1 + 1, none⟩ = some x2 ∧ w.cell? ⟨b, o + 1 + 1 + 1, none⟩ = some x3 ∧ w.cell? ⟨b, o + 1 + 1 + 1 + 1, none⟩ = some x4 ∧ w.cell? ⟨b, o + 1 + 1 + 1 + 1 + 1, none⟩ = some x5 ∧ w.cell? ⟨b, o + 1 + 1 + 1 + 1 + 1 + 1, none⟩ = some x6 ∧ w.cell? ⟨b, o + 1 + 1 + 1 + 1 + 1 + 1 + 1, none⟩ = some x7 ∧ w.cell? ⟨b, o + 1 + 1 + 1 + 1 + 1 + 1 + 1 + 1, none⟩ = some x8 ∧ w.cell? ⟨b, o + 1 + 1 + 1 + 1 + 1 + 1 + 1 + 1 + 1, none⟩ = some x9 :=
  ⟨h.2 0 (by omega), h.2 1 (by omega), h.2 2 (by omega), h.2 3 (by omega), h.2 4 (by omega), h.2 5 (by omega), h.2 6 (by omega), h.2 7 (by omega), h.2 8 (by omega), h.2 9 (by omega)⟩

set_option maxHeartbeats 4000000 in
set_option maxRecDepth 100000 in
theorem sameActs_yes (F G : Nat → Prop) (ao : Option Addr) (n cap : Nat) (bo : Option Addr) (bcap : Nat) (xs : List (Ac × List Val)) (w : World) (hX : SlF F w 10 actF ao n cap xs) (hY : SlF G w 10 actF bo n bcap xs) :
    Calls Try.prog 19 #[.slice ao n cap, .slice bo n bcap] w fun e w' => e = .returned (.bool true) ∧ Below w.heap.size w w' := by
  have NL := Lib.hid hX.len
  have hle := hX.le
  have HX := Lib.hid hX
  have HY := Lib.hid hY
  clear hX hY
  go_enter Try.func19, Try.ntmps19
  go_wp2_with fail
  go_loopw [5] (fun i wr => ∃ k : Nat, k ≤ n ∧ i = .int .i64 k ∧ Below w.heap.size w wr) (fun i _ => n - (intOf i).toNat)
  case atStart => exact ⟨0, by omega, rfl, Below.refl _ _⟩
  case round =>
    obtain ⟨k, hk, rfl, hbr⟩ := hrel
    by_cases hlt : k < n
    · have hkl : k < xs.length := by have := NL.out; omega
      obtain ⟨ga, oa, ra, hixa, hFa, hla, hra, vo1, vc1, e1, hS1, _⟩ := (HX.out.below actF_firm hbr).index (P := Try.prog) Try.underlying47 size_act (i := k) hkl
      obtain ⟨gb, ob, rb, hixb, hFb, hlb, hrb, vo2, vc2, e2, hS2, _⟩ := (HY.out.below actF_firm hbr).index (P := Try.prog) Try.underlying47 size_act (i := k) hkl
      have H : Hid (∀ wx, Below wr.heap.size wr wx → Calls Try.prog 45 #[(xs[k]).1.val (.slice vo1 (xs[k]).2.length vc1), (xs[k]).1.val (.slice vo2 (xs[k]).2.length vc2)] wx fun e w' => e = .returned (.bool true) ∧ Below wx.heap.size wx w') := fun wx hb => sameAct_yes F G (xs[k]).1 vo1 _ vc1 vo2 vc2 (xs[k]).2 wx (hS1.below valF_firm hb) (hS2.below valF_firm hb)
      clear hS1 hS2
      generalize xs[k] = x at *
      obtain ⟨⟨ak, ⟨k', t, st, sp, d, c⟩, p, src⟩, vs⟩ := x
      unfold Ac.cells at e1 e2
      simp only at e1 e2
      subst e1 e2
      unfold Ac.val at H
      simp only at H
      obtain ⟨a0, a1, a2, a3, a4, a5, a6, a7, a8, a9⟩ := RowAt.ten hra
      obtain ⟨b0, b1, b2, b3, b4, b5, b6, b7, b8, b9⟩ := RowAt.ten hrb
      clear hra hrb
      have hlt' : (k : Int) < n := by omega
      go_wp2_with fail
      go_region_with (go_at_call 45; refine (H.out _ (by repeat (first | exact Below.refl _ _ | assumption | refine below_step ?_ (by assumption) | refine below_step ?_ (Joins.below_draws _ _ _) | (refine Below.alloc ?_ (by first | omega | (simp; done) | (simp; omega)) _) | (refine Below.setCell ?_ (by first | omega | (simp; done) | (simp; omega)) _) | refine Below.drew ?_))).mono ?_; rintro e w1 ⟨rfl, hb1⟩)
      all_goals
        go_wp2
        go_roundw
        case rel => exact ⟨k + 1, by omega, by go_num, (by repeat (first | exact Below.refl _ _ | assumption | refine below_step ?_ (by assumption) | refine below_step ?_ (Joins.below_draws _ _ _) | (refine Below.alloc ?_ (by first | omega | (simp; done) | (simp; omega)) _) | (refine Below.setCell ?_ (by first | omega | (simp; done) | (simp; omega)) _) | refine Below.drew ?_))⟩
        case measure => simp [intOf]; omega
    · have hkn : ¬ (k : Int) < n := by omega
      go_wp2
      go_ret
      exact ⟨rfl, hbr⟩
end Go.Proofs.Ytciomaeieggbiaa
