/-
  The walks of arena, second part: the cell of a handle.
-/
import Derived.Test.YtciomaeieggbiaaArnX
namespace Go.Proofs.Ytciomaeieggbiaa
open Go.RowKit
set_option linter.unusedVariables false
set_option linter.unusedSimpArgs false

/-- What a handle is refused for. -/
def cellFault (cs : List Cl) (p t : Int) : Int :=
  if (0 ≤ p ∧ p ≤ (cs.length : Int) - 1) ∧ (1 ≤ t ∧ t ≤ ((cs.getD p.toNat default).turn : Int)) then
    (if (cs.getD p.toNat default).used = false ∨ ((cs.getD p.toNat default).turn : Int) ≠ t then 17 else 0) else 6
set_option maxHeartbeats 400000 in
set_option maxRecDepth 100000 in
theorem cell_low (B b : Nat) (cs : List Cl) (f c p t : Int) (w : World) (h : ArenaAt B b cs f c w) (hB : B ≤ w.heap.size) (hl : cs.length ≤ 2000) (hp : p < 0) :
    Calls Try.prog 54 #[.pointer (some ⟨b, 0, none⟩), .agg #[.int .i64 p, .int .i64 t]] w fun e w' => e = .returned (.tuple #[.pointer none, .int .i64 6]) ∧ Below w.heap.size w w' := by
  obtain ⟨ao, m, cap, hm, hc1, hc2, c0, c1, c2, fz, hbk, hown, hg⟩ := h.open
  have hlt := h.lt
  have hm2 : m ≤ 2000 := by omega
  have HM := Lib.hid hm
  have HG := Lib.hid hg
  clear h hown hbk hg
  clear hm
  go_enter Try.func54, Try.ntmps54
  go_wp2_with fail
  go_quiet (fail)
  go_wp2
  go_ret2
  exact ⟨rfl, (by repeat (first | exact Below.refl _ _ | assumption | refine below_step ?_ (by assumption) | refine below_step ?_ (Joins.below_draws _ _ _) | (refine Below.alloc ?_ (by first | omega | (simp; done) | (simp; omega)) _) | (refine Below.setCell ?_ (by first | omega | (simp; done) | (simp; omega)) _) | refine Below.drew ?_))⟩
set_option maxHeartbeats 400000 in
set_option maxRecDepth 100000 in
theorem cell_high (B b : Nat) (cs : List Cl) (f c p t : Int) (w : World) (h : ArenaAt B b cs f c w) (hB : B ≤ w.heap.size) (hl : cs.length ≤ 2000) (hp : (cs.length : Int) ≤ p) :
    Calls Try.prog 54 #[.pointer (some ⟨b, 0, none⟩), .agg #[.int .i64 p, .int .i64 t]] w fun e w' => e = .returned (.tuple #[.pointer none, .int .i64 6]) ∧ Below w.heap.size w w' := by
  obtain ⟨ao, m, cap, hm, hc1, hc2, c0, c1, c2, fz, hbk, hown, hg⟩ := h.open
  have hlt := h.lt
  have hm2 : m ≤ 2000 := by omega
  have HM := Lib.hid hm
  have HG := Lib.hid hg
  clear h hown hbk hg
  have hp' : (m : Int) ≤ p := by omega
  have hp0 : 0 ≤ p := by omega
  have k1 : decide (p < 0) = false := by simp; omega
  have k2 : decide ((m : Int) ≤ p) = true := by simp; omega
  clear hm hp
  go_enter Try.func54, Try.ntmps54
  go_wp2_with fail
  go_quiet (fail)
  go_wp2
  go_ret2
  exact ⟨rfl, (by repeat (first | exact Below.refl _ _ | assumption | refine below_step ?_ (by assumption) | refine below_step ?_ (Joins.below_draws _ _ _) | (refine Below.alloc ?_ (by first | omega | (simp; done) | (simp; omega)) _) | (refine Below.setCell ?_ (by first | omega | (simp; done) | (simp; omega)) _) | refine Below.drew ?_))⟩
set_option maxHeartbeats 400000 in
set_option maxRecDepth 100000 in
theorem cell_early (B b : Nat) (cs : List Cl) (f c p t : Int) (w : World) (h : ArenaAt B b cs f c w) (hB : B ≤ w.heap.size) (hl : cs.length ≤ 2000) (hp : 0 ≤ p) (hp2 : p < cs.length) (ht : t < 1) :
    Calls Try.prog 54 #[.pointer (some ⟨b, 0, none⟩), .agg #[.int .i64 p, .int .i64 t]] w fun e w' => e = .returned (.tuple #[.pointer none, .int .i64 6]) ∧ Below w.heap.size w w' := by
  obtain ⟨ao, m, cap, hm, hc1, hc2, c0, c1, c2, fz, hbk, hown, hg⟩ := h.open
  have hlt := h.lt
  have hm2 : m ≤ 2000 := by omega
  have HM := Lib.hid hm
  have HG := Lib.hid hg
  clear h hown hbk hg
  have hp' : p < (m : Int) := by omega
  have k1 : decide (p < 0) = false := by simp; omega
  have k2 : decide ((m : Int) ≤ p) = false := by simp; omega
  have k3 : decide (t < 1) = true := by simp; omega
  clear hm hp2
  go_enter Try.func54, Try.ntmps54
  go_wp2_with fail
  go_quiet (fail)
  go_wp2
  go_ret2
  exact ⟨rfl, (by repeat (first | exact Below.refl _ _ | assumption | refine below_step ?_ (by assumption) | refine below_step ?_ (Joins.below_draws _ _ _) | (refine Below.alloc ?_ (by first | omega | (simp; done) | (simp; omega)) _) | (refine Below.setCell ?_ (by first | omega | (simp; done) | (simp; omega)) _) | refine Below.drew ?_))⟩
set_option maxHeartbeats 400000 in
set_option maxRecDepth 100000 in
theorem cell_later (B b : Nat) (cs : List Cl) (f c p t : Int) (w : World) (h : ArenaAt B b cs f c w) (hB : B ≤ w.heap.size) (hl : cs.length ≤ 2000) (hp : 0 ≤ p) (hp2 : p < cs.length) (ht : 1 ≤ t) (ht2 : ((cs.getD p.toNat default).turn : Int) < t) :
    Calls Try.prog 54 #[.pointer (some ⟨b, 0, none⟩), .agg #[.int .i64 p, .int .i64 t]] w fun e w' => e = .returned (.tuple #[.pointer none, .int .i64 6]) ∧ Below w.heap.size w w' := by
  obtain ⟨ao, m, cap, hm, hc1, hc2, c0, c1, c2, fz, hbk, hown, hg⟩ := h.open
  have hlt := h.lt
  have hm2 : m ≤ 2000 := by omega
  have HM := Lib.hid hm
  have HG := Lib.hid hg
  clear h hown hbk hg
  have hp' : p < (m : Int) := by omega
  obtain ⟨q, rfl⟩ : ∃ q : Nat, p = q := ⟨p.toNat, by omega⟩
  have hq : q < cs.length := by omega
  have hqm : q < m := by omega
  obtain ⟨g, rfl, hgb, hBg, hglt, fg, hcells⟩ := HG.out (by omega)
  obtain ⟨d0, d1, d2, d3⟩ := hcells q hq
  have hgd : cs.getD q default = cs[q] := by simp [List.getD, List.getElem?_eq_getElem hq]
  simp only [Int.toNat_natCast, hgd] at ht2
  generalize cs[q] = x at d0 d1 d2 d3 ht2
  obtain ⟨u, tu, nn, nx⟩ := x
  simp only at d0 d1 d2 d3 ht2
  have k1 : decide ((q : Int) < 0) = false := by simp
  have k2 : decide ((m : Int) ≤ (q : Int)) = false := by simp; omega
  have k3 : decide (t < 1) = false := by simp; omega
  clear hm hp2 hcells hgd
  have k4 : decide ((tu : Int) < t) = true := by simp; omega

  go_enter Try.func54, Try.ntmps54
  go_wp2_with fail
  go_quiet (fail)
  go_wp2
  go_ret2
  exact ⟨rfl, (by repeat (first | exact Below.refl _ _ | assumption | refine below_step ?_ (by assumption) | refine below_step ?_ (Joins.below_draws _ _ _) | (refine Below.alloc ?_ (by first | omega | (simp; done) | (simp; omega)) _) | (refine Below.setCell ?_ (by first | omega | (simp; done) | (simp; omega)) _) | refine Below.drew ?_))⟩
set_option maxHeartbeats 400000 in
set_option maxRecDepth 100000 in
theorem cell_unused (B b : Nat) (cs : List Cl) (f c p t : Int) (w : World) (h : ArenaAt B b cs f c w) (hB : B ≤ w.heap.size) (hl : cs.length ≤ 2000) (hp : 0 ≤ p) (hp2 : p < cs.length) (ht : 1 ≤ t) (ht2 : t ≤ ((cs.getD p.toNat default).turn : Int)) (hu : (cs.getD p.toNat default).used = false) :
    Calls Try.prog 54 #[.pointer (some ⟨b, 0, none⟩), .agg #[.int .i64 p, .int .i64 t]] w fun e w' => e = .returned (.tuple #[.pointer none, .int .i64 17]) ∧ Below w.heap.size w w' := by
  obtain ⟨ao, m, cap, hm, hc1, hc2, c0, c1, c2, fz, hbk, hown, hg⟩ := h.open
  have hlt := h.lt
  have hm2 : m ≤ 2000 := by omega
  have HM := Lib.hid hm
  have HG := Lib.hid hg
  clear h hown hbk hg
  have hp' : p < (m : Int) := by omega
  obtain ⟨q, rfl⟩ : ∃ q : Nat, p = q := ⟨p.toNat, by omega⟩
  have hq : q < cs.length := by omega
  have hqm : q < m := by omega
  obtain ⟨g, rfl, hgb, hBg, hglt, fg, hcells⟩ := HG.out (by omega)
  obtain ⟨d0, d1, d2, d3⟩ := hcells q hq
  have hgd : cs.getD q default = cs[q] := by simp [List.getD, List.getElem?_eq_getElem hq]
  simp only [Int.toNat_natCast, hgd] at ht2 hu
  generalize cs[q] = x at d0 d1 d2 d3 ht2 hu
  obtain ⟨u, tu, nn, nx⟩ := x
  simp only at d0 d1 d2 d3 ht2 hu
  have k1 : decide ((q : Int) < 0) = false := by simp
  have k2 : decide ((m : Int) ≤ (q : Int)) = false := by simp; omega
  have k3 : decide (t < 1) = false := by simp; omega
  clear hm hp2 hcells hgd
  have k4 : decide ((tu : Int) < t) = false := by simp; omega
  subst hu

  go_enter Try.func54, Try.ntmps54
  go_wp2_with fail
  go_quiet (fail)
  go_wp2_with fail
  go_quiet (fail)
  go_wp2_with fail
  go_quiet (fail)
  go_wp2
  go_ret2
  exact ⟨rfl, (by repeat (first | exact Below.refl _ _ | assumption | refine below_step ?_ (by assumption) | refine below_step ?_ (Joins.below_draws _ _ _) | (refine Below.alloc ?_ (by first | omega | (simp; done) | (simp; omega)) _) | (refine Below.setCell ?_ (by first | omega | (simp; done) | (simp; omega)) _) | refine Below.drew ?_))⟩
set_option maxHeartbeats 400000 in
set_option maxRecDepth 100000 in
theorem cell_other (B b : Nat) (cs : List Cl) (f c p t : Int) (w : World) (h : ArenaAt B b cs f c w) (hB : B ≤ w.heap.size) (hl : cs.length ≤ 2000) (hp : 0 ≤ p) (hp2 : p < cs.length) (ht : 1 ≤ t) (ht2 : t ≤ ((cs.getD p.toNat default).turn : Int)) (hu : (cs.getD p.toNat default).used = true) (hne : ((cs.getD p.toNat default).turn : Int) ≠ t) :
    Calls Try.prog 54 #[.pointer (some ⟨b, 0, none⟩), .agg #[.int .i64 p, .int .i64 t]] w fun e w' => e = .returned (.tuple #[.pointer none, .int .i64 17]) ∧ Below w.heap.size w w' := by
  obtain ⟨ao, m, cap, hm, hc1, hc2, c0, c1, c2, fz, hbk, hown, hg⟩ := h.open
  have hlt := h.lt
  have hm2 : m ≤ 2000 := by omega
  have HM := Lib.hid hm
  have HG := Lib.hid hg
  clear h hown hbk hg
  have hp' : p < (m : Int) := by omega
  obtain ⟨q, rfl⟩ : ∃ q : Nat, p = q := ⟨p.toNat, by omega⟩
  have hq : q < cs.length := by omega
  have hqm : q < m := by omega
  obtain ⟨g, rfl, hgb, hBg, hglt, fg, hcells⟩ := HG.out (by omega)
  obtain ⟨d0, d1, d2, d3⟩ := hcells q hq
  have hgd : cs.getD q default = cs[q] := by simp [List.getD, List.getElem?_eq_getElem hq]
  simp only [Int.toNat_natCast, hgd] at ht2 hu hne
  generalize cs[q] = x at d0 d1 d2 d3 ht2 hu hne
  obtain ⟨u, tu, nn, nx⟩ := x
  simp only at d0 d1 d2 d3 ht2 hu hne
  have k1 : decide ((q : Int) < 0) = false := by simp
  have k2 : decide ((m : Int) ≤ (q : Int)) = false := by simp; omega
  have k3 : decide (t < 1) = false := by simp; omega
  clear hm hp2 hcells hgd
  have k4 : decide ((tu : Int) < t) = false := by simp; omega
  subst hu
  have k5 : ((tu : Int) != t) = true := by simpa using hne
  clear hne

  go_enter Try.func54, Try.ntmps54
  go_wp2_with fail
  go_quiet (fail)
  go_wp2_with fail
  go_quiet (fail)
  go_wp2_with fail
  go_quiet (fail)
  go_wp2
  go_ret2
  exact ⟨rfl, (by repeat (first | exact Below.refl _ _ | assumption | refine below_step ?_ (by assumption) | refine below_step ?_ (Joins.below_draws _ _ _) | (refine Below.alloc ?_ (by first | omega | (simp; done) | (simp; omega)) _) | (refine Below.setCell ?_ (by first | omega | (simp; done) | (simp; omega)) _) | refine Below.drew ?_))⟩
set_option maxHeartbeats 400000 in
set_option maxRecDepth 100000 in
theorem cell_good (B b : Nat) (cs : List Cl) (f c : Int) (q t : Nat) (w : World) (h : ArenaAt B b cs f c w) (hB : B ≤ w.heap.size) (hl : cs.length ≤ 2000) (hq : q < cs.length) (ht : 1 ≤ t) (hu : cs[q].used = true) (hne : cs[q].turn = t) :
    Calls Try.prog 54 #[.pointer (some ⟨b, 0, none⟩), .agg #[.int .i64 q, .int .i64 t]] w fun e w' => ∃ g n cap, w.heap[b]? = some (.cells #[.slice (some ⟨g, 0, none⟩) n cap, .int .i64 f, .int .i64 c] 62 (0, 0)) ∧ e = .returned (.tuple #[.pointer (some ⟨g, q * 4, none⟩), .int .i64 0]) ∧ Below w.heap.size w w' := by
  obtain ⟨ao, m, cap, hm, hc1, hc2, c0, c1, c2, fz, hbk, hown, hg⟩ := h.open
  have hlt := h.lt
  have hm2 : m ≤ 2000 := by omega
  have HM := Lib.hid hm
  obtain ⟨g, rfl, hgb, hBg, hglt, fg, hcells⟩ := hg (by omega)
  have HK := Lib.hid hbk
  have hqm : q < m := by omega
  obtain ⟨d0, d1, d2, d3⟩ := hcells q hq
  rw [hu] at d0
  rw [hne] at d1
  clear h hown hbk hg hcells hm hu hne
  have k1 : decide ((q : Int) < 0) = false := by simp
  have k2 : decide ((m : Int) ≤ (q : Int)) = false := by simp; omega
  have k3 : decide ((t : Int) < 1) = false := by simp; omega
  have k4 : decide ((t : Int) < t) = false := by simp
  have k5 : ((t : Int) != t) = false := by simp
  go_enter Try.func54, Try.ntmps54
  go_wp2_with fail
  go_quiet (fail)
  go_wp2_with fail
  go_quiet (fail)
  go_wp2_with fail
  go_quiet (fail)
  go_wp2
  go_ret2
  exact ⟨g, m, cap, HK.out, rfl, (by repeat (first | exact Below.refl _ _ | assumption | refine below_step ?_ (by assumption) | refine below_step ?_ (Joins.below_draws _ _ _) | (refine Below.alloc ?_ (by first | omega | (simp; done) | (simp; omega)) _) | (refine Below.setCell ?_ (by first | omega | (simp; done) | (simp; omega)) _) | refine Below.drew ?_))⟩
end Go.Proofs.Ytciomaeieggbiaa
