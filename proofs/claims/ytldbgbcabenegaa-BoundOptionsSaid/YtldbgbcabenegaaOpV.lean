/-
  An option's bounds in plain Lean: tightened in rounds, with the points of the two spans exchanged or not, they are the ones that are closed in place.
-/
import Derived.Test.YtldbgbcabenegaaOpO
import Derived.Test.YtldbgbcabenegaaFwT
namespace Go.Proofs.Ytldbgbcabenegaa
open Go.RowKit
set_option linter.unusedVariables false
set_option linter.unusedSimpArgs false

/-- The points of the reference's matrix. -/
def sgR (r : Int) (a : Nat) : Nat := if backR r = true then sw a else a
theorem Turned.less {σ : Nat → Nat} {g g' : Mx} (h : Turned 4 σ g g') {x y : Nat} (hx : x < 4) (hy : y < 4) (n : Int) : Turned 4 σ (lessG g x y n) (lessG g' (σ x) (σ y) n) := by
  refine ⟨h.lt, h.twice, fun a b ha hb => ?_⟩
  unfold lessG setB
  have e : (σ a = σ x ∧ σ b = σ y) ↔ (a = x ∧ b = y) := by
    constructor
    · rintro ⟨e1, e2⟩
      exact ⟨by rw [← h.twice a ha, e1, h.twice x hx], by rw [← h.twice b hb, e2, h.twice y hy]⟩
    · rintro ⟨rfl, rfl⟩; exact ⟨rfl, rfl⟩
  simp only [e, h.same x y hx hy, h.same a b ha hb]
theorem Turned.far {σ : Nat → Nat} {g g' : Mx} (h : Turned 4 σ g g') {x y : Nat} (hx : x < 4) (hy : y < 4) (lo hi : Int) : Turned 4 σ (farG g x y lo hi) (farG g' (σ x) (σ y) lo hi) := by
  unfold farG
  have hl := h.less hx hy lo
  split
  · refine ⟨h.lt, h.twice, fun a b ha hb => ?_⟩
    unfold setB
    have e : (σ a = σ y ∧ σ b = σ x) ↔ (a = y ∧ b = x) := by
      constructor
      · rintro ⟨e1, e2⟩
        exact ⟨by rw [← h.twice a ha, e1, h.twice y hy], by rw [← h.twice b hb, e2, h.twice x hx]⟩
      · rintro ⟨rfl, rfl⟩; exact ⟨rfl, rfl⟩
    simp only [e, hl.same y x hy hx, hl.same a b ha hb]
  · exact hl
theorem turned_free : Turned 4 sw freeG freeG := ⟨fun a _ => sw_lt a, fun a ha => sw_sw ha, fun a b ha hb => by
  unfold freeG
  have : sw a = sw b ↔ a = b := ⟨fun e => by rw [← sw_sw ha, e, sw_sw hb], fun e => by rw [e]⟩
  simp only [this]⟩
theorem straight_free : Turned 4 id freeG freeG := ⟨fun a h => h, fun a ha => rfl, fun a b ha hb => rfl⟩
theorem Turned.grid {σ : Nat → Nat} {g g' : Mx} (h : Turned 4 σ g g') : Turned 4 σ g (at2 (gridL 4 g')) := ⟨h.lt, h.twice, fun a b ha hb => by
  rw [← h.same a b ha hb]
  have h1 := h.lt a ha
  have h2 := h.lt b hb
  simp [at2, gridL, List.getD, List.getElem?_eq_getElem, h1, h2]⟩

/-- Numbers that a matrix may hold here, its diagonal 0. -/
def Okay (g : Mx) : Prop := RB 4 0 g ∧ ∀ x, x < 4 → g x x = 0
theorem okay_free : Okay freeG := ⟨fun a b _ _ => by unfold freeG; split; (right; omega); (left; rfl), fun x _ => by unfold freeG; rw [if_pos rfl]⟩
theorem Okay.set {g : Mx} (h : Okay g) {x y : Nat} (hxy : x ≠ y) {v : Int} (hv : -2147483648 ≤ v ∧ v ≤ 2147483648) (hx : x < 4) (hy : y < 4) : Okay (setB g x y (min (g x y) v)) := by
  refine ⟨fun a b ha hb => ?_, fun a ha => ?_⟩
  · unfold setB
    split
    · right
      rcases h.1 x y hx hy with e | e
      · rw [e]
        have : min NOB v = v := Int.min_eq_right (by unfold NOB; omega)
        rw [this]; omega
      · rcases Int.le_total (g x y) v with h' | h'
        · rw [Int.min_eq_left h']; exact e
        · rw [Int.min_eq_right h']; omega
    · exact h.1 a b ha hb
  · unfold setB
    rw [if_neg (fun e => hxy (by rw [← e.1, ← e.2]))]
    exact h.2 a ha
theorem Okay.less {g : Mx} (h : Okay g) {x y : Nat} (hxy : x ≠ y) {n : Int} (hv : 0 ≤ n ∧ n ≤ 1073741824) (hx : x < 4) (hy : y < 4) : Okay (lessG g x y n) := h.set hxy (by omega) hx hy
theorem Okay.far {g : Mx} (h : Okay g) {x y : Nat} (hxy : x ≠ y) {lo hi : Int} (hl : 0 ≤ lo ∧ lo ≤ 1073741824) (hh : -1 ≤ hi ∧ hi ≤ 1073741824) (hx : x < 4) (hy : y < 4) : Okay (farG g x y lo hi) := by
  unfold farG
  split
  · exact (h.less hxy hl hx hy).set (Ne.symm hxy) (by omega) hy hx
  · exact h.less hxy hl hx hy
theorem Okay.same {g : Mx} (h : Okay g) {x y : Nat} (hxy : x ≠ y) (hx : x < 4) (hy : y < 4) : Okay (sameG g x y) := (h.less hxy (by omega) hx hy).less (Ne.symm hxy) (by omega) hy hx
theorem okay_shape (r : Int) : Okay (shapeG baseG r) := by
  have hb : Okay baseG := (okay_free.less (by decide) (by omega) (by omega) (by omega)).less (by decide) (by omega) (by omega) (by omega)
  unfold shapeG
  split
  · exact hb.less (by decide) (by omega) (by omega) (by omega)
  split
  · exact ((hb.same (by decide) (by omega) (by omega)).less (by decide) (by omega) (by omega) (by omega)).less (by decide) (by omega) (by omega) (by omega)
  split
  · exact ((hb.less (by decide) (by omega) (by omega) (by omega)).less (by decide) (by omega) (by omega) (by omega)).less (by decide) (by omega) (by omega) (by omega)
  split
  · exact (hb.same (by decide) (by omega) (by omega)).less (by decide) (by omega) (by omega) (by omega)
  split
  · exact (hb.less (by decide) (by omega) (by omega) (by omega)).less (by decide) (by omega) (by omega) (by omega)
  split
  · exact (hb.less (by decide) (by omega) (by omega) (by omega)).same (by decide) (by omega) (by omega)
  · exact (hb.same (by decide) (by omega) (by omega)).same (by decide) (by omega) (by omega)
theorem shape_apart (r : Int) : shapeX r ≠ shapeY r := by
  unfold shapeX shapeY
  by_cases h1 : r = 1; · simp [h1]
  by_cases h3 : r = 3; · simp [h3]
  by_cases h5 : r = 5; · simp [h5]
  by_cases h7 : r = 7; · simp [h7]
  by_cases h9 : r = 9; · simp [h9]
  by_cases h11 : r = 11; · simp [h11]
  simp [h1, h3, h5, h7, h9, h11]
theorem okay_mid (r : Int) {lo hi : Int} (hl : 0 ≤ lo ∧ lo ≤ 1073741824) (hh : -1 ≤ hi ∧ hi ≤ 1073741824) : Okay (midG r lo hi) :=
  (okay_shape _).far (shape_apart _) hl hh (shapeX_lt _) (shapeY_lt _)
theorem Turned.okay {σ : Nat → Nat} {g g' : Mx} (h : Turned 4 σ g g') (ho : Okay g) : Okay g' := by
  refine ⟨fun a b ha hb => ?_, fun x hx => ?_⟩
  · have := h.back.same a b ha hb
    rw [← this]
    exact ho.1 _ _ (h.lt a ha) (h.lt b hb)
  · rw [← h.back.same x x hx hx]
    exact ho.2 _ (h.lt x hx)

/-- The reference's matrix, tightened in rounds. -/
theorem opt_tight {r lo hi : Int} {G : Mx} (hl : 0 ≤ lo ∧ lo ≤ 1073741824) (hh : -1 ≤ hi ∧ hi ≤ 1073741824) (σ : Nat → Nat) (hσ : ∀ a, a < 4 → σ a = sgR r a) (hT : Turned 4 σ (midG r lo hi) G) :
    (tight 4 5 (at2 (gridL 4 G)) = none ∧ optL r lo hi = none) ∨ (∃ d, tight 4 5 (at2 (gridL 4 G)) = some d ∧ optL r lo hi = some (gridL 4 d)) := by
  have hO := okay_mid r hl hh
  have hT2 := hT.grid
  have hO2 := hT2.okay hO
  obtain ⟨s1, s2⟩ := turned_same hT2 (by omega) hO.1 hO2.1 hO.2 hO2.2
  rcases close_same (n := 4) (by omega) hO2.1 hO2.2 with ⟨c1, d, c2, c3⟩ | ⟨c1, c2⟩
  · right
    refine ⟨d, c2, ?_⟩
    have hok := s1.2 c1
    have key : ∀ a b, a < 4 → b < 4 → optG r lo hi a b = d a b := fun a b ha hb => by
      have := s2 hok (σ a) (σ b) (hT.lt a ha) (hT.lt b hb)
      rw [hT.twice a ha, hT.twice b hb] at this
      rw [c3 a b ha hb, this]
      unfold optG
      rw [hσ a ha, hσ b hb]
      unfold sgR
      split <;> rfl
    unfold optL
    rw [if_pos (okb_iff.2 hok), gridL_congr key]
  · left
    refine ⟨c2, ?_⟩
    unfold optL
    rw [if_neg fun e => c1 (s1.1 (okb_iff.1 e))]
end Go.Proofs.Ytldbgbcabenegaa
