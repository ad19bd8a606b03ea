/-
  The least bounds that come of a matrix's own, in plain Lean: a matrix that is tightened in rounds comes to the same as one that is tightened in place, point by point.
-/
import Derived.Test.YtldbgbcabenegaaFwA
namespace Go.Proofs.Ytldbgbcabenegaa
open Go Go.RowKit
set_option linter.unusedVariables false
set_option linter.unusedSimpArgs false

def cellT (k i : Nat) (s : Mx × Bool) (j : Nat) : Mx × Bool :=
  if s.1 i k = NOB ∨ s.1 k j = NOB then s else if wrap64 (s.1 i k + s.1 k j) < s.1 i j then (setB s.1 i j (wrap64 (s.1 i k + s.1 k j)), true) else s
def stepT (n i : Nat) (s : Mx × Bool) (k : Nat) : Mx × Bool := (List.range n).foldl (cellT k i) s
def rowT (n : Nat) (s : Mx × Bool) (i : Nat) : Mx × Bool := (List.range n).foldl (stepT n i) s
def passT (n : Nat) (g : Mx) : Mx × Bool := (List.range n).foldl (rowT n) (g, false)
def negB (n : Nat) (g : Mx) : Bool := (List.range n).any fun i => decide (g i i < 0)
def tight (n : Nat) : Nat → Mx → Option Mx
  | 0, g => some g
  | r + 1, g => if negB n (passT n g).1 = true then none else if (passT n g).2 = true then tight n r (passT n g).1 else some (passT n g).1

theorem cellT_le (k i : Nat) (s : Mx × Bool) (j : Nat) : LeM (cellT k i s j).1 s.1 := by
  unfold cellT
  split
  · exact LeM.refl _
  · split
    · rename_i h; exact setB_le (by omega)
    · exact LeM.refl _
theorem stepT_le (n i : Nat) (s : Mx × Bool) (k : Nat) : LeM (stepT n i s k).1 s.1 := fold_inv _ (fun _ t => LeM t.1 s.1) n s (LeM.refl _) fun j t _ h => (cellT_le k i t j).trans h
theorem rowT_le (n : Nat) (s : Mx × Bool) (i : Nat) : LeM (rowT n s i).1 s.1 := fold_inv _ (fun _ t => LeM t.1 s.1) n s (LeM.refl _) fun k t _ h => (stepT_le n i t k).trans h
theorem passT_le (n : Nat) (g : Mx) : LeM (passT n g).1 g := fold_inv _ (fun _ t => LeM t.1 g) n (g, false) (LeM.refl _) fun i t _ h => (rowT_le n t i).trans h

/-- One step of a row, where no number overflows: at least as far down as the layer. -/
theorem stepT_low {I : Mx × Bool → Prop} {n i k : Nat} (hi : i < n) (hk : k < n) (D : Mx)
    (hI : ∀ t j, j < n → I t → I (cellT k i t j)) (hw : ∀ t j, j < n → I t → t.1 i k ≠ NOB → t.1 k j ≠ NOB → wrap64 (t.1 i k + t.1 k j) = t.1 i k + t.1 k j)
    (hN : ∀ t, I t → ∀ b, b < n → t.1 i b ≤ NOB) (s : Mx × Bool) (hs : I s) (hDN : ∀ b, b < n → D i b ≤ NOB ∧ D k b ≤ NOB) (h1 : ∀ b, b < n → s.1 i b ≤ D i b) (h2 : ∀ b, b < n → s.1 k b ≤ D k b) :
    I (stepT n i s k) ∧ ∀ b, b < n → (stepT n i s k).1 i b ≤ lyr D k i b := by
  have H := fold_inv (cellT k i) (fun j t => I t ∧ LeM t.1 s.1 ∧ ∀ b, b < j → b < n → t.1 i b ≤ smB (D i k) (D k b)) n s ⟨hs, LeM.refl _, fun b hb => absurd hb (Nat.not_lt_zero b)⟩ (fun j t hj ht => by
    obtain ⟨a1, a2, a3⟩ := ht
    have c1 := hI t j hj a1
    have c2 := cellT_le k i t j
    refine ⟨c1, c2.trans a2, fun b hb hbn => ?_⟩
    by_cases e : b = j
    · subst e
      unfold smB
      split
      · exact hN _ c1 b hbn
      · rename_i hnn
        have n1 : D i k ≠ NOB := fun h => hnn (Or.inl h)
        have n2 : D k b ≠ NOB := fun h => hnn (Or.inr h)
        have l1 : t.1 i k ≤ D i k := Int.le_trans (a2 i k) (h1 k hk)
        have l2 : t.1 k b ≤ D k b := Int.le_trans (a2 k b) (h2 b hbn)
        have m1 := (hDN k hk).1
        have m2 := (hDN b hbn).2
        have f1 : t.1 i k ≠ NOB := fun h => by rw [h] at l1; omega
        have f2 : t.1 k b ≠ NOB := fun h => by rw [h] at l2; omega
        have w := hw t b hj a1 f1 f2
        unfold cellT
        rw [if_neg (by intro h; rcases h with h | h; exact f1 h; exact f2 h), w]
        split
        · show setB t.1 i b _ i b ≤ _
          unfold setB
          rw [if_pos ⟨rfl, rfl⟩]; omega
        · rename_i hh
          show t.1 i b ≤ _
          omega
    · exact Int.le_trans (c2 i b) (a3 b (by omega) hbn))
  obtain ⟨b1, b2, b3⟩ := H
  refine ⟨b1, fun b hb => ?_⟩
  unfold lyr
  exact Int.le_min.2 ⟨Int.le_trans (b2 i b) (h1 b hb), b3 b hb hb⟩

theorem Fs_no {n : Nat} {g : Mx} (hg : RB n 0 g) (k a b : Nat) (ha : a < n) (hb : b < n) : Fs g k a b ≤ NOB :=
  Int.le_trans (Fs_anti g 0 k (Nat.zero_le _) a b) ((hg.rg (by omega)) a b ha hb).2

/-- A row, where no number overflows: m of the rows are known to be as far down as their layers. -/
theorem rowT_low {I : Mx × Bool → Prop} {n i m : Nat} (hi : i < n) (hm : m ≤ n) {g : Mx} (hg : RB n 0 g)
    (hI : ∀ i k t j, i < n → k < n → j < n → I t → I (cellT k i t j)) (hw : ∀ i k t j, i < n → k < n → j < n → I t → t.1 i k ≠ NOB → t.1 k j ≠ NOB → wrap64 (t.1 i k + t.1 k j) = t.1 i k + t.1 k j)
    (hN : ∀ t, I t → ∀ a b, a < n → b < n → t.1 a b ≤ NOB) (s : Mx × Bool) (hs : I s) (h0 : ∀ b, b < n → s.1 i b ≤ g i b) (hr : ∀ x, x < m → ∀ b, b < n → s.1 x b ≤ Fs g x x b) :
    I (rowT n s i) ∧ ∀ b, b < n → (rowT n s i).1 i b ≤ Fs g m i b := by
  have H := fold_inv (stepT n i) (fun k t => I t ∧ LeM t.1 s.1 ∧ ∀ b, b < n → t.1 i b ≤ Fs g (min k m) i b) n s ⟨hs, LeM.refl _, fun b hb => by rw [Nat.zero_min]; exact h0 b hb⟩ (fun k t hk ht => by
    obtain ⟨a1, a2, a3⟩ := ht
    by_cases e : k < m
    · rw [Nat.min_eq_left (by omega)] at a3
      rw [Nat.min_eq_left (by omega)]
      have := stepT_low hi hk (Fs g k) (fun t j hj h => hI i k t j hi hk hj h) (fun t j hj h => hw i k t j hi hk hj h) (fun t h b hb => hN t h i b hi hb) t a1 (fun b hb => ⟨Fs_no hg k i b hi hb, Fs_no hg k k b hk hb⟩) a3 (fun b hb => Int.le_trans (a2 k b) (hr k e b hb))
      exact ⟨this.1, (stepT_le n i t k).trans a2, this.2⟩
    · rw [Nat.min_eq_right (by omega)] at a3
      rw [Nat.min_eq_right (by omega)]
      have c := fold_inv (cellT k i) (fun _ t => I t) n t a1 (fun j t hj h => hI i k t j hi hk hj h)
      exact ⟨c, (stepT_le n i t k).trans a2, fun b hb => Int.le_trans (stepT_le n i t k i b) (a3 b hb)⟩)
  obtain ⟨b1, b2, b3⟩ := H
  rw [Nat.min_eq_right hm] at b3
  exact ⟨b1, b3⟩

/-- Between what it comes to and no bound at all. -/
def Btw (n : Nat) (F : Mx) (s : Mx × Bool) : Prop := ∀ a b, a < n → b < n → F a b ≤ s.1 a b ∧ s.1 a b ≤ NOB
structure Shut (n : Nat) (F : Mx) : Prop where
  tri : Tri n n F
  diag : ∀ i, i < n → F i i = 0
  low : ∀ a b, a < n → b < n → F a b = NOB ∨ (-8796093022208 ≤ F a b ∧ F a b ≤ 8796093022208)
theorem Btw.sum {n : Nat} {F : Mx} (hF : Shut n F) {s : Mx × Bool} (h : Btw n F s) {i k j : Nat} (hi : i < n) (hk : k < n) (hj : j < n) (f1 : s.1 i k ≠ NOB) (f2 : s.1 k j ≠ NOB) :
    wrap64 (s.1 i k + s.1 k j) = s.1 i k + s.1 k j ∧ F i j ≤ s.1 i k + s.1 k j := by
  obtain ⟨a1, a2⟩ := h i k hi hk
  obtain ⟨b1, b2⟩ := h k j hk hj
  have g1 : F i k ≠ NOB := fun e => by rw [e] at a1; omega
  have g2 : F k j ≠ NOB := fun e => by rw [e] at b1; omega
  have l1 := (hF.low i k hi hk).resolve_left g1
  have l2 := (hF.low k j hk hj).resolve_left g2
  have tr := smB_le (hF.tri k hk i j hi hj) g1 g2
  unfold NOB at *
  exact ⟨IntWalk.wrap64_in _ (by omega), by omega⟩
theorem Btw.cell {n : Nat} {F : Mx} (hF : Shut n F) {s : Mx × Bool} (h : Btw n F s) {i k j : Nat} (hi : i < n) (hk : k < n) (hj : j < n) : Btw n F (cellT k i s j) := by
  unfold cellT
  split
  · exact h
  · rename_i hnn
    have S := h.sum hF hi hk hj (fun e => hnn (Or.inl e)) (fun e => hnn (Or.inr e))
    rw [S.1]
    split
    · rename_i hl
      intro a b ha hb
      have hab := h a b ha hb
      have hij := h i j hi hj
      show F a b ≤ setB s.1 i j _ a b ∧ setB s.1 i j _ a b ≤ NOB
      unfold setB
      split
      · rename_i e; obtain ⟨rfl, rfl⟩ := e
        exact ⟨S.2, by omega⟩
      · exact hab
    · exact h
theorem shut_Fs {n : Nat} {g : Mx} (hn : n ≤ 12) (hg : RB n 0 g) (hG : Good g n) : Shut n (Fs g n) :=
  ⟨Fs_tri hn hg n (Nat.le_refl _) hG, Fs_diag hn hg n (Nat.le_refl _) hG, fun a b ha hb => by
    have hp := pow_le12 hn
    rcases Fs_bound hg n (Nat.le_refl _) a b ha hb with e | e
    · exact Or.inl e
    · right; omega⟩
theorem pass_one {n : Nat} {g : Mx} (hn : n ≤ 12) (hg : RB n 0 g) (hG : Good g n) : Btw n (Fs g n) (passT n g) ∧ ∀ x, x < n → ∀ b, b < n → (passT n g).1 x b ≤ Fs g x x b := by
  have hF := shut_Fs hn hg hG
  have H := fold_inv (rowT n) (fun i s => Btw n (Fs g n) s ∧ LeM s.1 g ∧ ∀ x, x < i → ∀ b, b < n → s.1 x b ≤ Fs g x x b) n (g, false)
    ⟨fun a b ha hb => ⟨Fs_anti g 0 n (Nat.zero_le _) a b, Fs_no hg 0 a b ha hb⟩, LeM.refl _, fun x hx => absurd hx (Nat.not_lt_zero x)⟩ (fun i s hi hs => by
      obtain ⟨a1, a2, a3⟩ := hs
      have R := rowT_low (I := Btw n (Fs g n)) hi (m := i) (by omega) hg (fun i k t j hi hk hj h => h.cell hF hi hk hj) (fun i k t j hi hk hj h f1 f2 => (h.sum hF hi hk hj f1 f2).1) (fun t h a b ha hb => (h a b ha hb).2) s a1 (fun b hb => a2 i b) a3
      refine ⟨R.1, (rowT_le n s i).trans a2, fun x hx b hb => ?_⟩
      by_cases e : x = i
      · rw [e]; exact R.2 b hb
      · exact Int.le_trans (rowT_le n s i x b) (a3 x (by omega) b hb))
  exact ⟨H.1, H.2.2⟩
theorem pass_two {n : Nat} {g d : Mx} (hn : n ≤ 12) (hg : RB n 0 g) (hG : Good g n) (hd : Btw n (Fs g n) (d, false)) (hdg : LeM d g) (h1 : ∀ x, x < n → ∀ b, b < n → d x b ≤ Fs g x x b) :
    ∀ a b, a < n → b < n → (passT n d).1 a b = Fs g n a b := by
  have hF := shut_Fs hn hg hG
  have H := fold_inv (rowT n) (fun i s => Btw n (Fs g n) s ∧ LeM s.1 d ∧ ∀ x, x < i → ∀ b, b < n → s.1 x b ≤ Fs g n x b) n (d, false)
    ⟨hd, LeM.refl _, fun x hx => absurd hx (Nat.not_lt_zero x)⟩ (fun i s hi hs => by
      obtain ⟨a1, a2, a3⟩ := hs
      have R := rowT_low (I := Btw n (Fs g n)) hi (m := n) (Nat.le_refl _) hg (fun i k t j hi hk hj h => h.cell hF hi hk hj) (fun i k t j hi hk hj h f1 f2 => (h.sum hF hi hk hj f1 f2).1) (fun t h a b ha hb => (h a b ha hb).2) s a1 (fun b hb => Int.le_trans (a2 i b) (hdg i b)) (fun x hx b hb => Int.le_trans (a2 x b) (h1 x hx b hb))
      refine ⟨R.1, (rowT_le n s i).trans a2, fun x hx b hb => ?_⟩
      by_cases e : x = i
      · rw [e]; exact R.2 b hb
      · exact Int.le_trans (rowT_le n s i x b) (a3 x (by omega) b hb))
  intro a b ha hb
  have h2 := H.2.2 a ha b hb
  have h3 := (H.1 a b ha hb).1
  exact Int.le_antisymm h2 h3
/-- What is shut stays as it is. -/
theorem pass_still {n : Nat} {F d : Mx} (hF : Shut n F) (hd : ∀ a b, a < n → b < n → d a b = F a b) : passT n d = (d, false) := by
  have hN : ∀ a b, a < n → b < n → F a b ≤ NOB := fun a b ha hb => by
    rcases hF.low a b ha hb with e | e
    · rw [e]; exact Int.le_refl _
    · unfold NOB; omega
  have hB : Btw n F (d, false) := fun a b ha hb => by rw [show (d, false).1 a b = d a b from rfl, hd a b ha hb]; exact ⟨Int.le_refl _, hN a b ha hb⟩
  refine fold_inv (rowT n) (fun _ s => s = (d, false)) n (d, false) rfl (fun i s hi hs => ?_)
  subst hs
  refine fold_inv (stepT n i) (fun _ s => s = (d, false)) n (d, false) rfl (fun k s hk hs => ?_)
  subst hs
  refine fold_inv (cellT k i) (fun _ s => s = (d, false)) n (d, false) rfl (fun j s hj hs => ?_)
  subst hs
  unfold cellT
  split
  · rfl
  · rename_i hnn
    have S := hB.sum hF hi hk hj (fun e => hnn (Or.inl e)) (fun e => hnn (Or.inr e))
    rw [S.1, if_neg]
    have := hd i j hi hj
    have := S.2
    show ¬ (_ < d i j)
    omega
/-- A pass that changed nothing. -/
theorem pass_flag (n : Nat) (g : Mx) (h : (passT n g).2 = false) : (passT n g).1 = g := by
  have H := fold_inv (rowT n) (fun _ s => s.2 = false → s.1 = g) n (g, false) (fun _ => rfl) (fun i s _ hs => by
    refine fold_inv (stepT n i) (fun _ s => s.2 = false → s.1 = g) n s hs (fun k s _ hs => ?_)
    refine fold_inv (cellT k i) (fun _ s => s.2 = false → s.1 = g) n s hs (fun j s _ hs => ?_)
    unfold cellT
    split
    · exact hs
    · split
      · intro h; exact absurd (show true = false from h) (by decide)
      · exact hs)
  exact H h
theorem negB_not {n : Nat} {F : Mx} (hF : Shut n F) {s : Mx × Bool} (h : Btw n F s) : negB n s.1 = false := by
  unfold negB
  rw [List.any_eq_false]
  intro i hi
  have hi := List.mem_range.1 hi
  have h1 := (h i i hi hi).1
  rw [hF.diag i hi] at h1
  simp; omega
theorem tight_good {n : Nat} {g : Mx} (hn : n ≤ 12) (hg : RB n 0 g) (hG : Good g n) : ∃ d, tight n (n + 1) g = some d ∧ ∀ a b, a < n → b < n → d a b = Fs g n a b := by
  have hF := shut_Fs hn hg hG
  obtain ⟨p1, p2⟩ := pass_one hn hg hG
  have pf : Btw n (Fs g n) ((passT n g).1, false) := p1
  have P2 := pass_two hn hg hG pf (passT_le n g) p2
  have B2 : Btw n (Fs g n) (passT n (passT n g).1) := fun a b ha hb => by rw [P2 a b ha hb]; exact ⟨Int.le_refl _, Fs_no hg n a b ha hb⟩
  unfold tight
  rw [if_neg (by rw [negB_not hF p1]; decide)]
  by_cases c1 : (passT n g).2 = true
  · rw [if_pos c1]
    cases n with
    | zero => exact ⟨_, rfl, fun a b ha => absurd ha (Nat.not_lt_zero a)⟩
    | succ n =>
      unfold tight
      rw [if_neg (by rw [negB_not hF B2]; decide)]
      by_cases c2 : (passT (n + 1) (passT (n + 1) g).1).2 = true
      · rw [if_pos c2]
        cases n with
        | zero => exact ⟨_, rfl, P2⟩
        | succ n =>
          have P3 := pass_still hF P2
          unfold tight
          rw [P3]
          rw [if_neg (by rw [show (((passT (n + 1 + 1) (passT (n + 1 + 1) g).1).1, false) : Mx × Bool).1 = (passT (n + 1 + 1) (passT (n + 1 + 1) g).1).1 from rfl, negB_not hF B2]; decide)]
          exact ⟨_, rfl, P2⟩
      · rw [if_neg c2]
        exact ⟨_, rfl, P2⟩
  · rw [if_neg c1]
    have e := pass_flag n g (by simpa using c1)
    rw [e] at P2 ⊢
    rw [e] at P2
    exact ⟨_, rfl, P2⟩
end Go.Proofs.Ytldbgbcabenegaa
