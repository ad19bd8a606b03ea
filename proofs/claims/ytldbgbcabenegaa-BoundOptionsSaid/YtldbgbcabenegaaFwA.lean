/-
  The least bounds that come of a matrix's own, in plain Lean: a matrix that is tightened in place, point by point.
-/
import Derived.IntWalk
namespace Go.Proofs.Ytldbgbcabenegaa
open Go Go.RowKit
set_option linter.unusedVariables false
set_option linter.unusedSimpArgs false

theorem fold_inv {σ : Type} (f : σ → Nat → σ) (P : Nat → σ → Prop) (n : Nat) (s : σ) (h0 : P 0 s) (hs : ∀ k t, k < n → P k t → P (k + 1) (f t k)) : P n ((List.range n).foldl f s) := by
  induction n with
  | zero => exact h0
  | succ n ih =>
    rw [List.range_succ, List.foldl_append]
    exact hs n _ (Nat.lt_succ_self n) (ih (fun k t hk => hs k t (by omega)))

/-- No bound. -/
def NOB : Int := 1152921504606846976
def stB (a b : Int) : Int := if a = NOB ∨ b = NOB then NOB else wrap64 (a + b)
def smB (a b : Int) : Int := if a = NOB ∨ b = NOB then NOB else a + b
abbrev Mx := Nat → Nat → Int
def setB (g : Mx) (i j : Nat) (v : Int) : Mx := fun r c => if r = i ∧ c = j then v else g r c
def cellF (k i : Nat) (g : Mx) (j : Nat) : Mx := setB g i j (min (g i j) (stB (g i k) (g k j)))
def rowF (n k : Nat) (g : Mx) (i : Nat) : Mx := (List.range n).foldl (cellF k i) g
def layF (n : Nat) (g : Mx) (k : Nat) : Mx := (List.range n).foldl (rowF n k) g
def shutF (n : Nat) (g : Mx) : Mx := (List.range n).foldl (layF n) g
def okB (n : Nat) (g : Mx) : Prop := ∀ i, i < n → 0 ≤ g i i
def LeM (a b : Mx) : Prop := ∀ r c, a r c ≤ b r c
theorem LeM.refl (a : Mx) : LeM a a := fun _ _ => Int.le_refl _
theorem LeM.trans {a b c : Mx} (h : LeM a b) (k : LeM b c) : LeM a c := fun r s => Int.le_trans (h r s) (k r s)
theorem setB_le {g : Mx} {i j : Nat} {v : Int} (h : v ≤ g i j) : LeM (setB g i j v) g := fun r c => by
  unfold setB
  split
  · rename_i e; obtain ⟨rfl, rfl⟩ := e; exact h
  · exact Int.le_refl _
theorem cellF_le (k i : Nat) (g : Mx) (j : Nat) : LeM (cellF k i g j) g := setB_le (Int.min_le_left _ _)
theorem rowF_le (n k : Nat) (g : Mx) (i : Nat) : LeM (rowF n k g i) g := fold_inv _ (fun _ t => LeM t g) n g (LeM.refl _) fun j t _ h => (cellF_le k i t j).trans h
theorem layF_le (n : Nat) (g : Mx) (k : Nat) : LeM (layF n g k) g := fold_inv _ (fun _ t => LeM t g) n g (LeM.refl _) fun i t _ h => (rowF_le n k t i).trans h
theorem shut_le (n : Nat) (g : Mx) : ∀ k, k ≤ n → LeM (shutF n g) ((List.range k).foldl (layF n) g) := by
  have key : ∀ m k, k ≤ m → LeM ((List.range m).foldl (layF n) g) ((List.range k).foldl (layF n) g) := fun m => by
    induction m with
    | zero => intro k hk; obtain rfl : k = 0 := (by omega); exact LeM.refl _
    | succ m ih =>
      intro k hk
      rcases Nat.eq_or_lt_of_le hk with e | e
      · rw [e]; exact LeM.refl _
      · rw [List.range_succ, List.foldl_append]
        exact (layF_le n _ m).trans (ih k (by omega))
  exact key n

theorem smB_zero (x : Int) : smB x 0 = x := by
  unfold smB NOB
  split
  · rename_i h; rcases h with h | h
    · exact h.symm
    · exact absurd h (by decide)
  · omega
theorem zero_smB (x : Int) : smB 0 x = x := by
  unfold smB NOB
  split
  · rename_i h; rcases h with h | h
    · exact absurd h (by decide)
    · exact h.symm
  · omega
/-- One layer, at once. -/
def lyr (g : Mx) (k : Nat) : Mx := fun a b => min (g a b) (smB (g a k) (g k b))
theorem lyr_le (g : Mx) (k : Nat) : LeM (lyr g k) g := fun _ _ => Int.min_le_left _ _
theorem lyr_col {g : Mx} {k : Nat} (h : g k k = 0) (a : Nat) : lyr g k a k = g a k := by unfold lyr; rw [h, smB_zero]; exact Int.min_self _
theorem lyr_row {g : Mx} {k : Nat} (h : g k k = 0) (b : Nat) : lyr g k k b = g k b := by unfold lyr; rw [h, zero_smB]; exact Int.min_self _
/-- Numbers that don't overflow when two are put together. -/
def Rg (n : Nat) (g : Mx) : Prop := ∀ a b, a < n → b < n → -4611686018427387904 ≤ g a b ∧ g a b ≤ NOB
theorem stB_eq {a b : Int} (ha : -4611686018427387904 ≤ a ∧ a ≤ NOB) (hb : -4611686018427387904 ≤ b ∧ b ≤ NOB) : stB a b = smB a b := by
  unfold stB smB
  split
  · rfl
  · unfold NOB at *; exact IntWalk.wrap64_in _ (by omega)

theorem layF_eq {n k : Nat} {g : Mx} (hk : k < n) (h0 : g k k = 0) (hg : Rg n g) : ∀ a b, a < n → b < n → layF n g k a b = lyr g k a b := by
  have H := fold_inv (rowF n k) (fun i s => ∀ a b, a < n → b < n → s a b = if a < i then lyr g k a b else g a b) n g (fun a b _ _ => by rw [if_neg (by omega)]) (fun i s hi hs => by
    have Q := fold_inv (cellF k i) (fun j t => ∀ a b, a < n → b < n → t a b = if a < i ∨ (a = i ∧ b < j) then lyr g k a b else g a b) n s (fun a b ha hb => by
      rw [hs a b ha hb]
      by_cases e : a < i
      · rw [if_pos e, if_pos (Or.inl e)]
      · rw [if_neg e, if_neg (by omega)]) (fun j t hj ht => by
      intro a b ha hb
      have e1 : t i k = g i k := by
        rw [ht i k hi hk]
        split
        · exact lyr_col h0 i
        · rfl
      have e2 : t k j = g k j := by
        rw [ht k j hk hj]
        split
        · exact lyr_row h0 j
        · rfl
      have e3 : t i j = g i j := by rw [ht i j hi hj, if_neg (by omega)]
      unfold cellF setB
      by_cases e : a = i ∧ b = j
      · obtain ⟨rfl, rfl⟩ := e
        rw [if_pos ⟨rfl, rfl⟩, if_pos (by omega), e1, e2, e3, stB_eq (hg a k ha hk) (hg k b hk hb)]
        rfl
      · rw [if_neg e, ht a b ha hb]
        by_cases c : a < i ∨ (a = i ∧ b < j)
        · rw [if_pos c, if_pos (by omega)]
        · rw [if_neg c, if_neg (by omega)])
    intro a b ha hb
    show (List.range n).foldl (cellF k i) s a b = _
    rw [Q a b ha hb]
    by_cases e : a < i + 1
    · rw [if_pos e, if_pos (by omega)]
    · rw [if_neg e, if_neg (by omega)])
  intro a b ha hb
  show (List.range n).foldl (rowF n k) g a b = _
  rw [H a b ha hb, if_pos ha]

/-- The matrix behind k layers. -/
def Fs (g : Mx) : Nat → Mx
  | 0 => g
  | k + 1 => lyr (Fs g k) k
/-- Bounds that grow by a factor of two a layer. -/
def RB (n k : Nat) (g : Mx) : Prop := ∀ a b, a < n → b < n → g a b = NOB ∨ (-(2147483648 * 2 ^ k) ≤ g a b ∧ g a b ≤ 2147483648 * 2 ^ k)
theorem pow_le12 {k : Nat} (hk : k ≤ 12) : (2 : Int) ^ k ≤ 4096 := by
  match k, hk with
  | 0, _ | 1, _ | 2, _ | 3, _ | 4, _ | 5, _ | 6, _ | 7, _ | 8, _ | 9, _ | 10, _ | 11, _ | 12, _ => decide
theorem RB.rg {n k : Nat} {g : Mx} (h : RB n k g) (hk : k ≤ 12) : Rg n g := fun a b ha hb => by
  have hp := pow_le12 hk
  rcases h a b ha hb with e | e
  · rw [e]; unfold NOB; omega
  · unfold NOB; omega
theorem Fs_bound {n : Nat} {g : Mx} (hg : RB n 0 g) : ∀ k, k ≤ n → RB n k (Fs g k)
  | 0, _ => hg
  | k + 1, hk => fun a b ha hb => by
    have ih := Fs_bound hg k (by omega)
    have e2 : (2 : Int) ^ (k + 1) = 2 ^ k * 2 := Int.pow_succ ..
    have hpos : (0 : Int) < 2 ^ k := Int.pow_pos (by decide)
    have h1 := ih a b ha hb
    have h2 := ih a k ha (by omega)
    have h3 := ih k b (by omega) hb
    show min (Fs g k a b) (smB (Fs g k a k) (Fs g k k b)) = NOB ∨ _ ≤ min (Fs g k a b) (smB (Fs g k a k) (Fs g k k b)) ∧ min (Fs g k a b) (smB (Fs g k a k) (Fs g k k b)) ≤ _
    rw [e2]
    generalize (2 : Int) ^ k = P at *
    unfold smB
    generalize Fs g k a b = x at *
    generalize Fs g k a k = y at *
    generalize Fs g k k b = z at *
    split
    · rcases h1 with rfl | h1
      · left; exact Int.min_self _
      · rcases Int.le_total x NOB with e | e
        · rw [Int.min_eq_left e]; right; omega
        · rw [Int.min_eq_right e]; left; rfl
    · rename_i hn
      have h2 := h2.resolve_left (fun e => hn (Or.inl e))
      have h3 := h3.resolve_left (fun e => hn (Or.inr e))
      rcases Int.le_total x (y + z) with e | e
      · rw [Int.min_eq_left e]
        rcases h1 with rfl | h1
        · left; rfl
        · right; omega
      · rw [Int.min_eq_right e]; right; omega
/-- The points ahead of k are as near to themselves as they may be. -/
def Good (g : Mx) (k : Nat) : Prop := ∀ x, x < k → Fs g x x x = 0
theorem shut_eq {n : Nat} {g : Mx} (hn : n ≤ 12) (hg : RB n 0 g) : ∀ k, k ≤ n → Good g k → ∀ a b, a < n → b < n → ((List.range k).foldl (layF n) g) a b = Fs g k a b
  | 0, _, _ => fun _ _ _ _ => rfl
  | k + 1, hk, hG => fun a b ha hb => by
    have ih := shut_eq hn hg k (by omega) (fun x hx => hG x (by omega))
    have hRB := (Fs_bound hg k (by omega)).rg (by omega)
    rw [List.range_succ, List.foldl_append]
    show layF n _ k a b = _
    rw [layF_eq (by omega) (by rw [ih k k (by omega) (by omega)]; exact hG k (by omega)) (fun a b ha hb => by rw [ih a b ha hb]; exact hRB a b ha hb) a b ha hb]
    unfold lyr
    rw [ih a b ha hb, ih a k ha (by omega), ih k b (by omega) hb]
    rfl
def Tri (n k : Nat) (D : Mx) : Prop := ∀ m, m < k → ∀ a b, a < n → b < n → D a b ≤ smB (D a m) (D m b)
theorem lyr_cases {g : Mx} {k a b : Nat} (hN : g a b ≤ NOB) : lyr g k a b = g a b ∨ (g a k ≠ NOB ∧ g k b ≠ NOB ∧ lyr g k a b = g a k + g k b) := by
  unfold lyr smB
  split
  · left; exact Int.min_eq_left hN
  · rename_i hn
    rcases Int.le_total (g a b) (g a k + g k b) with e | e
    · left; exact Int.min_eq_left e
    · right; exact ⟨fun h => hn (Or.inl h), fun h => hn (Or.inr h), Int.min_eq_right e⟩
theorem lyr_sum {g : Mx} {k a b : Nat} (h1 : g a k ≠ NOB) (h2 : g k b ≠ NOB) : lyr g k a b ≤ g a k + g k b := by
  unfold lyr smB
  rw [if_neg (by intro h; rcases h with h | h; exact h1 h; exact h2 h)]
  exact Int.min_le_right _ _
theorem smB_le {x a b : Int} (h : x ≤ smB a b) (ha : a ≠ NOB) (hb : b ≠ NOB) : x ≤ a + b := by
  unfold smB at h
  rwa [if_neg (by intro h; rcases h with h | h; exact ha h; exact hb h)] at h
theorem Fs_tri {n : Nat} {g : Mx} (hn : n ≤ 12) (hg : RB n 0 g) : ∀ k, k ≤ n → Good g k → Tri n k (Fs g k)
  | 0, _, _ => fun m hm => absurd hm (Nat.not_lt_zero m)
  | k + 1, hk, hG => fun m hm a b ha hb => by
    have ih := Fs_tri hn hg k (by omega) (fun x hx => hG x (by omega))
    have hB := Fs_bound hg k (by omega)
    have hp := pow_le12 (k := k) (by omega)
    have hR := hB.rg (by omega)
    have hk0 : Fs g k k k = 0 := hG k (by omega)
    have hkn : k < n := by omega
    have hmn : m < n := by omega
    show lyr (Fs g k) k a b ≤ smB (lyr (Fs g k) k a m) (lyr (Fs g k) k m b)
    generalize Fs g k = D at *
    have hN := (hR a b ha hb).2
    have hD' : lyr D k a b ≤ D a b := lyr_le D k a b
    by_cases hmk : m = k
    · subst hmk
      rw [lyr_col hk0, lyr_row hk0]
      exact Int.min_le_right _ _
    · have hmk : m < k := by omega
      unfold smB
      split
      · exact Int.le_trans hD' hN
      · rename_i hnn
        have ne1 : lyr D k a m ≠ NOB := fun h => hnn (Or.inl h)
        have ne2 : lyr D k m b ≠ NOB := fun h => hnn (Or.inr h)
        have fin : ∀ {x y : Nat}, x < n → y < n → D x y ≠ NOB → D x y ≤ 2147483648 * 4096 := fun hx hy h => by
          have := (hB _ _ hx hy).resolve_left h
          omega
        rcases lyr_cases (k := k) (hR a m ha hmn).2 with e1 | ⟨f1, f2, e1⟩
        · rcases lyr_cases (k := k) (hR m b hmn hb).2 with e2 | ⟨f3, f4, e2⟩
          · rw [e1] at ne1 ⊢
            rw [e2] at ne2 ⊢
            exact Int.le_trans hD' (smB_le (ih m hmk a b ha hb) ne1 ne2)
          · rw [e1] at ne1 ⊢
            rw [e2]
            have h1 := smB_le (ih m hmk a k ha hkn) ne1 f3
            have h2 := fin ha hmn ne1
            have h3 := fin hmn hkn f3
            have h4 : D a k ≠ NOB := fun h => by rw [h] at h1; unfold NOB at h1; omega
            have h5 := lyr_sum h4 f4
            omega
        · rcases lyr_cases (k := k) (hR m b hmn hb).2 with e2 | ⟨f3, f4, e2⟩
          · rw [e2] at ne2 ⊢
            rw [e1]
            have h1 := smB_le (ih m hmk k b hkn hb) f2 ne2
            have h2 := fin hkn hmn f2
            have h3 := fin hmn hb ne2
            have h4 : D k b ≠ NOB := fun h => by rw [h] at h1; unfold NOB at h1; omega
            have h5 := lyr_sum f1 h4
            omega
          · rw [e1, e2]
            have h1 := smB_le (ih m hmk k k hkn hkn) f2 f3
            rw [hk0] at h1
            have h5 := lyr_sum f1 f4
            omega
theorem Fs_diag {n : Nat} {g : Mx} (hn : n ≤ 12) (hg : RB n 0 g) : ∀ k, k ≤ n → Good g k → ∀ i, i < k → Fs g k i i = 0
  | 0, _, _ => fun i hi => absurd hi (Nat.not_lt_zero i)
  | k + 1, hk, hG => fun i hi => by
    have hk0 : Fs g k k k = 0 := hG k (by omega)
    show lyr (Fs g k) k i i = 0
    by_cases e : i = k
    · subst e; rw [lyr_col hk0]; exact hk0
    · have hik : i < k := by omega
      have ih := Fs_diag hn hg k (by omega) (fun x hx => hG x (by omega)) i hik
      have tr := Fs_tri hn hg k (by omega) (fun x hx => hG x (by omega)) i hik k k (by omega) (by omega)
      unfold lyr smB
      rw [ih]
      split
      · unfold NOB; decide
      · rename_i hnn
        have h := smB_le tr (fun h => hnn (Or.inr h)) (fun h => hnn (Or.inl h))
        rw [hk0] at h
        exact Int.min_eq_left (by omega)
theorem Fs_anti (g : Mx) : ∀ k m, k ≤ m → LeM (Fs g m) (Fs g k) := fun k m h => by
  induction m with
  | zero => obtain rfl : k = 0 := (by omega); exact LeM.refl _
  | succ m ih =>
    rcases Nat.eq_or_lt_of_le h with e | e
    · rw [e]; exact LeM.refl _
    · exact (lyr_le _ m).trans (ih (by omega))
/-- What the tightening in place comes to. -/
theorem shut_good {n : Nat} {g : Mx} (hn : n ≤ 12) (hg : RB n 0 g) (hG : Good g n) : okB n (shutF n g) ∧ ∀ a b, a < n → b < n → shutF n g a b = Fs g n a b := by
  have h := shut_eq hn hg n (Nat.le_refl _) hG
  exact ⟨fun i hi => by show 0 ≤ (List.range n).foldl (layF n) g i i; rw [h i i hi hi, Fs_diag hn hg n (Nat.le_refl _) hG i hi]; exact Int.le_refl _, h⟩
theorem good_or {n : Nat} {g : Mx} (hd : ∀ i, i < n → g i i = 0) : Good g n ∨ ∃ k, k < n ∧ Good g k ∧ Fs g k k k < 0 := by
  have key : ∀ m, m ≤ n → Good g m ∨ ∃ k, k < n ∧ Good g k ∧ Fs g k k k < 0 := fun m => by
    induction m with
    | zero => intro _; left; intro x hx; exact absurd hx (Nat.not_lt_zero x)
    | succ m ih =>
      intro hm
      rcases ih (by omega) with h | h
      · by_cases e : Fs g m m m = 0
        · left; intro x hx
          by_cases ex : x = m
          · rw [ex]; exact e
          · exact h x (by omega)
        · right
          have h1 := Fs_anti g 0 m (Nat.zero_le _) m m
          have h2 : Fs g 0 m m = 0 := hd m (by omega)
          exact ⟨m, by omega, h, by omega⟩
      · right; exact h
  exact key n (Nat.le_refl _)
theorem shut_bad {n k : Nat} {g : Mx} (hn : n ≤ 12) (hg : RB n 0 g) (hk : k < n) (hG : Good g k) (hb : Fs g k k k < 0) : ¬ okB n (shutF n g) := fun h => by
  have h1 := shut_le n g k (by omega) k k
  rw [shut_eq hn hg k (by omega) hG k k hk hk] at h1
  have := h k hk
  omega
end Go.Proofs.Ytldbgbcabenegaa
