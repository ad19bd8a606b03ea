/-
  The least bounds that come of a matrix's own, in plain Lean: where a way comes back below 0, the rounds find it, too.
-/
import Derived.Test.YtldbgbcabenegaaFwB
namespace Go.Proofs.Ytldbgbcabenegaa
open Go Go.RowKit
set_option linter.unusedVariables false
set_option linter.unusedSimpArgs false

def dead (n : Nat) (g : Mx) : Prop := ∃ x, x < n ∧ g x x < 0
theorem dead_le {n : Nat} {a b : Mx} (h : dead n b) (hl : LeM a b) : dead n a := by
  obtain ⟨x, hx, h⟩ := h
  exact ⟨x, hx, by have := hl x x; omega⟩
theorem cellT_other {k i : Nat} {s : Mx × Bool} {j x : Nat} (h : x ≠ i) (b : Nat) : (cellT k i s j).1 x b = s.1 x b := by
  unfold cellT
  split
  · rfl
  · split
    · show setB _ _ _ _ _ _ = _
      unfold setB; rw [if_neg (fun e => h e.1)]
    · rfl

/-- One step of a row where each point is where it is: other rows stay; the row's numbers stay above a bound. -/
theorem stepT_bad {n i k : Nat} (hi : i < n) (hk : k < n) (s : Mx × Bool) (hd : ∀ x, x < n → s.1 x x = 0) (hN : ∀ a b, a < n → b < n → s.1 a b ≤ NOB) (L Q : Int) (hL : 0 ≤ L) (hQ : 0 ≤ Q) (hLQ : L + Q ≤ 1152921504606846976)
    (l1 : ∀ b, b < n → -L ≤ s.1 i b) (l2 : ∀ b, b < n → -Q ≤ s.1 k b) (D : Mx) (hDN : ∀ b, b < n → D i b ≤ NOB ∧ D k b ≤ NOB) (e1 : ∀ b, b < n → s.1 i b ≤ D i b) (e2 : ∀ b, b < n → s.1 k b ≤ D k b) :
    (∀ x b, x ≠ i → (stepT n i s k).1 x b = s.1 x b) ∧ (∀ b, b < n → -(L + Q) ≤ (stepT n i s k).1 i b) ∧ (k = i → ∀ b, b < n → (stepT n i s k).1 i b = s.1 i b) ∧ ∀ b, b < n → (stepT n i s k).1 i b ≤ lyr D k i b := by
  have H := stepT_low (I := fun t => (∀ x b, x ≠ i → t.1 x b = s.1 x b) ∧ t.1 i k = s.1 i k ∧ (∀ b, b < n → -(L + Q) ≤ t.1 i b ∧ t.1 i b ≤ NOB) ∧ (k = i → ∀ b, b < n → t.1 i b = s.1 i b)) hi hk D (fun t j hj ht => by
      obtain ⟨a1, a2, a3, a4⟩ := ht
      by_cases hch : (cellT k i t j) = t
      · rw [hch]; exact ⟨a1, a2, a3, a4⟩
      · have hfin : t.1 i k ≠ NOB ∧ t.1 k j ≠ NOB ∧ wrap64 (t.1 i k + t.1 k j) < t.1 i j := by
          unfold cellT at hch
          by_cases c : t.1 i k = NOB ∨ t.1 k j = NOB
          · rw [if_pos c] at hch; exact absurd rfl hch
          · rw [if_neg c] at hch
            by_cases c2 : wrap64 (t.1 i k + t.1 k j) < t.1 i j
            · exact ⟨fun e => c (Or.inl e), fun e => c (Or.inr e), c2⟩
            · rw [if_neg c2] at hch; exact absurd rfl hch
        obtain ⟨f1, f2, f3⟩ := hfin
        have tik := l1 k hk
        rw [← a2] at tik
        have tikN := (a3 k hk).2
        by_cases hki : k = i
        · exfalso
          subst hki
          have h0 : t.1 k k = 0 := by rw [a2]; exact hd k hk
          have hj2 := a3 j hj
          rw [h0, Int.zero_add, IntWalk.wrap64_in _ (by unfold NOB at hj2; omega)] at f3
          omega
        · have rk : t.1 k j = s.1 k j := a1 k j hki
          have lk := l2 j hj
          have hkN := hN k j hk hj
          rw [rk] at f2 f3
          rw [IntWalk.wrap64_in _ (by unfold NOB at *; omega)] at f3
          have hjk : j ≠ k := fun e => by
            rw [e, hd k hk] at f3; omega
          have hval : (cellT k i t j) = (setB t.1 i j (t.1 i k + s.1 k j), true) := by
            unfold cellT
            rw [if_neg (by rw [rk]; intro h; rcases h with h | h; exact f1 h; exact f2 h), rk, IntWalk.wrap64_in _ (by unfold NOB at *; omega), if_pos f3]
          rw [hval]
          refine ⟨fun x b hx => ?_, ?_, fun b hb => ?_, fun e => absurd e hki⟩
          · show setB t.1 i j _ x b = _
            unfold setB; rw [if_neg (fun e => hx e.1)]; exact a1 x b hx
          · show setB t.1 i j _ i k = _
            unfold setB; rw [if_neg (fun e => hjk e.2.symm)]; exact a2
          · show -(L + Q) ≤ setB t.1 i j _ i b ∧ setB t.1 i j _ i b ≤ NOB
            unfold setB
            split
            · have := (a3 j hj).2; omega
            · exact a3 b hb)
    (fun t j hj ht f1 f2 => by
      obtain ⟨a1, a2, a3, a4⟩ := ht
      have tik := l1 k hk
      rw [← a2] at tik
      have tikN := (a3 k hk).2
      by_cases hki : k = i
      · subst hki
        have q1 := a3 j hj
        have q2 := a3 k hk
        exact IntWalk.wrap64_in _ (by unfold NOB at *; omega)
      · have rk : t.1 k j = s.1 k j := a1 k j hki
        have lk := l2 j hj
        have hkN := hN k j hk hj
        rw [rk]
        exact IntWalk.wrap64_in _ (by unfold NOB at *; omega))
    (fun t ht b hb => (ht.2.2.1 b hb).2) s ⟨fun _ _ _ => rfl, rfl, fun b hb => ⟨by have := l1 b hb; omega, hN i b hi hb⟩, fun _ _ _ => rfl⟩ hDN e1 e2
  exact ⟨H.1.1, fun b hb => (H.1.2.2.1 b hb).1, H.1.2.2.2, H.2⟩

/-- How far below 0 a row's numbers may lie ahead of step k; behind the row. -/
def Cq (k : Nat) : Int := 25769803776 * 3 ^ k
def Lq (i k : Nat) : Int := Cq (min k i) + 2147483648 * k
def Bq (k : Nat) : Int := Cq k + 25769803776
theorem Cq_succ (k : Nat) : Cq (k + 1) = 3 * Cq k := by unfold Cq; rw [Int.pow_succ]; omega
theorem Cq_low (k : Nat) : 25769803776 ≤ Cq k := by
  unfold Cq
  have h : (0 : Int) < 3 ^ k := Int.pow_pos (by decide)
  omega
theorem Cq_high {k : Nat} (h : k ≤ 12) : Cq k ≤ 13695180088508416 := by
  unfold Cq
  match k, h with
  | 0, _ | 1, _ | 2, _ | 3, _ | 4, _ | 5, _ | 6, _ | 7, _ | 8, _ | 9, _ | 10, _ | 11, _ | 12, _ => decide

theorem zero_diag {n : Nat} {g d : Mx} (h0 : ∀ x, x < n → g x x = 0) (hl : LeM d g) (hd : ¬ dead n d) : ∀ x, x < n → d x x = 0 := fun x hx => by
  have h1 := hl x x
  rw [h0 x hx] at h1
  have h2 : ¬ d x x < 0 := fun h => hd ⟨x, hx, h⟩
  omega

theorem rowT_bad {n i : Nat} (hn : n ≤ 12) (hi : i < n) {g : Mx} (hg : RB n 0 g) (h0 : ∀ x, x < n → g x x = 0) (s : Mx × Bool) (hle : LeM s.1 g)
    (hlow : ∀ x, x < i → ∀ b, b < n → -(Bq x) ≤ s.1 x b ∧ s.1 x b ≤ Fs g x x b) (hnew : ∀ x, i ≤ x → x < n → ∀ b, b < n → s.1 x b = g x b) :
    dead n (rowT n s i).1 ∨ ((∀ x b, x ≠ i → (rowT n s i).1 x b = s.1 x b) ∧ ∀ b, b < n → -(Bq i) ≤ (rowT n s i).1 i b ∧ (rowT n s i).1 i b ≤ Fs g i i b) := by
  have hR := hg.rg (k := 0) (by omega)
  have gl : ∀ a b, a < n → b < n → -2147483648 ≤ g a b := fun a b ha hb => by
    rcases hg a b ha hb with e | e
    · rw [e]; unfold NOB; omega
    · have := e.1; simpa using this
  have H := fold_inv (stepT n i) (fun k t => dead n t.1 ∨ (LeM t.1 s.1 ∧ (∀ x b, x ≠ i → t.1 x b = s.1 x b) ∧ ∀ b, b < n → -(Lq i k) ≤ t.1 i b ∧ t.1 i b ≤ Fs g (min k i) i b)) n s
    (Or.inr ⟨LeM.refl _, fun _ _ _ => rfl, fun b hb => by
      rw [Nat.zero_min, hnew i (Nat.le_refl _) hi b hb]
      refine ⟨?_, Int.le_refl _⟩
      have h1 := gl i b hi hb
      have h2 := Cq_low 0
      unfold Lq
      rw [Nat.zero_min]
      omega⟩) (fun k t hk ht => by
    rcases ht with ht | ⟨a1, a2, a3⟩
    · exact Or.inl (dead_le ht (stepT_le n i t k))
    · by_cases hdd : dead n t.1
      · exact Or.inl (dead_le hdd (stepT_le n i t k))
      · right
        have hz := zero_diag h0 (a1.trans hle) hdd
        have hN : ∀ a b, a < n → b < n → t.1 a b ≤ NOB := fun a b ha hb => Int.le_trans ((a1.trans hle) a b) (hR a b ha hb).2
        have kI : (k : Int) ≤ 12 := by omega
        have k0 : (0 : Int) ≤ k := by omega
        rcases Nat.lt_trichotomy k i with hki | hki | hki
        · have m1 : min k i = k := Nat.min_eq_left (by omega)
          have m2 : min (k + 1) i = k + 1 := Nat.min_eq_left (by omega)
          rw [m1] at a3
          have c1 := Cq_low k
          have c2 := Cq_high (k := k) (by omega)
          have c3 := Cq_succ k
          have S := stepT_bad hi hk t hz hN (Lq i k) (Bq k) (by unfold Lq; rw [m1]; omega) (by unfold Bq; omega) (by unfold Lq Bq; rw [m1]; omega) (fun b hb => (a3 b hb).1)
            (fun b hb => by rw [a2 k b (by omega)]; exact (hlow k hki b hb).1) (Fs g k) (fun b hb => ⟨Fs_no hg k i b hi hb, Fs_no hg k k b hk hb⟩) (fun b hb => (a3 b hb).2) (fun b hb => by rw [a2 k b (by omega)]; exact (hlow k hki b hb).2)
          refine ⟨(stepT_le n i t k).trans a1, fun x b hx => (S.1 x b hx).trans (a2 x b hx), fun b hb => ⟨?_, ?_⟩⟩
          · have := S.2.1 b hb
            unfold Lq at *
            unfold Bq at this
            rw [m1] at this
            rw [m2, c3]
            have : ((k + 1 : Nat) : Int) = (k : Int) + 1 := by omega
            omega
          · rw [m2]; exact S.2.2.2 b hb
        · subst hki
          rw [Nat.min_self] at a3
          have m2 : min (k + 1) k = k := Nat.min_eq_right (by omega)
          have c1 := Cq_low k
          have c2 := Cq_high (k := k) (by omega)
          have S := stepT_bad hi hk t hz hN (Lq k k) (Lq k k) (by unfold Lq; rw [Nat.min_self]; omega) (by unfold Lq; rw [Nat.min_self]; omega) (by unfold Lq; rw [Nat.min_self]; omega) (fun b hb => (a3 b hb).1) (fun b hb => (a3 b hb).1)
            (fun _ _ => NOB) (fun b hb => ⟨Int.le_refl _, Int.le_refl _⟩) (fun b hb => hN k b hi hb) (fun b hb => hN k b hi hb)
          refine ⟨(stepT_le n k t k).trans a1, fun x b hx => (S.1 x b hx).trans (a2 x b hx), fun b hb => ?_⟩
          rw [S.2.2.1 rfl b hb, m2]
          refine ⟨?_, (a3 b hb).2⟩
          have := (a3 b hb).1
          unfold Lq at *
          rw [Nat.min_self] at this
          rw [m2]
          have : ((k + 1 : Nat) : Int) = (k : Int) + 1 := by omega
          omega
        · have m1 : min k i = i := Nat.min_eq_right (by omega)
          have m2 : min (k + 1) i = i := Nat.min_eq_right (by omega)
          rw [m1] at a3
          have c1 := Cq_low i
          have c2 := Cq_high (k := i) (by omega)
          have S := stepT_bad hi hk t hz hN (Lq i k) 2147483648 (by unfold Lq; rw [m1]; omega) (by omega) (by unfold Lq; rw [m1]; omega) (fun b hb => (a3 b hb).1)
            (fun b hb => by rw [a2 k b (by omega), hnew k (by omega) hk b hb]; exact gl k b hk hb) (fun _ _ => NOB) (fun b hb => ⟨Int.le_refl _, Int.le_refl _⟩) (fun b hb => hN i b hi hb) (fun b hb => hN k b hk hb)
          refine ⟨(stepT_le n i t k).trans a1, fun x b hx => (S.1 x b hx).trans (a2 x b hx), fun b hb => ⟨?_, ?_⟩⟩
          · have := S.2.1 b hb
            unfold Lq at *
            rw [m1] at this
            rw [m2]
            have : ((k + 1 : Nat) : Int) = (k : Int) + 1 := by omega
            omega
          · rw [m2]; exact Int.le_trans (stepT_le n i t k i b) (a3 b hb).2)
  rcases H with H | ⟨a1, a2, a3⟩
  · exact Or.inl H
  · right
    rw [Nat.min_eq_right (by omega)] at a3
    refine ⟨a2, fun b hb => ⟨?_, (a3 b hb).2⟩⟩
    have this : -(Lq i n) ≤ (rowT n s i).1 i b := (a3 b hb).1
    unfold Lq at this
    rw [Nat.min_eq_right (by omega)] at this
    unfold Bq
    have : (n : Int) ≤ 12 := by omega
    omega

theorem pass_first {n : Nat} (hn : n ≤ 12) {g : Mx} (hg : RB n 0 g) (h0 : ∀ x, x < n → g x x = 0) : dead n (passT n g).1 ∨ ∀ x, x < n → ∀ b, b < n → (passT n g).1 x b ≤ Fs g x x b := by
  have H := fold_inv (rowT n) (fun i s => dead n s.1 ∨ (LeM s.1 g ∧ (∀ x, x < i → ∀ b, b < n → -(Bq x) ≤ s.1 x b ∧ s.1 x b ≤ Fs g x x b) ∧ ∀ x, i ≤ x → x < n → ∀ b, b < n → s.1 x b = g x b)) n (g, false)
    (Or.inr ⟨LeM.refl _, fun x hx => absurd hx (Nat.not_lt_zero x), fun _ _ _ _ _ => rfl⟩) (fun i s hi hs => by
      rcases hs with hs | ⟨a1, a2, a3⟩
      · exact Or.inl (dead_le hs (rowT_le n s i))
      · rcases rowT_bad hn hi hg h0 s a1 a2 a3 with h | ⟨b1, b2⟩
        · exact Or.inl h
        · right
          refine ⟨(rowT_le n s i).trans a1, fun x hx b hb => ?_, fun x hx hxn b hb => ?_⟩
          · by_cases e : x = i
            · rw [e]; exact b2 b hb
            · rw [b1 x b e]; exact a2 x (by omega) b hb
          · rw [b1 x b (by omega)]; exact a3 x (by omega) hxn b hb)
  rcases H with H | H
  · exact Or.inl H
  · exact Or.inr fun x hx b hb => (H.2.1 x hx b hb).2
theorem tight_bad {n k : Nat} {g : Mx} (hn : n ≤ 12) (hg : RB n 0 g) (h0 : ∀ x, x < n → g x x = 0) (hk : k < n) (hb : Fs g k k k < 0) : tight n (n + 1) g = none := by
  have hd : dead n (passT n g).1 := by
    rcases pass_first hn hg h0 with h | h
    · exact h
    · exact ⟨k, hk, by have := h k hk k hk; omega⟩
  obtain ⟨x, hx, hl⟩ := hd
  unfold tight
  rw [if_pos]
  unfold negB
  rw [List.any_eq_true]
  exact ⟨x, List.mem_range.2 hx, by simpa using hl⟩

/-- Both come to the same. -/
theorem close_same {n : Nat} {g : Mx} (hn : n ≤ 12) (hg : RB n 0 g) (h0 : ∀ x, x < n → g x x = 0) :
    (okB n (shutF n g) ∧ ∃ d, tight n (n + 1) g = some d ∧ ∀ a b, a < n → b < n → d a b = shutF n g a b) ∨ (¬ okB n (shutF n g) ∧ tight n (n + 1) g = none) := by
  rcases good_or h0 with hG | ⟨k, hk, hG, hb⟩
  · left
    obtain ⟨s1, s2⟩ := shut_good hn hg hG
    obtain ⟨d, t1, t2⟩ := tight_good hn hg hG
    exact ⟨s1, d, t1, fun a b ha hb => by rw [t2 a b ha hb, s2 a b ha hb]⟩
  · right
    exact ⟨shut_bad hn hg hk hG hb, tight_bad hn hg h0 hk hb⟩
end Go.Proofs.Ytldbgbcabenegaa
