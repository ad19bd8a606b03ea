/-
  The least bounds that come of a matrix's own, in plain Lean: they are the greatest matrix that is closed and below it; so where its points are renamed they are renamed, too.
-/
import Derived.Test.YtldbgbcabenegaaFwC
namespace Go.Proofs.Ytldbgbcabenegaa
open Go Go.RowKit
set_option linter.unusedVariables false
set_option linter.unusedSimpArgs false

theorem smB_mono {a b c d : Int} (h1 : a ≤ c) (h2 : b ≤ d) (hc : c ≤ NOB) (hd : d ≤ NOB) {x : Int} (hx : x ≤ NOB) (h : x ≤ smB a b) : x ≤ smB c d := by
  unfold smB
  split
  · exact hx
  · rename_i hn
    have n1 : a ≠ NOB := fun e => hn (Or.inl (by omega))
    have n2 : b ≠ NOB := fun e => hn (Or.inr (by omega))
    have := smB_le h n1 n2
    omega
theorem closed_le {n : Nat} {g E : Mx} (hg : RB n 0 g) (hE : ∀ a b, a < n → b < n → E a b ≤ g a b) (hT : Tri n n E) : ∀ k, k ≤ n → ∀ a b, a < n → b < n → E a b ≤ Fs g k a b
  | 0, _ => hE
  | k + 1, hk => fun a b ha hb => by
    have ih := closed_le hg hE hT k (by omega)
    show E a b ≤ lyr (Fs g k) k a b
    unfold lyr
    exact Int.le_min.2 ⟨ih a b ha hb, smB_mono (ih a k ha (by omega)) (ih k b (by omega) hb) (Fs_no hg k a k ha (by omega)) (Fs_no hg k k b (by omega) hb) (Int.le_trans (hE a b ha hb) (Fs_no hg 0 a b ha hb)) (hT k (by omega) a b ha hb)⟩

variable {n : Nat} {σ : Nat → Nat} {g g' : Mx}
/-- A matrix with its points renamed. -/
structure Turned (n : Nat) (σ : Nat → Nat) (g g' : Mx) : Prop where
  lt : ∀ a, a < n → σ a < n
  twice : ∀ a, a < n → σ (σ a) = a
  same : ∀ a b, a < n → b < n → g' (σ a) (σ b) = g a b
theorem Turned.back (h : Turned n σ g g') : Turned n σ g' g :=
  ⟨h.lt, h.twice, fun a b ha hb => by
    have := h.same (σ a) (σ b) (h.lt a ha) (h.lt b hb)
    rw [h.twice a ha, h.twice b hb] at this
    exact this.symm⟩
theorem Turned.low (h : Turned n σ g g') (hn : n ≤ 12) (hg : RB n 0 g) (hG : Good g n) : (∀ a b, a < n → b < n → Fs g n (σ a) (σ b) ≤ g' a b) ∧ Tri n n (fun a b => Fs g n (σ a) (σ b)) := by
  refine ⟨fun a b ha hb => ?_, fun m hm a b ha hb => Fs_tri hn hg n (Nat.le_refl _) hG (σ m) (h.lt m hm) (σ a) (σ b) (h.lt a ha) (h.lt b hb)⟩
  rw [← h.back.same a b ha hb]
  exact Fs_anti g 0 n (Nat.zero_le _) _ _
theorem Turned.good (h : Turned n σ g g') (hn : n ≤ 12) (hg : RB n 0 g) (hg' : RB n 0 g') (h0 : ∀ x, x < n → g' x x = 0) (hG : Good g n) : Good g' n := by
  rcases good_or h0 with hG' | ⟨k, hk, _, hb⟩
  · exact hG'
  · exfalso
    obtain ⟨l1, l2⟩ := h.low hn hg hG
    have this : Fs g n (σ k) (σ k) ≤ Fs g' k k k := closed_le hg' l1 l2 k (by omega) k k hk hk
    have hd := Fs_diag hn hg n (Nat.le_refl _) hG (σ k) (h.lt k hk)
    omega
theorem Turned.Fs_same (h : Turned n σ g g') (hn : n ≤ 12) (hg : RB n 0 g) (hg' : RB n 0 g') (hG : Good g n) (hG' : Good g' n) : ∀ a b, a < n → b < n → Fs g' n (σ a) (σ b) = Fs g n a b := by
  intro a b ha hb
  have x1 : Fs g' n (σ a) (σ b) ≤ Fs g n a b := by
    obtain ⟨l1, l2⟩ := h.back.low hn hg' hG'
    exact closed_le hg l1 l2 n (Nat.le_refl _) a b ha hb
  have x2 : Fs g n a b ≤ Fs g' n (σ a) (σ b) := by
    obtain ⟨l1, l2⟩ := h.low hn hg hG
    have := closed_le hg' l1 l2 n (Nat.le_refl _) (σ a) (σ b) (h.lt a ha) (h.lt b hb)
    simp only [h.twice a ha, h.twice b hb] at this
    exact this
  exact Int.le_antisymm x1 x2
/-- What is tightened in place with its points renamed. -/
theorem turned_same (h : Turned n σ g g') (hn : n ≤ 12) (hg : RB n 0 g) (hg' : RB n 0 g') (h0 : ∀ x, x < n → g x x = 0) (h0' : ∀ x, x < n → g' x x = 0) :
    (okB n (shutF n g) ↔ okB n (shutF n g')) ∧ (okB n (shutF n g) → ∀ a b, a < n → b < n → shutF n g' (σ a) (σ b) = shutF n g a b) := by
  have key : ∀ {g : Mx}, RB n 0 g → (∀ x, x < n → g x x = 0) → okB n (shutF n g) → Good g n := fun hg h0 hok => by
    rcases good_or h0 with hG | ⟨k, hk, hG, hb⟩
    · exact hG
    · exact absurd hok (shut_bad hn hg hk hG hb)
  refine ⟨⟨fun hok => (shut_good hn hg' (h.good hn hg hg' h0' (key hg h0 hok))).1, fun hok => (shut_good hn hg (h.back.good hn hg' hg h0 (key hg' h0' hok))).1⟩, fun hok a b ha hb => ?_⟩
  have hG := key hg h0 hok
  have hG' := h.good hn hg hg' h0' hG
  rw [(shut_good hn hg hG).2 a b ha hb, (shut_good hn hg' hG').2 _ _ (h.lt a ha) (h.lt b hb)]
  exact h.Fs_same hn hg hg' hG hG' a b ha hb
end Go.Proofs.Ytldbgbcabenegaa
