/-
  The clock of wheels, in plain Lean: now goes on; a slot's beginning is reached.
-/
import Derived.Test.YtpnhkkjjdcjmgaaWhB
namespace Go.Proofs.Ytpnhkkjjdcjmgaa
set_option linter.unusedVariables false
set_option linter.unusedSimpArgs false

section
variable {now n : Nat} {W : Whl} {S : List Tm} {w s : Nat}
theorem place_stays {a : Nat} (hnow : now ≤ 1099511627776) (hn : n ≤ 1099511627776) (ha : a ≤ 1099511627776) (h1 : now ≤ n) (h2 : n < begN a (placeN now a).1) : placeN n a = placeN now a ∧ n < a := by
  have h := lvl_stays (place_lvl hnow ha).1 h1 h2
  exact ⟨place_of hn ha h.1, h.2⟩
theorem filter_same {α : Type} {p q : α → Bool} {l : List α} (h : ∀ x ∈ l, p x = q x) : l.filter p = l.filter q := List.filter_congr h
/-- Now goes on, not as far as any slot that holds something. -/
theorem Holds.goes (h : Holds now W S) (hn : n ≤ 1099511627776) (h1 : now ≤ n) (h2 : ∀ t ∈ S, n < begN t.at_ (placeN now t.at_).1) : Holds n W S := by
  refine ⟨hn, fun t ht => ⟨(place_stays h.may hn (h.late t ht).2 h1 (h2 t ht)).2, (h.late t ht).2⟩, fun u r hu hr => ?_⟩
  have e : S.filter (inP n (u, r)) = S.filter (inP now (u, r)) := filter_same fun t ht => by
    unfold inP
    rw [(place_stays h.may hn (h.late t ht).2 h1 (h2 t ht)).1]
  rw [e]
  exact h.slot u r hu hr
/-- Where no slot behind now holds anything, nothing is set. -/
theorem Holds.none_ (h : Holds now W S) (hno : ∀ v u, v < 9 → u < 32 → slotN now v < u → W v u = []) : S = [] := by
  cases hc : S with
  | nil => rfl
  | cons t l =>
    have ht : t ∈ S := by rw [hc]; exact List.mem_cons_self ..
    have htl := h.late t ht
    have hp := place_lvl h.may htl.2
    have hmem : t ∈ W (placeN now t.at_).1 (placeN now t.at_).2 := (h.mem (by omega) (slot_lt _ _) t).2 ⟨ht, rfl⟩
    have hb := slot_behind hp.1 htl.1
    have hz := hno (placeN now t.at_).1 (slotN t.at_ (placeN now t.at_).1) (by omega) hb.2 hb.1
    have hm2 : t ∈ W (placeN now t.at_).1 (slotN t.at_ (placeN now t.at_).1) := hmem
    rw [hz] at hm2
    cases hm2
/-- The slots as they are taken and put, level by level, from v down to 1. -/
def reachW (t : Nat) : Nat → Whl → Whl
  | 0, W => W
  | v + 1, W => reachW t v (if t % 32 ^ (v + 1) = 0 then (W (v + 1) (slotN t (v + 1))).foldl (putW t) (updW W (v + 1, slotN t (v + 1)) []) else W)
theorem updW_self {W : Whl} {p : Nat × Nat} (h : W p.1 p.2 = []) : updW W p [] = W := by
  funext u r
  unfold updW
  split
  · rename_i e; rw [e.1, e.2, h]
  · rfl
theorem reach_step {t v : Nat} {W : Whl} (h : W (v + 1) (slotN t (v + 1)) = []) : reachW t (v + 1) W = reachW t v W := by
  show reachW t v (if t % 32 ^ (v + 1) = 0 then (W (v + 1) (slotN t (v + 1))).foldl (putW t) (updW W (v + 1, slotN t (v + 1)) []) else W) = _
  rw [h]
  simp only [List.foldl_nil]
  rw [updW_self h]
  split <;> rfl
/-- What lies where at t: the slots, of all that is set from t on. -/
def AtT (t : Nat) (V : Whl) (S : List Tm) : Prop := ∀ u r, u < 9 → r < 32 → (V u r).Perm (S.filter (inP t (u, r)))
theorem place_self {t : Nat} (ht : t ≤ 1099511627776) : placeN t t = (0, slotN t 0) := place_of ht ht ⟨rfl, fun h => absurd h (Nat.lt_irrefl _)⟩
theorem slot_eq {a b v : Nat} (h : a / 32 ^ v = b / 32 ^ v) : slotN a v = slotN b v := by unfold slotN; rw [h]
theorem AtT.cur {t : Nat} {V : Whl} (h : AtT t V S) (ht : t ≤ 1099511627776) (hS : ∀ x ∈ S, t ≤ x.at_ ∧ x.at_ ≤ 1099511627776) {v : Nat} (hv : v < 9) (h0 : 0 < v) : V v (slotN t v) = [] := by
  have hp := h v (slotN t v) hv (slot_lt _ _)
  have e : S.filter (inP t (v, slotN t v)) = [] := by
    rw [List.filter_eq_nil_iff]
    intro x hx
    unfold inP
    simp only [beq_iff_eq]
    intro hq
    have hxl := hS x hx
    by_cases e : t = x.at_
    · rw [← e, place_self ht] at hq
      have : (0 : Nat) = v := congrArg Prod.fst hq
      omega
    · obtain ⟨h1, h2⟩ := place_parts ht hxl.2 hq
      have := slot_behind h1 (by omega)
      omega
  rw [e] at hp
  exact hp.eq_nil
theorem AtT.reach {t : Nat} (ht : t ≤ 1099511627776) (hS : ∀ x ∈ S, t ≤ x.at_ ∧ x.at_ ≤ 1099511627776) : ∀ (v : Nat) {V : Whl}, v < 9 → AtT t V S → reachW t v V = V
  | 0, _, _, _ => rfl
  | v + 1, V, hv, h => by rw [reach_step (h.cur ht hS hv (by omega)), AtT.reach ht hS v (by omega) h]
theorem filter_split {α : Type} (p q : α → Bool) (l : List α) : (l.filter fun x => p x && !q x).Perm (l.filter fun x => p x && !q x) := List.Perm.refl _
/-- The move down alone. -/
theorem Near.moved {v : Nat} (h : Holds now W S) (N : Near now W (v + 1) s) : AtT (begS now (v + 1) s) ((W (v + 1) s).foldl (putW (begS now (v + 1) s)) (updW W (v + 1, s) [])) S := by
  obtain ⟨hlt, hle⟩ := N.least h
  obtain ⟨y, hy, hyp⟩ := N.place h
  have hyl := h.late y hy
  have ht : begS now (v + 1) s ≤ 1099511627776 := Nat.le_trans (hle y hy).1 hyl.2
  have hsame : ∀ x ∈ S, placeN now x.at_ ≠ (v + 1, s) → placeN (begS now (v + 1) s) x.at_ = placeN now x.at_ := fun x hx hne => (place_stays h.may ht (h.late x hx).2 (Nat.le_of_lt hlt) ((hle x hx).2 hne)).1
  intro u r hu hr
  rw [putAll_at]
  have hX := h.slot (v + 1) s N.w9 N.s32
  have hXf := hX.filter (inP (begS now (v + 1) s) (u, r))
  have split := List.filter_append_perm (inP now (v + 1, s)) (S.filter (inP (begS now (v + 1) s) (u, r)))
  have e1 : (S.filter (inP (begS now (v + 1) s) (u, r))).filter (inP now (v + 1, s)) = (S.filter (inP now (v + 1, s))).filter (inP (begS now (v + 1) s) (u, r)) := by
    rw [List.filter_filter, List.filter_filter]
    exact filter_same fun x _ => Bool.and_comm _ _
  have e2 : ((S.filter (inP (begS now (v + 1) s) (u, r))).filter fun x => !inP now (v + 1, s) x).Perm (updW W (v + 1, s) [] u r) := by
    unfold updW
    by_cases hq : u = v + 1 ∧ r = s
    · rw [if_pos hq]
      have : ((S.filter (inP (begS now (v + 1) s) (u, r))).filter fun x => !inP now (v + 1, s) x) = [] := by
        rw [List.filter_eq_nil_iff]
        intro x hx
        rw [List.mem_filter] at hx
        unfold inP at *
        simp only [beq_iff_eq, Bool.not_eq_true', Bool.not_eq_true, Bool.not_eq_false'] at *
        by_cases hp : placeN now x.at_ = (v + 1, s)
        · simp [hp]
        · have := hsame x hx.1 hp
          rw [this, hq.1, hq.2] at hx
          exact absurd hx.2 hp
      rw [this]
    · rw [if_neg hq]
      refine List.Perm.trans ?_ (h.slot u r hu hr).symm
      rw [List.filter_filter]
      refine List.Perm.of_eq (filter_same fun x hx => ?_)
      unfold inP
      by_cases hp : placeN now x.at_ = (v + 1, s)
      · have : ((v + 1, s) == (u, r)) = false := by
          rw [beq_eq_false_iff_ne]
          intro e
          exact hq ⟨(congrArg Prod.fst e).symm, (congrArg Prod.snd e).symm⟩
        simp [hp, this]
      · rw [hsame x hx hp]
        have : (placeN now x.at_ == (v + 1, s)) = false := by rw [beq_eq_false_iff_ne]; exact hp
        simp [this]
  refine List.Perm.trans ?_ split
  rw [e1]
  exact (List.perm_append_comm.trans (hXf.append e2.symm))
/-- All of it: what is due at the slot's beginning comes last, the others lie where they belong. -/
theorem Near.reach (h : Holds now W S) (N : Near now W w s) : AtT (begS now w s) (reachW (begS now w s) 8 W) S ∧ begS now w s ≤ 1099511627776 := by
  obtain ⟨hlt, hle⟩ := N.least h
  obtain ⟨y, hy, hyp⟩ := N.place h
  have hyl := h.late y hy
  have ht : begS now w s ≤ 1099511627776 := Nat.le_trans (hle y hy).1 hyl.2
  have hby := N.beg h hy hyp
  obtain ⟨y1, y2⟩ := place_parts h.may hyl.2 hyp
  have hS : ∀ x ∈ S, begS now w s ≤ x.at_ ∧ x.at_ ≤ 1099511627776 := fun x hx => ⟨(hle x hx).1, (h.late x hx).2⟩
  have hsame : ∀ x ∈ S, placeN now x.at_ ≠ (w, s) → placeN (begS now w s) x.at_ = placeN now x.at_ := fun x hx hne => (place_stays h.may ht (h.late x hx).2 (Nat.le_of_lt hlt) ((hle x hx).2 hne)).1
  have hin : ∀ x ∈ S, placeN now x.at_ = (w, s) → begS now w s = begN x.at_ w := fun x hx hp => N.beg h hx hp
  have hup : ∀ v, w < v → slotN (begS now w s) v = slotN now v := fun v hv => by
    refine slot_eq (div_le' (v := w + 1) ?_ hv)
    rw [hby, ← y1.1]
    unfold begN
    rw [div_step, Nat.mul_div_cancel _ (pow_pos32 w), div_step]
  have hsw : slotN (begS now w s) w = s := by
    rw [hby, ← y2]
    unfold slotN begN
    rw [Nat.mul_div_cancel _ (pow_pos32 w)]
  refine ⟨?_, ht⟩
  -- the levels above: nothing there
  have above : ∀ k, w + k < 9 → reachW (begS now w s) (w + k) W = reachW (begS now w s) w W := fun k => by
    induction k with
    | zero => intro _; rfl
    | succ k ih =>
      intro hk
      rw [← Nat.add_assoc, reach_step (by rw [hup _ (by omega)]; exact h.empty (by omega) (Nat.le_refl _)), ih (by omega)]
  have e8 := above (8 - w) (by have := N.w9; omega)
  rw [show w + (8 - w) = 8 by have := N.w9; omega] at e8
  rw [e8]
  by_cases h0 : w = 0
  · -- what is reached is a single time
    subst h0
    show AtT _ W S
    intro u r hu hr
    have e : S.filter (inP (begS now 0 s) (u, r)) = S.filter (inP now (u, r)) := filter_same fun x hx => by
      unfold inP
      by_cases hp : placeN now x.at_ = (0, s)
      · have e1 : begS now 0 s = x.at_ := by rw [hin x hx hp]; unfold begN; simp
        rw [hp, ← e1, place_self ht, hsw]
      · rw [hsame x hx hp]
    rw [e]
    exact h.slot u r hu hr
  · obtain ⟨v, rfl⟩ : ∃ v, w = v + 1 := ⟨w - 1, by omega⟩
    have hm : begS now (v + 1) s % 32 ^ (v + 1) = 0 := by rw [hby]; exact beg_mod _ _ _ (Nat.le_refl _)
    have hA : AtT (begS now (v + 1) s) ((W (v + 1) (slotN (begS now (v + 1) s) (v + 1))).foldl (putW (begS now (v + 1) s)) (updW W (v + 1, slotN (begS now (v + 1) s) (v + 1)) [])) S := by
      rw [hsw]
      exact N.moved h
    show AtT _ (reachW _ v (if begS now (v + 1) s % 32 ^ (v + 1) = 0 then _ else W)) S
    rw [if_pos hm, AtT.reach ht hS v (by have := N.w9; omega) hA]
    exact hA
end
end Go.Proofs.Ytpnhkkjjdcjmgaa
