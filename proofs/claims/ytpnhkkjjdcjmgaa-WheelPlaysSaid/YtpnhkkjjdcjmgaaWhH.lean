/-
  Where the timers are, in plain Lean: a map by their numbers, as slots are reached.
-/
import Derived.Test.YtpnhkkjjdcjmgaaWhG
namespace Go.Proofs.Ytpnhkkjjdcjmgaa
set_option linter.unusedVariables false
set_option linter.unusedSimpArgs false

abbrev WFn := Int → Option (Nat × Nat)
def putF (now : Nat) (f : WFn) (t : Tm) : WFn := fun i => if i = t.id then some (placeN now t.at_) else f i
/-- All that is set has its place; what has one is set or due. -/
structure Wher (now : Nat) (S D : List Tm) (f : WFn) : Prop where
  at_ : ∀ t ∈ S, f t.id = some (placeN now t.at_)
  dom : ∀ i, (f i).isSome = true ↔ (∃ t ∈ S, t.id = i) ∨ ∃ t ∈ D, t.id = i
theorem putF_all (now : Nat) : ∀ (l : List Tm) (f : WFn), l.Pairwise (fun a b => a.id ≠ b.id) → (∀ t ∈ l, l.foldl (putF now) f t.id = some (placeN now t.at_)) ∧ ∀ i, (∀ t ∈ l, t.id ≠ i) → l.foldl (putF now) f i = f i
  | [], f, _ => ⟨fun t ht => (by cases ht), fun i _ => rfl⟩
  | x :: l, f, h => by
    obtain ⟨h1, h2⟩ := List.pairwise_cons.1 h
    obtain ⟨k1, k2⟩ := putF_all now l (putF now f x) h2
    refine ⟨fun t ht => ?_, fun i hi => ?_⟩
    · rcases List.mem_cons.1 ht with rfl | ht
      · rw [List.foldl_cons, k2 t.id fun y hy => Ne.symm (h1 y hy)]
        unfold putF
        rw [if_pos rfl]
      · exact k1 t ht
    · rw [List.foldl_cons, k2 i fun y hy => hi y (List.mem_cons_of_mem _ hy)]
      unfold putF
      rw [if_neg (Ne.symm (hi x (List.mem_cons_self ..)))]
/-- Slots and places together. -/
def reachF (t : Nat) : Nat → Whl → WFn → WFn
  | 0, _, f => f
  | v + 1, W, f => reachF t v (if t % 32 ^ (v + 1) = 0 then (W (v + 1) (slotN t (v + 1))).foldl (putW t) (updW W (v + 1, slotN t (v + 1)) []) else W) (if t % 32 ^ (v + 1) = 0 then (W (v + 1) (slotN t (v + 1))).foldl (putF t) f else f)
theorem reachF_step {t v : Nat} {W : Whl} {f : WFn} (h : W (v + 1) (slotN t (v + 1)) = []) : reachF t (v + 1) W f = reachF t v W f := by
  show reachF t v (if t % 32 ^ (v + 1) = 0 then (W (v + 1) (slotN t (v + 1))).foldl (putW t) (updW W (v + 1, slotN t (v + 1)) []) else W) (if t % 32 ^ (v + 1) = 0 then (W (v + 1) (slotN t (v + 1))).foldl (putF t) f else f) = _
  rw [h]
  simp only [List.foldl_nil]
  rw [updW_self h]
  split <;> rfl
section
variable {now : Nat} {W : Whl} {S D : List Tm} {w s : Nat} {f : WFn}
theorem AtT.reachF {t : Nat} (ht : t ≤ 1099511627776) (hS : ∀ x ∈ S, t ≤ x.at_ ∧ x.at_ ≤ 1099511627776) : ∀ (v : Nat) {V : Whl} {f : WFn}, v < 9 → AtT t V S → Go.Proofs.Ytpnhkkjjdcjmgaa.reachF t v V f = f
  | 0, _, _, _, _ => rfl
  | v + 1, V, f, hv, h => by rw [reachF_step (h.cur ht hS hv (by omega)), AtT.reachF ht hS v (by omega) h]
theorem wher_perm {l : List Tm} (h : l.Perm (S.filter (inP now (w, s)))) (hi : S.Pairwise fun a b => a.id ≠ b.id) : l.Pairwise fun a b => a.id ≠ b.id := by
  refine (List.Perm.pairwise_iff (fun {a b} q => Ne.symm q) h).2 ?_
  exact hi.sublist List.filter_sublist
/-- At the slot's beginning all have their place again. -/
theorem Near.wher (h : Holds now W S) (N : Near now W w s) (hi : S.Pairwise fun a b => a.id ≠ b.id) (hf : Wher now S D f) : Wher (begS now w s) S D (reachF (begS now w s) 8 W f) := by
  obtain ⟨hA, ht⟩ := N.reach h
  obtain ⟨hlt, hle⟩ := N.least h
  obtain ⟨y, hy, hyp⟩ := N.place h
  have hyl := h.late y hy
  have hby := N.beg h hy hyp
  obtain ⟨y1, y2⟩ := place_parts h.may hyl.2 hyp
  have hS : ∀ x ∈ S, begS now w s ≤ x.at_ ∧ x.at_ ≤ 1099511627776 := fun x hx => ⟨(hle x hx).1, (h.late x hx).2⟩
  have hsame : ∀ x ∈ S, placeN now x.at_ ≠ (w, s) → placeN (begS now w s) x.at_ = placeN now x.at_ := fun x hx hne => (place_stays h.may ht (h.late x hx).2 (Nat.le_of_lt hlt) ((hle x hx).2 hne)).1
  have hup : ∀ v, w < v → slotN (begS now w s) v = slotN now v := fun v hv => by
    refine slot_eq (div_le' (v := w + 1) ?_ hv)
    rw [hby, ← y1.1]
    unfold begN
    rw [div_step, Nat.mul_div_cancel _ (pow_pos32 w), div_step]
  have hsw : slotN (begS now w s) w = s := by
    rw [hby, ← y2]
    unfold slotN begN
    rw [Nat.mul_div_cancel _ (pow_pos32 w)]
  have above : ∀ k, w + k < 9 → reachF (begS now w s) (w + k) W f = reachF (begS now w s) w W f := fun k => by
    induction k with
    | zero => intro _; rfl
    | succ k ih =>
      intro hk
      rw [← Nat.add_assoc, reachF_step (by rw [hup _ (by omega)]; exact h.empty (by omega) (Nat.le_refl _)), ih (by omega)]
  have e8 := above (8 - w) (by have := N.w9; omega)
  rw [show w + (8 - w) = 8 by have := N.w9; omega] at e8
  rw [e8]
  by_cases h0 : w = 0
  · subst h0
    show Wher _ S D f
    refine ⟨fun x hx => ?_, hf.dom⟩
    rw [hf.at_ x hx]
    by_cases hp : placeN now x.at_ = (0, s)
    · have e1 : begS now 0 s = x.at_ := by rw [N.beg h hx hp]; unfold begN; simp
      have e2 : placeN (begS now 0 s) x.at_ = (0, s) := by rw [← e1, place_self ht, hsw]
      rw [hp, e2]
    · rw [hsame x hx hp]
  · obtain ⟨v, rfl⟩ : ∃ v, w = v + 1 := ⟨w - 1, by omega⟩
    have hm : begS now (v + 1) s % 32 ^ (v + 1) = 0 := by rw [hby]; exact beg_mod _ _ _ (Nat.le_refl _)
    have hX := h.slot (v + 1) s N.w9 N.s32
    obtain ⟨p1, p2⟩ := putF_all (begS now (v + 1) s) (W (v + 1) s) f (wher_perm hX hi)
    -- what the move down lays, and what the levels below it leave
    have hV : AtT (begS now (v + 1) s) ((W (v + 1) s).foldl (putW (begS now (v + 1) s)) (updW W (v + 1, s) [])) S := by
      have hh := hA
      have ab : ∀ k, v + 1 + k < 9 → reachW (begS now (v + 1) s) (v + 1 + k) W = reachW (begS now (v + 1) s) (v + 1) W := fun k => by
        induction k with
        | zero => intro _; rfl
        | succ k ih =>
          intro hk
          rw [← Nat.add_assoc, reach_step (by rw [hup _ (by omega)]; exact h.empty (by omega) (Nat.le_refl _)), ih (by omega)]
      have e9 := ab (8 - (v + 1)) (by have := N.w9; omega)
      rw [show v + 1 + (8 - (v + 1)) = 8 by have := N.w9; omega] at e9
      exact N.moved h
    show Wher _ S D (reachF _ v (if begS now (v + 1) s % 32 ^ (v + 1) = 0 then _ else W) (if begS now (v + 1) s % 32 ^ (v + 1) = 0 then _ else f))
    rw [if_pos hm, if_pos hm, hsw, AtT.reachF ht hS v (by have := N.w9; omega) hV]
    refine ⟨fun x hx => ?_, fun i => ?_⟩
    · by_cases hp : placeN now x.at_ = (v + 1, s)
      · exact p1 x ((h.mem N.w9 N.s32 x).2 ⟨hx, hp⟩)
      · rw [p2 x.id fun z hz e => ?_, hf.at_ x hx, hsame x hx hp]
        have hzm := (h.mem N.w9 N.s32 z).1 hz
        obtain ⟨a, ha, rfl⟩ := List.mem_iff_getElem.1 hzm.1
        obtain ⟨c, hc, rfl⟩ := List.mem_iff_getElem.1 hx
        have hP := List.pairwise_iff_getElem.1 hi
        by_cases e1 : a < c
        · exact hP a c ha hc e1 e
        · by_cases e2 : c < a
          · exact hP c a hc ha e2 e.symm
          · obtain rfl : a = c := by omega
            exact hp hzm.2
    · by_cases hin : ∃ z ∈ W (v + 1) s, z.id = i
      · obtain ⟨z, hz, rfl⟩ := hin
        rw [p1 z hz]
        exact ⟨fun _ => .inl ⟨z, ((h.mem N.w9 N.s32 z).1 hz).1, rfl⟩, fun _ => rfl⟩
      · rw [p2 i fun z hz e => hin ⟨z, hz, e⟩]
        exact hf.dom i
end
end Go.Proofs.Ytpnhkkjjdcjmgaa
