/-
  The clock of wheels, in plain Lean: its slots, what is put and taken, the nearest slot.
-/
import Derived.Test.YtpnhkkjjdcjmgaaWhA
namespace Go.Proofs.Ytpnhkkjjdcjmgaa
set_option linter.unusedVariables false
set_option linter.unusedSimpArgs false

structure Tm where
  id : Int
  at_ : Nat
  ord : Nat
def lvlOf (now a : Nat) : Nat := lvlN now a 8 0
def placeN (now a : Nat) : Nat × Nat := (lvlOf now a, slotN a (lvlOf now a))
abbrev Whl := Nat → Nat → List Tm
def updW (W : Whl) (p : Nat × Nat) (l : List Tm) : Whl := fun w s => if w = p.1 ∧ s = p.2 then l else W w s
def putW (now : Nat) (W : Whl) (t : Tm) : Whl := updW W (placeN now t.at_) (W (placeN now t.at_).1 (placeN now t.at_).2 ++ [t])
def inP (now : Nat) (p : Nat × Nat) (t : Tm) : Bool := placeN now t.at_ == p
theorem putW_at (now : Nat) (W : Whl) (t : Tm) (w s : Nat) : putW now W t w s = W w s ++ [t].filter (inP now (w, s)) := by
  unfold putW updW inP
  by_cases e : w = (placeN now t.at_).1 ∧ s = (placeN now t.at_).2
  · obtain ⟨rfl, rfl⟩ := e
    rw [if_pos ⟨rfl, rfl⟩]
    simp
  · rw [if_neg e]
    have h : (placeN now t.at_ == (w, s)) = false := by
      rw [beq_eq_false_iff_ne]
      intro h
      exact e (by rw [h]; exact ⟨rfl, rfl⟩)
    simp [h]
theorem putAll_at (now : Nat) (w s : Nat) : ∀ (l : List Tm) (W : Whl), l.foldl (putW now) W w s = W w s ++ l.filter (inP now (w, s))
  | [], W => by simp
  | t :: l, W => by
    rw [List.foldl_cons, putAll_at now w s l, putW_at, List.append_assoc, ← List.filter_append]
    rfl
/-- The slots hold what is set, each at its place. -/
structure Holds (now : Nat) (W : Whl) (S : List Tm) : Prop where
  may : now ≤ 1099511627776
  late : ∀ t ∈ S, now < t.at_ ∧ t.at_ ≤ 1099511627776
  slot : ∀ w s, w < 9 → s < 32 → (W w s).Perm (S.filter (inP now (w, s)))
theorem place_lvl {now a : Nat} (hn : now ≤ 1099511627776) (ha : a ≤ 1099511627776) : LvlAt now a (placeN now a).1 ∧ (placeN now a).1 ≤ 8 := lvl_all hn ha
theorem place_of {now a w : Nat} (hn : now ≤ 1099511627776) (ha : a ≤ 1099511627776) (h : LvlAt now a w) : placeN now a = (w, slotN a w) := by
  have h2 : lvlOf now a = w := lvl_one (place_lvl hn ha).1 h
  unfold placeN
  rw [h2]
theorem slot_lt (a w : Nat) : slotN a w < 32 := Nat.mod_lt _ (by decide)
theorem Holds.mem {now : Nat} {W : Whl} {S : List Tm} (h : Holds now W S) {w s : Nat} (hw : w < 9) (hs : s < 32) (t : Tm) : t ∈ W w s ↔ t ∈ S ∧ placeN now t.at_ = (w, s) := by
  rw [(h.slot w s hw hs).mem_iff, List.mem_filter]
  unfold inP
  simp
/-- The slot that now is at, and those ahead of it, are empty. -/
theorem Holds.empty {now : Nat} {W : Whl} {S : List Tm} (h : Holds now W S) {w s : Nat} (hw : w < 9) (hs : s ≤ slotN now w) : W w s = [] := by
  have hs2 : s < 32 := Nat.lt_of_le_of_lt hs (slot_lt now w)
  cases hc : W w s with
  | nil => rfl
  | cons t l =>
    have hm := (h.mem hw hs2 t).1 (by rw [hc]; exact List.mem_cons_self ..)
    have h1 := h.late t hm.1
    have h2 := (place_lvl h.may h1.2).1
    have e1 : (placeN now t.at_).1 = w := by rw [hm.2]
    have e2 : slotN t.at_ (placeN now t.at_).1 = s := by have : (placeN now t.at_).2 = s := by rw [hm.2]
                                                         exact this
    have h3 := slot_behind h2 h1.1
    rw [e1] at h3 e2
    omega
/-- The nearest slot: the lowest level that has any, there the lowest slot. -/
structure Near (now : Nat) (W : Whl) (w s : Nat) : Prop where
  w9 : w < 9
  s32 : s < 32
  behind : slotN now w < s
  any : W w s ≠ []
  low : ∀ v u, v < w → u < 32 → W v u = []
  first : ∀ u, u < s → W w u = []
def begS (now w s : Nat) : Nat := now / 32 ^ (w + 1) * 32 ^ (w + 1) + s * 32 ^ w
section
variable {now : Nat} {W : Whl} {S : List Tm} {w s : Nat}
theorem Near.place (h : Holds now W S) (N : Near now W w s) : ∃ t ∈ S, placeN now t.at_ = (w, s) := by
  cases hc : W w s with
  | nil => exact absurd hc N.any
  | cons t l => exact ⟨t, (h.mem N.w9 N.s32 t).1 (by rw [hc]; exact List.mem_cons_self ..)⟩
theorem place_parts {a : Nat} (hn : now ≤ 1099511627776) (ha : a ≤ 1099511627776) (h : placeN now a = (w, s)) : LvlAt now a w ∧ slotN a w = s := by
  have h1 := (place_lvl hn ha).1
  have e1 : (placeN now a).1 = w := by rw [h]
  have e2 : (placeN now a).2 = s := by rw [h]
  rw [e1] at h1
  refine ⟨h1, ?_⟩
  rw [← e2, ← e1]
  rfl
theorem Near.beg (h : Holds now W S) (N : Near now W w s) {t : Tm} (ht : t ∈ S) (hp : placeN now t.at_ = (w, s)) : begS now w s = begN t.at_ w := by
  obtain ⟨h1, h2⟩ := place_parts h.may (h.late t ht).2 hp
  unfold begS
  rw [← h2]
  exact beg_now h1
/-- It is no later than any that is set; it is behind now. -/
theorem Near.least (h : Holds now W S) (N : Near now W w s) : now < begS now w s ∧ ∀ t ∈ S, begS now w s ≤ t.at_ ∧ (placeN now t.at_ ≠ (w, s) → begS now w s < begN t.at_ (placeN now t.at_).1) := by
  obtain ⟨x, hx, hxp⟩ := N.place h
  have hxl := h.late x hx
  obtain ⟨x1, x2⟩ := place_parts h.may hxl.2 hxp
  have hb := N.beg h hx hxp
  refine ⟨by rw [hb]; exact now_beg x1 hxl.1, fun t ht => ?_⟩
  have htl := h.late t ht
  have hp := place_lvl h.may htl.2
  have hmem : t ∈ W (placeN now t.at_).1 (placeN now t.at_).2 := (h.mem (by omega) (slot_lt _ _) t).2 ⟨ht, rfl⟩
  by_cases e : placeN now t.at_ = (w, s)
  · refine ⟨?_, fun q => absurd e q⟩
    rw [N.beg h ht e]
    exact beg_le _ _
  · have key : begS now w s < begN t.at_ (placeN now t.at_).1 := by
      rw [hb]
      refine Nat.lt_of_le_of_lt (beg_le _ _) ?_
      by_cases hw : (placeN now t.at_).1 < w
      · have hm2 : t ∈ W (placeN now t.at_).1 (slotN t.at_ (placeN now t.at_).1) := hmem
        rw [N.low _ _ hw (slot_lt _ _)] at hm2
        cases hm2
      · by_cases hw2 : w < (placeN now t.at_).1
        · exact low_first x1 hp.1 htl.1 hw2
        · have ew : (placeN now t.at_).1 = w := by omega
          have hp1 := hp.1
          rw [ew] at hp1 ⊢
          refine slot_first x1 hp1 ?_
          rw [x2]
          have es : (placeN now t.at_).2 = slotN t.at_ w := by rw [← ew]; rfl
          by_cases hs : slotN t.at_ w < s
          · rw [ew, es, N.first _ hs] at hmem
            cases hmem
          · have : slotN t.at_ w ≠ s := fun q => e (by rw [← ew, ← q, ew]; exact Prod.ext ew (by rw [es]))
            omega
    exact ⟨Nat.le_trans (Nat.le_of_lt key) (beg_le _ _), fun _ => key⟩
end
end Go.Proofs.Ytpnhkkjjdcjmgaa
