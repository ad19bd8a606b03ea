/-
  Wheels of wheels, in plain Lean: the level and the slot of a time, as now goes on.
-/
namespace Go.Proofs.Ytpnhkkjjdcjmgaa
set_option linter.unusedVariables false
set_option linter.unusedSimpArgs false

/-- At level w a time is within a turn of now; not so at the one below. -/
def LvlAt (now a w : Nat) : Prop := a / 32 ^ (w + 1) = now / 32 ^ (w + 1) ∧ (0 < w → a / 32 ^ w ≠ now / 32 ^ w)
def slotN (a w : Nat) : Nat := a / 32 ^ w % 32
/-- The time at which a time's slot begins. -/
def begN (a w : Nat) : Nat := a / 32 ^ w * 32 ^ w
theorem pow_pos32 (w : Nat) : 0 < 32 ^ w := Nat.pow_pos (by decide)
theorem div_step (a w : Nat) : a / 32 ^ (w + 1) = a / 32 ^ w / 32 := by rw [Nat.div_div_eq_div_mul, Nat.pow_succ]
theorem div_up {a b v : Nat} (h : a / 32 ^ v = b / 32 ^ v) : ∀ k, a / 32 ^ (v + k) = b / 32 ^ (v + k)
  | 0 => h
  | k + 1 => by rw [← Nat.add_assoc, div_step, div_step, div_up h k]
theorem div_le' {a b v w : Nat} (h : a / 32 ^ v = b / 32 ^ v) (hw : v ≤ w) : a / 32 ^ w = b / 32 ^ w := by
  have := div_up h (w - v)
  rwa [show v + (w - v) = w by omega] at this
theorem lvl_one {now a w w' : Nat} (h : LvlAt now a w) (h' : LvlAt now a w') : w = w' := by
  by_cases e : w < w'
  · exact absurd (div_le' h.1 e) (h'.2 (by omega))
  · by_cases e' : w' < w
    · exact absurd (div_le' h'.1 e') (h.2 (by omega))
    · omega
/-- The first level at which both are within a turn. -/
def lvlN (now a : Nat) : Nat → Nat → Nat
  | 0, w => w
  | k + 1, w => if a / 32 ^ (w + 1) = now / 32 ^ (w + 1) then w else lvlN now a k (w + 1)
theorem lvlN_at {now a : Nat} : ∀ k w, (0 < w → a / 32 ^ w ≠ now / 32 ^ w) → a / 32 ^ (w + k + 1) = now / 32 ^ (w + k + 1) → LvlAt now a (lvlN now a k w) ∧ lvlN now a k w ≤ w + k
  | 0, w, h, he => ⟨⟨he, h⟩, Nat.le_refl _⟩
  | k + 1, w, h, he => by
    unfold lvlN
    by_cases e : a / 32 ^ (w + 1) = now / 32 ^ (w + 1)
    · rw [if_pos e]
      exact ⟨⟨e, h⟩, by omega⟩
    · rw [if_neg e]
      have := lvlN_at k (w + 1) (fun _ => e) (by rw [show w + 1 + k + 1 = w + (k + 1) + 1 by omega]; exact he)
      exact ⟨this.1, by omega⟩
/-- Nine wheels are enough for all times. -/
theorem lvl_all {now a : Nat} (hn : now ≤ 1099511627776) (ha : a ≤ 1099511627776) : LvlAt now a (lvlN now a 8 0) ∧ lvlN now a 8 0 ≤ 8 := by
  have h9 : (32 : Nat) ^ (0 + 8 + 1) = 35184372088832 := by decide
  refine lvlN_at 8 0 (fun h => absurd h (by decide)) ?_
  rw [h9, Nat.div_eq_of_lt (by omega), Nat.div_eq_of_lt (by omega)]
theorem div_mono {a b : Nat} (w : Nat) (h : a ≤ b) : a / 32 ^ w ≤ b / 32 ^ w := Nat.div_le_div_right h
theorem lvl_lt {now a w : Nat} (h : LvlAt now a w) (hlt : now < a) : now / 32 ^ w < a / 32 ^ w := by
  have h1 := div_mono w (Nat.le_of_lt hlt)
  by_cases e : w = 0
  · subst e
    simpa using hlt
  · have := h.2 (by omega)
    omega
/-- Its slot lies behind the one that now is at. -/
theorem slot_behind {now a w : Nat} (h : LvlAt now a w) (hlt : now < a) : slotN now w < slotN a w ∧ slotN a w < 32 := by
  have h1 := lvl_lt h hlt
  have h2 := h.1
  rw [div_step, div_step] at h2
  unfold slotN
  omega
theorem beg_le (a w : Nat) : begN a w ≤ a := Nat.div_mul_le_self a _
theorem beg_next (a w : Nat) : a < begN a w + 32 ^ w := by
  unfold begN
  have := Nat.div_add_mod a (32 ^ w)
  have h2 := Nat.mod_lt a (pow_pos32 w)
  rw [Nat.mul_comm] at this
  omega
/-- What nearest reckons: the beginning of the slot, out of now and the slot. -/
theorem beg_now {now a w : Nat} (h : LvlAt now a w) : now / 32 ^ (w + 1) * 32 ^ (w + 1) + slotN a w * 32 ^ w = begN a w := by
  unfold begN slotN
  rw [← h.1, div_step, Nat.pow_succ]
  have := Nat.div_add_mod (a / 32 ^ w) 32
  calc a / 32 ^ w / 32 * (32 ^ w * 32) + a / 32 ^ w % 32 * 32 ^ w = (32 * (a / 32 ^ w / 32) + a / 32 ^ w % 32) * 32 ^ w := by
        rw [Nat.add_mul, Nat.mul_comm (32 ^ w) 32, ← Nat.mul_assoc, Nat.mul_comm (a / 32 ^ w / 32) 32]
    _ = a / 32 ^ w * 32 ^ w := by rw [this]
theorem now_beg {now a w : Nat} (h : LvlAt now a w) (hlt : now < a) : now < begN a w := by
  have h1 := lvl_lt h hlt
  unfold begN
  exact (Nat.div_lt_iff_lt_mul (pow_pos32 w)).1 h1
/-- A lower level comes first. -/
theorem low_first {now a b v w : Nat} (ha : LvlAt now a v) (hb : LvlAt now b w) (hlt : now < b) (hvw : v < w) : a < begN b w := by
  have h1 : a / 32 ^ w = now / 32 ^ w := div_le' ha.1 hvw
  have h2 := lvl_lt hb hlt
  unfold begN
  exact (Nat.div_lt_iff_lt_mul (pow_pos32 w)).1 (by omega)
/-- At one level, a lower slot comes first. -/
theorem slot_first {now a b w : Nat} (ha : LvlAt now a w) (hb : LvlAt now b w) (h : slotN a w < slotN b w) : a < begN b w := by
  have h1 := ha.1.trans hb.1.symm
  rw [div_step, div_step] at h1
  unfold slotN at h
  unfold begN
  exact (Nat.div_lt_iff_lt_mul (pow_pos32 w)).1 (by omega)
theorem slot_same {now a b w : Nat} (ha : LvlAt now a w) (hb : LvlAt now b w) (h : slotN a w = slotN b w) : begN a w = begN b w := by
  have h1 := ha.1.trans hb.1.symm
  rw [div_step, div_step] at h1
  unfold slotN at h
  unfold begN
  rw [show a / 32 ^ w = b / 32 ^ w by omega]
/-- Now goes on, not as far as the slot: the place stays. -/
theorem lvl_stays {now n a w : Nat} (h : LvlAt now a w) (h1 : now ≤ n) (h2 : n < begN a w) : LvlAt n a w ∧ n < a := by
  have hna : n < a := Nat.lt_of_lt_of_le h2 (beg_le a w)
  have h3 : n / 32 ^ w < a / 32 ^ w := (Nat.div_lt_iff_lt_mul (pow_pos32 w)).2 h2
  have h4 := div_mono (w + 1) h1
  have h5 := div_mono (w + 1) (Nat.le_of_lt hna)
  exact ⟨⟨by have := h.1; omega, fun _ => by omega⟩, hna⟩
/-- Now comes to the slot's beginning: what is in it goes down, or is due. -/
theorem lvl_down {a w v : Nat} (hv : LvlAt (begN a w) a v) (hlt : begN a w < a) : v < w := by
  have h1 := lvl_lt hv hlt
  have h2 : begN a w / 32 ^ w = a / 32 ^ w := by unfold begN; exact Nat.mul_div_cancel _ (pow_pos32 w)
  by_cases e : v < w
  · exact e
  · have h3 := div_le' h2 (show w ≤ v by omega)
    omega
/-- Where now is a slot's beginning, the levels below it begin as well. -/
theorem beg_mod (a w v : Nat) (h : v ≤ w) : begN a w % 32 ^ v = 0 := by
  unfold begN
  obtain ⟨k, rfl⟩ : ∃ k, w = v + k := ⟨w - v, by omega⟩
  rw [Nat.pow_add, Nat.mul_comm (32 ^ v), ← Nat.mul_assoc]
  exact Nat.mul_mod_left _ _
end Go.Proofs.Ytpnhkkjjdcjmgaa
