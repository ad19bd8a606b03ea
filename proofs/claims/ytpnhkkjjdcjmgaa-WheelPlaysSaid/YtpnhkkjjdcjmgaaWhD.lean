/-
  The clock of wheels, in plain Lean: what is due at a slot's beginning; passing the time on.
-/
import Derived.Test.YtpnhkkjjdcjmgaaWhC
namespace Go.Proofs.Ytpnhkkjjdcjmgaa
set_option linter.unusedVariables false
set_option linter.unusedSimpArgs false

section
variable {now : Nat} {W : Whl} {S : List Tm} {w s : Nat}
theorem place_due {t a : Nat} (ht : t ≤ 1099511627776) (ha : a ≤ 1099511627776) (h : t ≤ a) : placeN t a = (0, slotN t 0) ↔ a = t := by
  constructor
  · intro hp
    by_cases e : t = a
    · exact e.symm
    · obtain ⟨h1, h2⟩ := place_parts ht ha hp
      have := slot_behind h1 (by omega)
      omega
  · rintro rfl
    exact place_self ht
/-- What is due at the nearest slot's beginning lies in one slot; the others stay set. -/
theorem Near.due (h : Holds now W S) (N : Near now W w s) : ((reachW (begS now w s) 8 W) 0 (slotN (begS now w s) 0)).Perm (S.filter fun x => x.at_ == begS now w s) ∧ Holds (begS now w s) (updW (reachW (begS now w s) 8 W) (0, slotN (begS now w s) 0) []) (S.filter fun x => !(x.at_ == begS now w s)) := by
  obtain ⟨hA, ht⟩ := N.reach h
  obtain ⟨hlt, hle⟩ := N.least h
  generalize begS now w s = t at *
  have hpl : ∀ x ∈ S, (inP t (0, slotN t 0) x) = (x.at_ == t) := fun x hx => by
    have h1 := place_due ht (h.late x hx).2 (hle x hx).1
    unfold inP
    rw [Bool.eq_iff_iff, beq_iff_eq, beq_iff_eq]
    exact h1
  have hd := hA 0 (slotN t 0) (by decide) (slot_lt _ _)
  rw [filter_same hpl] at hd
  refine ⟨hd, ht, fun x hx => ?_, fun u r hu hr => ?_⟩
  · rw [List.mem_filter] at hx
    have h1 := hle x hx.1
    have h2 : x.at_ ≠ t := by simpa using hx.2
    exact ⟨by omega, (h.late x hx.1).2⟩
  · unfold updW
    by_cases hq : u = 0 ∧ r = slotN t 0
    · rw [if_pos hq, hq.1, hq.2, List.filter_filter]
      have : (S.filter fun x => inP t (0, slotN t 0) x && !(x.at_ == t)) = [] := by
        rw [List.filter_eq_nil_iff]
        intro x hx
        rw [hpl x hx]
        simp
      rw [this]
    · rw [if_neg hq, List.filter_filter]
      have e : (S.filter fun x => inP t (u, r) x && !(x.at_ == t)) = S.filter (inP t (u, r)) := filter_same fun x hx => by
        by_cases hx2 : x.at_ = t
        · have hn : inP t (u, r) x = false := by
            unfold inP
            rw [hx2, place_self ht, beq_eq_false_iff_ne]
            intro e
            exact hq ⟨(congrArg Prod.fst e).symm, (congrArg Prod.snd e).symm⟩
          rw [hn]; rfl
        · simp [hx2]
      rw [e]
      exact hA u r hu hr
/-- How far all that is set still has to go down. -/
def downN (now : Nat) (S : List Tm) : Nat := (S.map fun x => (placeN now x.at_).1 + 1).sum
theorem downN_cons (now : Nat) (t : Tm) (S : List Tm) : downN now (t :: S) = (placeN now t.at_).1 + 1 + downN now S := by unfold downN; simp
theorem downN_le {n : Nat} : ∀ (S : List Tm), (∀ x ∈ S, (placeN n x.at_).1 ≤ (placeN now x.at_).1) → downN n S ≤ downN now S
  | [], _ => Nat.le_refl _
  | t :: S, h => by
    have h1 := h t (List.mem_cons_self ..)
    have h2 := downN_le S fun x hx => h x (List.mem_cons_of_mem _ hx)
    rw [downN_cons, downN_cons]
    omega
theorem downN_filter (p : Tm → Bool) : ∀ (S : List Tm), downN now (S.filter p) ≤ downN now S
  | [] => Nat.le_refl _
  | t :: S => by
    have := downN_filter p S
    rw [downN_cons]
    by_cases e : p t = true
    · rw [List.filter_cons_of_pos e, downN_cons]; omega
    · rw [List.filter_cons_of_neg e]; omega
theorem downN_lt {n : Nat} (p : Tm → Bool) : ∀ (S : List Tm), (∀ x ∈ S, p x = true → (placeN n x.at_).1 ≤ (placeN now x.at_).1) → (∃ y ∈ S, p y = true → (placeN n y.at_).1 < (placeN now y.at_).1) → downN n (S.filter p) < downN now S
  | [], _, ⟨y, hy, _⟩ => by cases hy
  | t :: S, h, ⟨y, hy, hyl⟩ => by
    have ht := h t (List.mem_cons_self ..)
    have hS : ∀ x ∈ S, p x = true → (placeN n x.at_).1 ≤ (placeN now x.at_).1 := fun x hx => h x (List.mem_cons_of_mem _ hx)
    have hle : downN n (S.filter p) ≤ downN now S := by
      have h1 : downN n (S.filter p) ≤ downN now (S.filter p) := downN_le _ fun x hx => hS x (List.mem_filter.1 hx).1 (List.mem_filter.1 hx).2
      exact Nat.le_trans h1 (downN_filter p S)
    rw [downN_cons]
    by_cases e : p t = true
    · rw [List.filter_cons_of_pos e, downN_cons]
      have h2 := ht e
      rcases List.mem_cons.1 hy with rfl | hy
      · have := hyl e; omega
      · have := downN_lt p S hS ⟨y, hy, hyl⟩
        omega
    · rw [List.filter_cons_of_neg e]
      omega
theorem Near.less (h : Holds now W S) (N : Near now W w s) : downN (begS now w s) (S.filter fun x => !(x.at_ == begS now w s)) < downN now S := by
  obtain ⟨hA, ht⟩ := N.reach h
  obtain ⟨hlt, hle⟩ := N.least h
  obtain ⟨y, hy, hyp⟩ := N.place h
  have hby := N.beg h hy hyp
  have low : ∀ x ∈ S, (!(x.at_ == begS now w s)) = true → placeN now x.at_ = (w, s) → (placeN (begS now w s) x.at_).1 < w := fun x hx hne hp => by
    have hb := N.beg h hx hp
    have hxl := h.late x hx
    have h2 : x.at_ ≠ begS now w s := by simpa using hne
    have h3 : begN x.at_ w < x.at_ := by rw [← hb]; have := (hle x hx).1; omega
    have h4 := (place_lvl ht hxl.2).1
    rw [hb] at h4 ⊢
    exact lvl_down h4 h3
  refine downN_lt _ S (fun x hx hne => ?_) ⟨y, hy, fun hne => ?_⟩
  · by_cases hp : placeN now x.at_ = (w, s)
    · have := low x hx hne hp
      rw [hp]
      exact Nat.le_of_lt this
    · rw [(place_stays h.may ht (h.late x hx).2 (Nat.le_of_lt hlt) ((hle x hx).2 hp)).1]
      exact Nat.le_refl _
  · rw [hyp]
    exact low y hy hne hyp
theorem downN_max (h : Holds now W S) : downN now S ≤ 9 * S.length := by
  have : ∀ (L : List Tm), (∀ x ∈ L, x.at_ ≤ 1099511627776) → downN now L ≤ 9 * L.length := fun L => by
    induction L with
    | nil => intro _; exact Nat.le_refl _
    | cons t L ih =>
      intro hL
      have h1 := (place_lvl h.may (hL t (List.mem_cons_self ..))).2
      have h2 := ih fun x hx => hL x (List.mem_cons_of_mem _ hx)
      rw [downN_cons, List.length_cons]
      omega
  exact this S fun x hx => (h.late x hx).2
end
end Go.Proofs.Ytpnhkkjjdcjmgaa
