/-
  Alarms, in plain Lean: the earliest one taken out, one by one, is the sorted row of what is due.
-/
import Derived.Test.YtpnhkkjjdcjmgaaWhD
namespace Go.Proofs.Ytpnhkkjjdcjmgaa
set_option linter.unusedVariables false
set_option linter.unusedSimpArgs false

/-- By times, then as they were set. -/
def keyLt (a b : Tm) : Prop := a.at_ < b.at_ ∨ a.at_ = b.at_ ∧ a.ord < b.ord
theorem keyLt_irrefl {a b : Tm} (h : keyLt a b) (h' : keyLt b a) : False := by
  unfold keyLt at *
  omega
theorem sorted_one {l m : List Tm} (hp : l.Perm m) (hl : l.Pairwise keyLt) (hm : m.Pairwise keyLt) : l = m :=
  hp.eq_of_pairwise (fun a b _ _ h h' => absurd h' (fun q => keyLt_irrefl h q)) hl hm
/-- The place of the first one of those that are due the soonest, of the first k ones. -/
def bestK (l : List Tm) : Nat → Nat
  | 0 => 0
  | k + 1 => if ((l[k]?).map Tm.at_).getD 0 < ((l[bestK l k]?).map Tm.at_).getD 0 then k else bestK l k
def atK (l : List Tm) (i : Nat) : Nat := ((l[i]?).map Tm.at_).getD 0
theorem bestK_step (l : List Tm) (k : Nat) : bestK l (k + 1) = if atK l k < atK l (bestK l k) then k else bestK l k := rfl
theorem bestK_lt (l : List Tm) : ∀ k, 0 < k → bestK l k < k
  | 0, h => absurd h (Nat.lt_irrefl _)
  | k + 1, _ => by
    rw [bestK_step]
    by_cases e : k = 0
    · subst e
      split <;> simp [bestK]
    · have := bestK_lt l k (by omega)
      split <;> omega
theorem bestK_min (l : List Tm) : ∀ k i, i < k → atK l (bestK l k) ≤ atK l i ∧ (i < bestK l k → atK l (bestK l k) < atK l i)
  | 0, i, h => absurd h (Nat.not_lt_zero _)
  | k + 1, i, h => by
    have hs := bestK_step l k
    by_cases e : atK l k < atK l (bestK l k)
    · rw [if_pos e] at hs
      rw [hs]
      by_cases hi : i = k
      · subst hi
        exact ⟨Nat.le_refl _, fun q => absurd q (Nat.lt_irrefl _)⟩
      · have := (bestK_min l k i (by omega)).1
        exact ⟨by omega, fun _ => by omega⟩
    · rw [if_neg e] at hs
      rw [hs]
      by_cases hi : i = k
      · subst hi
        by_cases h0 : i = 0
        · subst h0
          exact ⟨Nat.le_refl _, fun q => absurd q (Nat.not_lt_zero _)⟩
        · have := bestK_lt l i (by omega)
          exact ⟨by omega, fun q => by omega⟩
      · exact bestK_min l k i (by omega)
theorem atK_get {l : List Tm} {i : Nat} (h : i < l.length) : atK l i = l[i].at_ := by unfold atK; rw [List.getElem?_eq_getElem h]; rfl
/-- The first of the soonest, by its key the least. -/
theorem best_least {l : List Tm} (ho : l.Pairwise fun a b => a.ord < b.ord) (h0 : 0 < l.length) : ∃ hb : bestK l l.length < l.length, ∀ i (hi : i < l.length), i ≠ bestK l l.length → keyLt l[bestK l l.length] l[i] := by
  refine ⟨bestK_lt l _ h0, fun i hi hne => ?_⟩
  have hb := bestK_lt l _ h0
  have hm := bestK_min l l.length i hi
  rw [atK_get hi, atK_get hb] at hm
  unfold keyLt
  by_cases e : i < bestK l l.length
  · exact .inl (hm.2 e)
  · have hlt : bestK l l.length < i := by omega
    have := List.pairwise_iff_getElem.1 ho _ _ hb hi hlt
    by_cases e2 : l[bestK l l.length].at_ < l[i].at_
    · exact .inl e2
    · exact .inr ⟨by omega, this⟩
/-- What is due up to a time, the earliest first; what is left. -/
def takeR (to : Nat) : Nat → List Tm → List Tm × List Tm
  | 0, l => ([], l)
  | f + 1, l => if 0 < l.length ∧ atK l (bestK l l.length) ≤ to then (((l[bestK l l.length]?).toList ++ (takeR to f (l.eraseIdx (bestK l l.length))).1), (takeR to f (l.eraseIdx (bestK l l.length))).2) else ([], l)
theorem takeR_is (to : Nat) : ∀ f (l : List Tm), l.length ≤ f → l.Pairwise (fun a b => a.ord < b.ord) → (takeR to f l).1.Perm (l.filter fun x => decide (x.at_ ≤ to)) ∧ (takeR to f l).1.Pairwise keyLt ∧ (takeR to f l).2 = l.filter fun x => !decide (x.at_ ≤ to)
  | 0, l, h, _ => by
    have : l = [] := List.eq_nil_of_length_eq_zero (by omega)
    subst this
    exact ⟨List.Perm.refl _, List.Pairwise.nil, rfl⟩
  | f + 1, l, h, ho => by
    unfold takeR
    by_cases hc : 0 < l.length ∧ atK l (bestK l l.length) ≤ to
    · rw [if_pos hc]
      obtain ⟨hb, hmin⟩ := best_least ho hc.1
      have hat : l[bestK l l.length].at_ ≤ to := by have := hc.2; rwa [atK_get hb] at this
      generalize bestK l l.length = k at *
      rw [List.getElem?_eq_getElem hb]
      have hsub : (l.eraseIdx k).Sublist l := List.eraseIdx_sublist ..
      have ih := takeR_is to f (l.eraseIdx k) (by rw [List.length_eraseIdx_of_lt hb]; omega) (ho.sublist hsub)
      have hsplit : l = l.take k ++ l[k] :: l.drop (k + 1) := by rw [List.getElem_cons_drop]; exact (List.take_append_drop k l).symm
      have her : l.eraseIdx k = l.take k ++ l.drop (k + 1) := List.eraseIdx_eq_take_drop_succ ..
      refine ⟨?_, ?_, ?_⟩
      · have hp : l.Perm (l[k] :: l.eraseIdx k) := by
          rw [her]
          exact (List.Perm.of_eq hsplit).trans List.perm_middle
        have hpf := hp.filter fun x => decide (x.at_ ≤ to)
        rw [List.filter_cons_of_pos (by simpa using hat)] at hpf
        exact (List.Perm.cons _ ih.1).trans hpf.symm
      · show (l[k] :: (takeR to f (l.eraseIdx k)).1).Pairwise keyLt
        refine List.pairwise_cons.2 ⟨fun x hx => ?_, ih.2.1⟩
        have hx2 : x ∈ l.eraseIdx k := (List.mem_filter.1 (ih.1.mem_iff.1 hx)).1
        rw [List.mem_eraseIdx_iff_getElem] at hx2
        obtain ⟨i, hi, hne, rfl⟩ := hx2
        exact hmin i hi hne
      · show (takeR to f (l.eraseIdx k)).2 = _
        rw [ih.2.2, her]
        have e : l.filter (fun x => !decide (x.at_ ≤ to)) = (l.take k ++ l[k] :: l.drop (k + 1)).filter (fun x => !decide (x.at_ ≤ to)) := by rw [← hsplit]
        rw [e, List.filter_append, List.filter_append, List.filter_cons_of_neg (by simpa using hat)]
    · rw [if_neg hc]
      have hall : ∀ x ∈ l, ¬ x.at_ ≤ to := fun x hx hle => by
        have h0 : 0 < l.length := List.length_pos_of_mem hx
        obtain ⟨i, hi, rfl⟩ := List.mem_iff_getElem.1 hx
        have := (bestK_min l l.length i hi).1
        rw [atK_get hi] at this
        exact hc ⟨h0, by omega⟩
      refine ⟨?_, List.Pairwise.nil, ?_⟩
      · rw [show l.filter (fun x => decide (x.at_ ≤ to)) = [] from List.filter_eq_nil_iff.2 fun x hx => by simpa using hall x hx]
      · exact (List.filter_eq_self.2 fun x hx => by simpa using hall x hx).symm
end Go.Proofs.Ytpnhkkjjdcjmgaa
