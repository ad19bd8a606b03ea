/-
  Where the timers are, in plain Lean: set, cleared, due.
-/
import Derived.Test.YtpnhkkjjdcjmgaaWhH
namespace Go.Proofs.Ytpnhkkjjdcjmgaa
set_option linter.unusedVariables false
set_option linter.unusedSimpArgs false

def delF (f : WFn) (i : Int) : WFn := fun j => if j = i then none else f j
theorem delF_all : ∀ (l : List Tm) (f : WFn) (i : Int), (l.foldl (fun g t => delF g t.id) f) i = if ∃ t ∈ l, t.id = i then none else f i
  | [], f, i => by simp
  | x :: l, f, i => by
    rw [List.foldl_cons, delF_all l]
    by_cases h : ∃ t ∈ l, t.id = i
    · rw [if_pos h, if_pos (by obtain ⟨t, ht, e⟩ := h; exact ⟨t, List.mem_cons_of_mem _ ht, e⟩)]
    · rw [if_neg h]
      unfold delF
      by_cases e : i = x.id
      · rw [if_pos e, if_pos ⟨x, List.mem_cons_self .., e.symm⟩]
      · rw [if_neg e, if_neg]
        rintro ⟨t, ht, e2⟩
        rcases List.mem_cons.1 ht with rfl | ht
        · exact e e2.symm
        · exact h ⟨t, ht, e2⟩
section
variable {now : Nat} {S D : List Tm} {f : WFn}
theorem Wher.none_ : Wher now [] [] (fun _ => none) := ⟨fun t ht => (by cases ht), fun i => by simp⟩
theorem Wher.set (h : Wher now S [] f) (t : Tm) (hn : ∀ x ∈ S, x.id ≠ t.id) : Wher now (S ++ [t]) [] (putF now f t) := by
  refine ⟨fun x hx => ?_, fun i => ?_⟩
  · unfold putF
    rcases List.mem_append.1 hx with hx | hx
    · rw [if_neg (hn x hx)]
      exact h.at_ x hx
    · rw [List.mem_singleton.1 hx, if_pos rfl]
  · unfold putF
    by_cases e : i = t.id
    · rw [if_pos e]
      exact ⟨fun _ => .inl ⟨t, by simp, e.symm⟩, fun _ => rfl⟩
    · rw [if_neg e, h.dom i]
      simp only [List.mem_append, List.mem_singleton, List.not_mem_nil, false_and, exists_false, or_false]
      constructor
      · rintro ⟨x, hx, rfl⟩
        exact ⟨x, .inl hx, rfl⟩
      · rintro ⟨x, hx | rfl, hxi⟩
        · exact ⟨x, hx, hxi⟩
        · exact absurd hxi.symm e
theorem Wher.clear (h : Wher now S [] f) (i : Int) : Wher now (S.filter fun x => !(x.id == i)) [] (delF f i) := by
  refine ⟨fun x hx => ?_, fun j => ?_⟩
  · have hm := List.mem_filter.1 hx
    unfold delF
    rw [if_neg (by simpa using hm.2)]
    exact h.at_ x hm.1
  · unfold delF
    by_cases e : j = i
    · rw [if_pos e]
      simp only [Option.isSome_none, Bool.false_eq_true, false_iff, List.mem_filter, List.not_mem_nil, false_and, exists_false, or_false]
      rintro ⟨x, ⟨hx, hq⟩, hxi⟩
      rw [hxi, e] at hq
      simp at hq
    · rw [if_neg e, h.dom j]
      simp only [List.mem_filter, List.not_mem_nil, false_and, exists_false, or_false]
      constructor
      · rintro ⟨x, hx, rfl⟩
        exact ⟨x, ⟨hx, by simpa using e⟩, rfl⟩
      · rintro ⟨x, ⟨hx, _⟩, hxi⟩
        exact ⟨x, hx, hxi⟩
/-- What was set has its place; what is due has none any more. -/
theorem Wher.due {to : Nat} {L : List Tm} (h : Wher to S D f) (hL : ∀ t, t ∈ L ↔ t ∈ D) (hd : ∀ x ∈ S, ∀ y ∈ D, x.id ≠ y.id) : Wher to S [] (L.foldl (fun g t => delF g t.id) f) := by
  refine ⟨fun x hx => ?_, fun i => ?_⟩
  · rw [delF_all, if_neg]
    · exact h.at_ x hx
    · rintro ⟨t, ht, e⟩
      exact hd x hx t ((hL t).1 ht) e.symm
  · rw [delF_all]
    by_cases e : ∃ t ∈ L, t.id = i
    · rw [if_pos e]
      obtain ⟨t, ht, rfl⟩ := e
      simp only [Option.isSome_none, Bool.false_eq_true, false_iff, List.not_mem_nil, false_and, exists_false, or_false]
      rintro ⟨x, hx, hxi⟩
      exact hd x hx t ((hL t).1 ht) hxi
    · rw [if_neg e, h.dom i]
      simp only [List.not_mem_nil, false_and, exists_false, or_false]
      constructor
      · rintro (hx | ⟨t, ht, rfl⟩)
        · exact hx
        · exact absurd ⟨t, (hL t).2 ht, rfl⟩ e
      · exact .inl
/-- Time goes on past what is due: the others keep their place. -/
theorem Wher.later {n : Nat} (h : Wher now S D f) (p : Tm → Bool) (hs : ∀ x ∈ S, p x = true → placeN n x.at_ = placeN now x.at_) : Wher n (S.filter p) (D ++ S.filter fun x => !p x) f := by
  refine ⟨fun x hx => ?_, fun i => ?_⟩
  · have hm := List.mem_filter.1 hx
    rw [hs x hm.1 hm.2]
    exact h.at_ x hm.1
  · rw [h.dom i]
    constructor
    · rintro (⟨x, hx, rfl⟩ | ⟨x, hx, rfl⟩)
      · by_cases e : p x = true
        · exact .inl ⟨x, List.mem_filter.2 ⟨hx, e⟩, rfl⟩
        · exact .inr ⟨x, List.mem_append.2 (.inr (List.mem_filter.2 ⟨hx, by simpa using e⟩)), rfl⟩
      · exact .inr ⟨x, List.mem_append.2 (.inl hx), rfl⟩
    · rintro (⟨x, hx, rfl⟩ | ⟨x, hx, rfl⟩)
      · exact .inl ⟨x, (List.mem_filter.1 hx).1, rfl⟩
      · rcases List.mem_append.1 hx with hx | hx
        · exact .inr ⟨x, hx, rfl⟩
        · exact .inl ⟨x, (List.mem_filter.1 hx).1, rfl⟩
end
end Go.Proofs.Ytpnhkkjjdcjmgaa
