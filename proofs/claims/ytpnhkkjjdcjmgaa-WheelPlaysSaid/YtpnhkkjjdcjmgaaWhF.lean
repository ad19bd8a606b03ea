/-
  Passing the time on, in plain Lean: the clock of wheels and the list of alarms come to the same.
-/
import Derived.Test.YtpnhkkjjdcjmgaaWhE
namespace Go.Proofs.Ytpnhkkjjdcjmgaa
set_option linter.unusedVariables false
set_option linter.unusedSimpArgs false

/-- Under way: all that was set and is later than now lies in the slots; the rest is due. -/
structure PassI (S0 : List Tm) (now : Nat) (W : Whl) (D : List Tm) : Prop where
  holds : Holds now W (S0.filter fun x => !decide (x.at_ ≤ now))
  due : D.Perm (S0.filter fun x => decide (x.at_ ≤ now))
theorem PassI.start {S : List Tm} {now : Nat} {W : Whl} (h : Holds now W S) : PassI S now W [] := by
  have e1 : S.filter (fun x => !decide (x.at_ ≤ now)) = S := List.filter_eq_self.2 fun x hx => by
    have := (h.late x hx).1
    simp; omega
  have e2 : S.filter (fun x => decide (x.at_ ≤ now)) = [] := List.filter_eq_nil_iff.2 fun x hx => by
    have := (h.late x hx).1
    simp; omega
  exact ⟨by rw [e1]; exact h, by rw [e2]⟩
section
variable {S0 : List Tm} {now : Nat} {W : Whl} {D : List Tm} {w s : Nat}
theorem PassI.next (P : PassI S0 now W D) (N : Near now W w s) : PassI S0 (begS now w s) (updW (reachW (begS now w s) 8 W) (0, slotN (begS now w s) 0) []) (D ++ (reachW (begS now w s) 8 W) 0 (slotN (begS now w s) 0)) ∧ downN (begS now w s) (S0.filter fun x => !decide (x.at_ ≤ begS now w s)) < downN now (S0.filter fun x => !decide (x.at_ ≤ now)) := by
  obtain ⟨h1, h2⟩ := N.due P.holds
  obtain ⟨hlt, hle⟩ := N.least P.holds
  have h3 := N.less P.holds
  generalize begS now w s = t at *
  have hge : ∀ x ∈ S0, now < x.at_ → t ≤ x.at_ := fun x hx h => (hle x (List.mem_filter.2 ⟨hx, by simpa using h⟩)).1
  have e1 : (S0.filter fun x => !decide (x.at_ ≤ now)).filter (fun x => !(x.at_ == t)) = S0.filter fun x => !decide (x.at_ ≤ t) := by
    rw [List.filter_filter]
    refine filter_same fun x hx => ?_
    by_cases a : x.at_ ≤ now
    · have b : x.at_ ≤ t := by omega
      simp [a, b]
    · have := hge x hx (by omega)
      by_cases c : x.at_ = t
      · have b : x.at_ ≤ t := by omega
        simp [c]
      · have b : ¬ x.at_ ≤ t := by omega
        simp [a, b, c]
  rw [e1] at h2 h3
  refine ⟨⟨h2, ?_⟩, h3⟩
  have split := List.filter_append_perm (fun x : Tm => decide (x.at_ ≤ now)) (S0.filter fun x => decide (x.at_ ≤ t))
  have e2 : (S0.filter fun x => decide (x.at_ ≤ t)).filter (fun x => decide (x.at_ ≤ now)) = S0.filter fun x => decide (x.at_ ≤ now) := by
    rw [List.filter_filter]
    refine filter_same fun x hx => ?_
    by_cases a : x.at_ ≤ now
    · have b : x.at_ ≤ t := by omega
      simp [a, b]
    · simp [a]
  have e3 : (S0.filter fun x => decide (x.at_ ≤ t)).filter (fun x => !decide (x.at_ ≤ now)) = (S0.filter fun x => !decide (x.at_ ≤ now)).filter fun x => x.at_ == t := by
    rw [List.filter_filter, List.filter_filter]
    refine filter_same fun x hx => ?_
    by_cases a : x.at_ ≤ now
    · simp [a]
    · have := hge x hx (by omega)
      by_cases c : x.at_ = t
      · simp [c]
      · have b : ¬ x.at_ ≤ t := by omega
        simp [b, c]
  rw [e2, e3] at split
  exact (P.due.append h1).trans split
theorem holds_nil {n : Nat} (hn : n ≤ 1099511627776) (h : Holds now W []) : Holds n W [] := ⟨hn, fun t ht => (by cases ht), fun u r hu hr => by have := h.slot u r hu hr; simpa using this⟩
/-- The end: the nearest lies beyond, or nothing is set. -/
theorem PassI.stop {to : Nat} (P : PassI S0 now W D) (h1 : now ≤ to) (ht : to ≤ 1099511627776) (h : (∃ w s, Near now W w s ∧ to < begS now w s) ∨ ∀ v u, v < 9 → u < 32 → slotN now v < u → W v u = []) : Holds to W (S0.filter fun x => !decide (x.at_ ≤ to)) ∧ D.Perm (S0.filter fun x => decide (x.at_ ≤ to)) := by
  have key : ∀ x ∈ S0, now < x.at_ → to < x.at_ := by
    rcases h with ⟨w, s, N, hlt⟩ | hno
    · intro x hx hn
      have := ((N.least P.holds).2 x (List.mem_filter.2 ⟨hx, by simpa using hn⟩)).1
      omega
    · intro x hx hn
      have e := P.holds.none_ hno
      have : x ∈ S0.filter fun x => !decide (x.at_ ≤ now) := List.mem_filter.2 ⟨hx, by simpa using hn⟩
      rw [e] at this
      cases this
  have e1 : (S0.filter fun x => !decide (x.at_ ≤ to)) = S0.filter fun x => !decide (x.at_ ≤ now) := filter_same fun x hx => by
    by_cases a : x.at_ ≤ now
    · have b : x.at_ ≤ to := by omega
      simp [a, b]
    · have b : ¬ x.at_ ≤ to := by have := key x hx (by omega); omega
      simp [a, b]
  have e2 : (S0.filter fun x => decide (x.at_ ≤ to)) = S0.filter fun x => decide (x.at_ ≤ now) := filter_same fun x hx => by
    by_cases a : x.at_ ≤ now
    · have b : x.at_ ≤ to := by omega
      simp [a, b]
    · have b : ¬ x.at_ ≤ to := by have := key x hx (by omega); omega
      simp [a, b]
  rw [e1, e2]
  refine ⟨?_, P.due⟩
  rcases h with ⟨w, s, N, hlt⟩ | hno
  · refine P.holds.goes ht h1 fun x hx => ?_
    obtain ⟨hn, hle⟩ := N.least P.holds
    have h2 := hle x hx
    by_cases hp : placeN now x.at_ = (w, s)
    · have hb := N.beg P.holds hx hp
      rw [hp]
      show to < begN x.at_ w
      omega
    · have := h2.2 hp
      omega
  · have e := P.holds.none_ hno
    rw [e]
    have hh := P.holds
    rw [e] at hh
    exact holds_nil ht hh
/-- What is due, sorted, is what the list gives. -/
theorem due_same {to : Nat} {L : List Tm} (ho : S0.Pairwise fun a b => a.ord < b.ord) (hD : D.Perm (S0.filter fun x => decide (x.at_ ≤ to))) (hL : L.Perm D) (hs : L.Pairwise keyLt) : L = (takeR to S0.length S0).1 :=
  sorted_one (hL.trans (hD.trans (takeR_is to S0.length S0 (Nat.le_refl _) ho).1.symm)) hs (takeR_is to S0.length S0 (Nat.le_refl _) ho).2.1
end
end Go.Proofs.Ytpnhkkjjdcjmgaa
