/-
  What Pass does, in plain Lean: the slots, the places and what is due, round by round, and at its end.
-/
import Derived.Test.YtpnhkkjjdcjmgaaWhZ
namespace Go.Proofs.Ytpnhkkjjdcjmgaa
set_option linter.unusedVariables false
set_option linter.unusedSimpArgs false

def later (n : Nat) (x : Tm) : Bool := !decide (x.at_ ≤ n)
structure PassJ (S0 : List Tm) (now : Nat) (W : Whl) (D : List Tm) (f : WFn) : Prop where
  pass : PassI S0 now W D
  wher : Wher now (S0.filter (later now)) D f
theorem Wher.congrD {now : Nat} {S D D' : List Tm} {f : WFn} (h : Wher now S D f) (hD : ∀ t, t ∈ D ↔ t ∈ D') : Wher now S D' f :=
  ⟨h.at_, fun i => (h.dom i).trans ⟨fun q => q.elim .inl (fun ⟨t, ht, e⟩ => .inr ⟨t, (hD t).1 ht, e⟩), fun q => q.elim .inl (fun ⟨t, ht, e⟩ => .inr ⟨t, (hD t).2 ht, e⟩)⟩⟩
section
variable {S0 : List Tm} {now : Nat} {W : Whl} {D : List Tm} {w s : Nat} {f : WFn}
theorem later_all {S : List Tm} {n : Nat} (h : ∀ t ∈ S, n < t.at_) : S.filter (later n) = S := List.filter_eq_self.2 fun x hx => by
  have := h x hx
  unfold later
  simp; omega
theorem later_later {n m : Nat} (h : n ≤ m) : (S0.filter (later n)).filter (later m) = S0.filter (later m) := by
  rw [List.filter_filter]
  refine filter_same fun x _ => ?_
  unfold later
  by_cases h1 : x.at_ ≤ m
  · simp [h1]
  · have h2 : ¬ x.at_ ≤ n := by omega
    simp [h1, h2]
theorem PassJ.start {st : WSt} {n : Nat} (I : ClkI st W f n) : PassJ st.S st.now W [] f := by
  refine ⟨PassI.start I.holds, ?_⟩
  rw [later_all fun t ht => (I.ok.late t ht).1]
  exact I.wher
theorem PassJ.next (P : PassJ S0 now W D f) (hi : S0.Pairwise fun a b => a.id ≠ b.id) (N : Near now W w s) :
    PassJ S0 (begS now w s) (updW (reachW (begS now w s) 8 W) (0, slotN (begS now w s) 0) []) (D ++ (reachW (begS now w s) 8 W) 0 (slotN (begS now w s) 0)) (reachF (begS now w s) 8 W f)
      ∧ downN (begS now w s) (S0.filter (later (begS now w s))) < downN now (S0.filter (later now)) ∧ begS now w s ≤ 1099511627776 := by
  have hH := P.pass.holds
  obtain ⟨hI, hD⟩ := P.pass.next N
  have hle := (N.least hH).1
  have hdue := (N.due hH).1
  refine ⟨⟨hI, ?_⟩, hD, (N.reach hH).2⟩
  have h1 := N.wher hH (hi.sublist List.filter_sublist) P.wher
  have h2 := h1.later (n := begS now w s) (later (begS now w s)) (fun x _ _ => rfl)
  have e1 : (S0.filter fun x => !decide (x.at_ ≤ now)).filter (later (begS now w s)) = S0.filter (later (begS now w s)) := later_later (Nat.le_of_lt hle)
  rw [e1] at h2
  refine h2.congrD fun t => ?_
  have hge := (N.least hH).2
  constructor
  · intro h
    rcases List.mem_append.1 h with h | h
    · exact List.mem_append_left _ h
    · have h5 := List.mem_filter.1 h
      have h3 := (hge t h5.1).1
      have h4 := h5.2
      unfold later at h4
      refine List.mem_append_right _ (hdue.mem_iff.2 (List.mem_filter.2 ⟨h5.1, ?_⟩))
      simp at h4 ⊢
      omega
  · intro h
    rcases List.mem_append.1 h with h | h
    · exact List.mem_append_left _ h
    · have h5 := List.mem_filter.1 (hdue.mem_iff.1 h)
      have h4 := h5.2
      refine List.mem_append_right _ (List.mem_filter.2 ⟨h5.1, ?_⟩)
      unfold later
      simp at h4 ⊢
      omega
theorem PassJ.stop {to : Nat} (P : PassJ S0 now W D f) (h1 : now ≤ to) (ht : to ≤ 1099511627776) (h : (∃ w s, Near now W w s ∧ to < begS now w s) ∨ ∀ v u, v < 9 → u < 32 → slotN now v < u → W v u = []) :
    Holds to W (S0.filter (later to)) ∧ D.Perm (S0.filter fun x => decide (x.at_ ≤ to)) ∧ Wher to (S0.filter (later to)) D f := by
  obtain ⟨hH, hP⟩ := P.pass.stop h1 ht h
  refine ⟨hH, hP, ?_⟩
  have hH0 := P.pass.holds
  have hno : ∀ x ∈ S0, x.at_ ≤ to → x.at_ ≤ now := fun x hx hxt => by
    have h2 : x ∈ D := hP.mem_iff.2 (List.mem_filter.2 ⟨hx, by simpa using hxt⟩)
    have h3 := List.mem_filter.1 (P.pass.due.mem_iff.1 h2)
    simpa using h3.2
  have e1 : S0.filter (later to) = S0.filter (later now) := filter_same fun x hx => by
    unfold later
    by_cases h2 : x.at_ ≤ to
    · have := hno x hx h2
      simp [h2, this]
    · have : ¬ x.at_ ≤ now := by omega
      simp [h2, this]
  have hH1 : Holds to W (S0.filter (later now)) := by rw [← e1]; exact hH
  have hH2 : Holds now W (S0.filter (later now)) := hH0
  rw [e1]
  refine ⟨fun x hx => ?_, P.wher.dom⟩
  rw [P.wher.at_ x hx]
  have hin := place_in hH2.may (hH2.late x hx).2
  have hm := (hH2.mem hin.1 hin.2 x).2 ⟨hx, rfl⟩
  rw [((hH1.mem hin.1 hin.2 x).1 hm).2]
theorem ids_one {S : List Tm} (hu : S.Pairwise fun a b => a.id ≠ b.id) {x y : Tm} (hx : x ∈ S) (hy : y ∈ S) (hne : x ≠ y) : x.id ≠ y.id := by
  obtain ⟨i, hi, rfl⟩ := List.mem_iff_getElem.1 hx
  obtain ⟨j, hj, rfl⟩ := List.mem_iff_getElem.1 hy
  have hP := List.pairwise_iff_getElem.1 hu
  by_cases e1 : i < j
  · exact hP i j hi hj e1
  · by_cases e2 : j < i
    · exact Ne.symm (hP j i hj hi e2)
    · obtain rfl : i = j := by omega
      exact absurd rfl hne
theorem split_len (to : Nat) : ∀ S : List Tm, (S.filter fun x => decide (x.at_ ≤ to)).length + (S.filter (later to)).length = S.length
  | [] => rfl
  | a :: S => by
    have ih := split_len to S
    unfold later at ih ⊢
    by_cases h : a.at_ ≤ to
    · rw [List.filter_cons, if_pos (by simpa using h), List.filter_cons, if_neg (by simp [h])]
      simp only [List.length_cons]; omega
    · rw [List.filter_cons, if_neg (by simpa using h), List.filter_cons, if_pos (by simp; omega)]
      simp only [List.length_cons]; omega
/-- What is due, sorted. -/
theorem due_sorted {to : Nat} {L : List Tm} (ho : S0.Pairwise fun a b => a.ord < b.ord) (hD : D.Perm (S0.filter fun x => decide (x.at_ ≤ to))) (hL : L.Perm D) (hs : ∀ i j (hi : i < L.length) (hj : j < L.length), i < j → ¬ keyLt L[j] L[i]) : L.Pairwise keyLt := by
  have h1 : (S0.filter fun x => decide (x.at_ ≤ to)).Pairwise fun a b => a.ord ≠ b.ord := (ho.sublist List.filter_sublist).imp fun h => Nat.ne_of_lt h
  have h2 : L.Pairwise fun a b => a.ord ≠ b.ord := ((hL.trans hD).symm.pairwise_iff (fun {x y} h => Ne.symm h)).1 h1
  rw [List.pairwise_iff_getElem] at h2 ⊢
  intro i j hi hj hij
  have h3 := h2 i j hi hj hij
  have h4 := hs i j hi hj hij
  unfold keyLt at h4 ⊢
  omega
/-- What stands behind Pass. -/
theorem PassJ.done {st : WSt} {n to : Nat} {L : List Tm} (ok : WOk st) (hn : n = st.S.length) (h1 : st.now ≤ to) (ht : to ≤ 1099511627776) (hH : Holds to W (st.S.filter (later to))) (hD : D.Perm (st.S.filter fun x => decide (x.at_ ≤ to))) (hW : Wher to (st.S.filter (later to)) D f) (hL : L.Perm D) (hs : L.Pairwise keyLt) {d : Ded} (hd : d.at_ = (to : Int)) :
    codePass st d = 0 ∧ duesW st d = L.map Tm.id ∧ (passW st d).now = to ∧ (passW st d).next = st.next ∧ ClkI (passW st d) W (L.foldl (fun g t => delF g t.id) f) (n - L.length) := by
  have hc : codePass st d = 0 := by
    unfold codePass
    rw [if_neg (by rw [hd]; omega)]
  have e0 : d.at_.toNat = to := by rw [hd]; simp
  have hT := takeR_is to st.S.length st.S (Nat.le_refl _) ok.ord
  have e1 : L = (takeR to st.S.length st.S).1 := due_same ok.ord hD hL hs
  have ep : passW st d = ⟨to, st.S.filter (later to), st.next⟩ := by
    unfold passW
    rw [if_pos hc, e0, hT.2.2]
    rfl
  refine ⟨hc, ?_, by rw [ep], by rw [ep], ?_⟩
  · unfold duesW
    rw [if_pos hc, e0, ← e1]
  · have hokp := ok.pass d
    rw [ep] at hokp ⊢
    refine ⟨hokp, hH, ?_, ?_⟩
    · refine hW.due (fun t => hL.mem_iff) (fun x hx y hy e => ?_)
      have hx2 := List.mem_filter.1 hx
      have hy2 := List.mem_filter.1 (hD.mem_iff.1 hy)
      have hxy : x ≠ y := fun q => by
        have h3 := hx2.2
        have h4 := hy2.2
        rw [q] at h3
        unfold later at h3
        simp at h3 h4
        omega
      exact ids_one ok.ids hx2.1 hy2.1 hxy e
    · have h5 : L.length = (st.S.filter fun x => decide (x.at_ ≤ to)).length := (hL.trans hD).length_eq
      have h6 := split_len to st.S
      show n - L.length = (st.S.filter (later to)).length
      omega
end
end Go.Proofs.Ytpnhkkjjdcjmgaa
