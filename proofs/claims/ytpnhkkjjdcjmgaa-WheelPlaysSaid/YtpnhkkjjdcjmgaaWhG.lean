/-
  Deeds with timers, in plain Lean: what each is told; timers set and cleared.
-/
import Derived.Test.YtpnhkkjjdcjmgaaWhF
namespace Go.Proofs.Ytpnhkkjjdcjmgaa
set_option linter.unusedVariables false
set_option linter.unusedSimpArgs false

structure Ded where
  kind : Int
  id : Int
  at_ : Int
structure WSt where
  now : Nat
  S : List Tm
  next : Nat
def hasI (S : List Tm) (id : Int) : Bool := S.any fun t => t.id == id
def codeSet (st : WSt) (d : Ded) : Int := if ¬ (1 ≤ d.id ∧ d.id ≤ 1048576) then 2 else if d.at_ ≤ st.now ∨ 1099511627776 < d.at_ then 12 else if 1000 ≤ st.S.length then 8 else if hasI st.S d.id = true then 7 else 0
def setW (st : WSt) (d : Ded) : WSt := if codeSet st d = 0 then ⟨st.now, st.S ++ [⟨d.id, d.at_.toNat, st.next + 1⟩], st.next + 1⟩ else st
def codeClear (st : WSt) (d : Ded) : Int := if hasI st.S d.id = true then 0 else 6
def clearW (st : WSt) (d : Ded) : WSt := ⟨st.now, st.S.filter fun t => !(t.id == d.id), st.next⟩
def codePass (st : WSt) (d : Ded) : Int := if d.at_ < st.now ∨ 1099511627776 < d.at_ then 12 else 0
def passW (st : WSt) (d : Ded) : WSt := if codePass st d = 0 then ⟨d.at_.toNat, (takeR d.at_.toNat st.S.length st.S).2, st.next⟩ else st
def duesW (st : WSt) (d : Ded) : List Int := if codePass st d = 0 then (takeR d.at_.toNat st.S.length st.S).1.map Tm.id else []
/-- One deed. -/
def stepW (st : WSt) (d : Ded) : WSt := if d.kind = 1 then setW st d else if d.kind = 2 then clearW st d else if d.kind = 3 then passW st d else st
def codeW (st : WSt) (d : Ded) : Int := if d.kind = 1 then codeSet st d else if d.kind = 2 then codeClear st d else if d.kind = 3 then codePass st d else 3
def dueW (st : WSt) (d : Ded) : List Int := if d.kind = 3 then duesW st d else []
def atW (now : Nat) (l : List Ded) (k : Nat) : WSt := (l.take k).foldl stepW ⟨now, [], 0⟩
theorem atW_next {now : Nat} {l : List Ded} {k : Nat} (h : k < l.length) : atW now l (k + 1) = stepW (atW now l k) l[k] := by
  unfold atW
  rw [← List.take_append_getElem h, List.foldl_append]
  rfl
/-- What may be. -/
structure WOk (st : WSt) : Prop where
  may : st.now ≤ 1099511627776
  late : ∀ t ∈ st.S, st.now < t.at_ ∧ t.at_ ≤ 1099511627776
  ord : st.S.Pairwise fun a b => a.ord < b.ord
  top : ∀ t ∈ st.S, t.ord ≤ st.next
  ids : st.S.Pairwise fun a b => a.id ≠ b.id
  few : st.S.length ≤ 1000
  idr : ∀ t ∈ st.S, 1 ≤ t.id ∧ t.id ≤ 1048576
theorem hasI_iff {S : List Tm} {id : Int} : hasI S id = true ↔ ∃ t ∈ S, t.id = id := by unfold hasI; simp
theorem codeSet_zero {st : WSt} {d : Ded} (h : codeSet st d = 0) : (1 ≤ d.id ∧ d.id ≤ 1048576) ∧ (st.now < d.at_ ∧ d.at_ ≤ 1099511627776) ∧ st.S.length < 1000 ∧ hasI st.S d.id = false := by
  unfold codeSet at h
  by_cases h1 : ¬ (1 ≤ d.id ∧ d.id ≤ 1048576)
  · rw [if_pos h1] at h; exact absurd h (by decide)
  rw [if_neg h1] at h
  by_cases h2 : d.at_ ≤ st.now ∨ 1099511627776 < d.at_
  · rw [if_pos h2] at h; exact absurd h (by decide)
  rw [if_neg h2] at h
  by_cases h3 : 1000 ≤ st.S.length
  · rw [if_pos h3] at h; exact absurd h (by decide)
  rw [if_neg h3] at h
  by_cases h4 : hasI st.S d.id = true
  · rw [if_pos h4] at h; exact absurd h (by decide)
  exact ⟨by omega, by omega, by omega, by simpa using h4⟩
theorem WOk.set {st : WSt} (h : WOk st) (d : Ded) : WOk (setW st d) := by
  unfold setW
  by_cases hc : codeSet st d = 0
  · rw [if_pos hc]
    obtain ⟨h1, h2, h3, h4⟩ := codeSet_zero hc
    refine ⟨h.may, fun t ht => ?_, ?_, fun t ht => ?_, ?_, by simp; omega, fun t ht => ?_⟩
    · rcases List.mem_append.1 ht with ht | ht
      · exact h.late t ht
      · rw [List.mem_singleton.1 ht]; show st.now < d.at_.toNat ∧ d.at_.toNat ≤ _; omega
    · refine List.pairwise_append.2 ⟨h.ord, List.pairwise_singleton _ _, fun a ha b hb => ?_⟩
      rw [List.mem_singleton.1 hb]
      have := h.top a ha
      show a.ord < st.next + 1
      omega
    · rcases List.mem_append.1 ht with ht | ht
      · have := h.top t ht
        show t.ord ≤ st.next + 1
        omega
      · rw [List.mem_singleton.1 ht]; exact Nat.le_refl _
    · refine List.pairwise_append.2 ⟨h.ids, List.pairwise_singleton _ _, fun a ha b hb => ?_⟩
      rw [List.mem_singleton.1 hb]
      intro e
      have : hasI st.S d.id = true := hasI_iff.2 ⟨a, ha, e⟩
      rw [h4] at this
      cases this
    · rcases List.mem_append.1 ht with ht | ht
      · exact h.idr t ht
      · rw [List.mem_singleton.1 ht]; exact h1
  · rw [if_neg hc]
    exact h
theorem WOk.sub {st : WSt} (h : WOk st) {p : Tm → Bool} {n : Nat} (hn : n ≤ 1099511627776) (hl : ∀ t ∈ st.S, p t = true → n < t.at_) : WOk ⟨n, st.S.filter p, st.next⟩ := by
  have hs : (st.S.filter p).Sublist st.S := List.filter_sublist
  refine ⟨hn, fun t ht => ?_, h.ord.sublist hs, fun t ht => h.top t (hs.subset ht), h.ids.sublist hs, Nat.le_trans hs.length_le h.few, fun t ht => h.idr t (hs.subset ht)⟩
  have := List.mem_filter.1 ht
  exact ⟨hl t this.1 this.2, (h.late t this.1).2⟩
theorem WOk.clear {st : WSt} (h : WOk st) (d : Ded) : WOk (clearW st d) := h.sub h.may fun t ht _ => (h.late t ht).1
theorem WOk.pass {st : WSt} (h : WOk st) (d : Ded) : WOk (passW st d) := by
  unfold passW
  by_cases hc : codePass st d = 0
  · rw [if_pos hc]
    have h2 : ¬ (d.at_ < st.now ∨ 1099511627776 < d.at_) := fun q => by
      unfold codePass at hc
      rw [if_pos q] at hc
      exact absurd hc (by decide)
    rw [(takeR_is d.at_.toNat st.S.length st.S (Nat.le_refl _) h.ord).2.2]
    exact h.sub (by omega) fun t ht hp => by simp at hp; omega
  · rw [if_neg hc]
    exact h
theorem WOk.step {st : WSt} (h : WOk st) (d : Ded) : WOk (stepW st d) := by
  unfold stepW
  split
  · exact h.set d
  · split
    · exact h.clear d
    · split
      · exact h.pass d
      · exact h
theorem WOk.begin {now : Nat} (h : now ≤ 1099511627776) : WOk ⟨now, [], 0⟩ := ⟨h, fun t ht => (by cases ht), List.Pairwise.nil, fun t ht => (by cases ht), List.Pairwise.nil, by simp, fun t ht => (by cases ht)⟩
theorem atW_ok {now : Nat} (h : now ≤ 1099511627776) {l : List Ded} : ∀ k, k ≤ l.length → WOk (atW now l k)
  | 0, _ => WOk.begin h
  | k + 1, hk => by rw [atW_next (by omega)]; exact (atW_ok h k (by omega)).step _
/-- A timer put where it belongs; one taken away. -/
theorem Holds.put {now : Nat} {W : Whl} {S : List Tm} (h : Holds now W S) {t : Tm} (ht : now < t.at_ ∧ t.at_ ≤ 1099511627776) : Holds now (putW now W t) (S ++ [t]) := by
  refine ⟨h.may, fun x hx => ?_, fun u r hu hr => ?_⟩
  · rcases List.mem_append.1 hx with hx | hx
    · exact h.late x hx
    · rw [List.mem_singleton.1 hx]; exact ht
  · rw [putW_at, List.filter_append]
    exact (h.slot u r hu hr).append_right _
theorem Holds.clear {now : Nat} {W : Whl} {S : List Tm} (h : Holds now W S) {id : Int} {t : Tm} (ht : t ∈ S) (hid : t.id = id) (hu : S.Pairwise fun a b => a.id ≠ b.id) : Holds now (updW W (placeN now t.at_) ((W (placeN now t.at_).1 (placeN now t.at_).2).filter fun x => !(x.id == id))) (S.filter fun x => !(x.id == id)) := by
  have one : ∀ x ∈ S, x.id = id → x = t := fun x hx hxi => by
    obtain ⟨i, hi, rfl⟩ := List.mem_iff_getElem.1 hx
    obtain ⟨j, hj, rfl⟩ := List.mem_iff_getElem.1 ht
    have hP := List.pairwise_iff_getElem.1 hu
    by_cases e1 : i < j
    · exact absurd (hxi.trans hid.symm) (hP i j hi hj e1)
    · by_cases e2 : j < i
      · exact absurd (hid.trans hxi.symm) (hP j i hj hi e2)
      · obtain rfl : i = j := by omega
        rfl
  refine ⟨h.may, fun x hx => h.late x (List.mem_filter.1 hx).1, fun u r hu2 hr => ?_⟩
  have hp := h.slot u r hu2 hr
  have hpf := hp.filter fun x => !(x.id == id)
  rw [List.filter_filter] at hpf
  rw [List.filter_filter]
  have e : S.filter (fun x => !(x.id == id) && inP now (u, r) x) = S.filter (fun x => inP now (u, r) x && !(x.id == id)) := filter_same fun x _ => Bool.and_comm _ _
  rw [e] at hpf
  unfold updW
  by_cases hq : u = (placeN now t.at_).1 ∧ r = (placeN now t.at_).2
  · rw [if_pos hq, ← hq.1, ← hq.2]
    exact hpf
  · rw [if_neg hq]
    have hself : (W u r).filter (fun x => !(x.id == id)) = W u r := List.filter_eq_self.2 fun x hx => by
      have hm := (h.mem hu2 hr x).1 hx
      by_cases e : x.id = id
      · have := one x hm.1 e
        subst this
        exact absurd ⟨(congrArg Prod.fst hm.2).symm, (congrArg Prod.snd hm.2).symm⟩ hq
      · simpa using e
    rw [hself] at hpf
    exact hpf
end Go.Proofs.Ytpnhkkjjdcjmgaa
