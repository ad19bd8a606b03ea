/-
  Many slices of one's own, each in a block of its own, as one entry of own memory; one of them taken out, put back.
-/
import Derived.Test.YtpnhkkjjdcjmgaaMmW
namespace Go.Proofs.Ytpnhkkjjdcjmgaa
open Go.RowKit
set_option linter.unusedVariables false
set_option linter.unusedSimpArgs false

/-- The slices i with P i, of n: their blocks, their lists. -/
def slotsE {α : Type} (B e k : Nat) (R : (Nat → Prop) → World → List Value → α → Prop) (n : Nat) (P : Nat → Prop) (v : Nat → Value) (W : Nat → List α) : Ent :=
  ⟨fun y => ∃ i, P i ∧ i < n ∧ (v i).ownBlock = some y, fun F w => (∀ i, P i → i < n → OwnF F B w e k R (v i) (W i)) ∧ ∀ i j, P i → P j → i < n → j < n → i ≠ j → ∀ y, (v i).ownBlock = some y → (v j).ownBlock ≠ some y⟩
def updV {β : Type} (v : Nat → β) (i : Nat) (x : β) : Nat → β := fun j => if j = i then x else v j
section
variable {α : Type} {B e k n : Nat} {R : (Nat → Prop) → World → List Value → α → Prop} {P : Nat → Prop} {v : Nat → Value} {W : Nat → List α}
theorem slotsE_firm (hR : Firm R) : (slotsE B e k R n P v W).firm := fun F G w w' hsz hF hz hlt h =>
  ⟨fun i hi hn => slc_firm hR (v i) (W i) F G w w' hsz hF (fun z hz' hl => hz z ⟨i, hi, hn, hz'⟩ hl) (fun z hz' => hlt z ⟨i, hi, hn, hz'⟩) (h.1 i hi hn), h.2⟩
end
section
variable {α : Type} {e k n i : Nat} {R : (Nat → Prop) → World → List Value → α → Prop} {P : Nat → Prop} {v : Nat → Value} {W : Nat → List α}
variable {At : PS → World → Prop} {b : Nat} {u w : World} {s : PS} {L : List Ent}
theorem own_wide {B : Nat} {F G : Nat → Prop} {o : Value} {xs : List α} (hR : Firm R) (h : OwnF F B w e k R o xs) (hF : ∀ y, F y → G y) : OwnF G B w e k R o xs := by
  obtain ⟨rs, h1, h2⟩ := h
  refine ⟨rs, h1, fun i hi => ?_⟩
  obtain ⟨row, h3, h4, h5⟩ := h2 i hi
  exact ⟨row, h3, h4, hR _ _ _ _ _ _ (Same.wide fun y hy _ => ⟨hF y hy.1, hy.2⟩) h5⟩
/-- None of them has anything. -/
theorem Mem.slotsNone (M : Mem At b u w s L) (hR : Firm R) (e k n : Nat) (P : Nat → Prop) : Mem At b u w s (slotsE u.heap.size e k R n P (fun _ => .slice none 0 0) (fun _ => ([] : List α)) :: L) :=
  M.push (Below.refl _ _) (slotsE_firm hR) (fun z hz => by obtain ⟨i, _, _, hz⟩ := hz; cases hz) (fun G _ => ⟨fun i _ _ => OwnF.empty, fun i j _ _ _ _ _ y hy => by cases hy⟩)
/-- One taken out. -/
theorem Mem.slotOut (M : Mem At b u w s (slotsE u.heap.size e k R n P v W :: L)) (hR : Firm R) (hi : i < n) (hP : P i) : Mem At b u w s (slc u.heap.size e k R (v i) (W i) :: slotsE u.heap.size e k R n (fun j => P j ∧ j ≠ i) v W :: L) := by
  have hM := M.say _ (List.mem_cons_self ..)
  have hlow := M.low _ (List.mem_cons_self ..)
  refine Mem.frame (A := [slotsE u.heap.size e k R n P v W]) (A' := [slc u.heap.size e k R (v i) (W i), slotsE u.heap.size e k R n (fun j => P j ∧ j ≠ i) v W]) (K := L) M M.at_ M.but (Nat.le_refl _) (fun _ _ _ _ => rfl) ?_ ?_ ?_ ?_ ?_
  · intro f hf
    rcases List.mem_cons.1 hf with rfl | hf
    · exact slc_firm hR _ _
    · rw [List.mem_singleton.1 hf]; exact slotsE_firm hR
  · intro f hf z hz
    rcases List.mem_cons.1 hf with rfl | hf
    · exact hlow z ⟨i, hP, hi, hz⟩
    · rw [List.mem_singleton.1 hf] at hz
      obtain ⟨j, hj, hn, hz⟩ := hz
      exact hlow z ⟨j, hj.1, hn, hz⟩
  · intro f hf z hz
    refine .inr ⟨_, List.mem_singleton.2 rfl, ?_⟩
    rcases List.mem_cons.1 hf with rfl | hf
    · exact ⟨i, hP, hi, hz⟩
    · rw [List.mem_singleton.1 hf] at hz
      obtain ⟨j, hj, hn, hz⟩ := hz
      exact ⟨j, hj.1, hn, hz⟩
  · refine List.pairwise_cons.2 ⟨fun f hf z hz hfz => ?_, List.pairwise_singleton _ _⟩
    rw [List.mem_singleton.1 hf] at hfz
    obtain ⟨j, hj, hn, hz2⟩ := hfz
    exact hM.2 i j hP hj.1 hi hn (Ne.symm hj.2) z hz hz2
  · intro G hG _ _ f hf
    rcases List.mem_cons.1 hf with rfl | hf
    · exact own_wide hR (hM.1 i hP hi) hG
    · rw [List.mem_singleton.1 hf]
      exact ⟨fun j hj hn => own_wide hR (hM.1 j hj.1 hn) hG, fun a c ha hc hna hnc hne => hM.2 a c ha.1 hc.1 hna hnc hne⟩
/-- One put back. -/
theorem Mem.slotIn {o : Value} {xs : List α} (M : Mem At b u w s (slc u.heap.size e k R o xs :: slotsE u.heap.size e k R n (fun j => P j ∧ j ≠ i) v W :: L)) (hR : Firm R) (hi : i < n) (hP : P i) : Mem At b u w s (slotsE u.heap.size e k R n P (updV v i o) (updV W i xs) :: L) := by
  have hM1 := M.say _ (List.mem_cons_self ..)
  have hM2 := M.say _ (List.mem_cons_of_mem _ (List.mem_cons_self ..))
  have hlow1 := M.low _ (List.mem_cons_self ..)
  have hlow2 := M.low _ (List.mem_cons_of_mem _ (List.mem_cons_self ..))
  have hap := (List.pairwise_cons.1 M.apart).1 _ (List.mem_cons_self ..)
  have hat : ∀ j, j ≠ i → updV v i o j = v j := fun j hj => if_neg hj
  have hatW : ∀ j, j ≠ i → updV W i xs j = W j := fun j hj => if_neg hj
  have hself : updV v i o i = o := if_pos rfl
  have hselfW : updV W i xs i = xs := if_pos rfl
  refine Mem.frame (A := [slc u.heap.size e k R o xs, slotsE u.heap.size e k R n (fun j => P j ∧ j ≠ i) v W]) (A' := [slotsE u.heap.size e k R n P (updV v i o) (updV W i xs)]) (K := L) M M.at_ M.but (Nat.le_refl _) (fun _ _ _ _ => rfl) ?_ ?_ ?_ (List.pairwise_singleton _ _) ?_
  · intro f hf
    rw [List.mem_singleton.1 hf]; exact slotsE_firm hR
  · intro f hf z hz
    rw [List.mem_singleton.1 hf] at hz
    obtain ⟨j, hj, hn, hz⟩ := hz
    by_cases ej : j = i
    · subst ej
      rw [hself] at hz
      exact hlow1 z hz
    · rw [hat j ej] at hz
      exact hlow2 z ⟨j, ⟨hj, ej⟩, hn, hz⟩
  · intro f hf z hz
    rw [List.mem_singleton.1 hf] at hz
    obtain ⟨j, hj, hn, hz⟩ := hz
    by_cases ej : j = i
    · subst ej
      rw [hself] at hz
      exact .inr ⟨_, List.mem_cons_self .., hz⟩
    · rw [hat j ej] at hz
      exact .inr ⟨_, List.mem_cons_of_mem _ (List.mem_cons_self ..), ⟨j, ⟨hj, ej⟩, hn, hz⟩⟩
  · intro G hG _ _ f hf
    rw [List.mem_singleton.1 hf]
    refine ⟨fun j hj hn => ?_, fun a c ha hc hna hnc hne y hy hy2 => ?_⟩
    · by_cases ej : j = i
      · subst ej
        rw [hself, hselfW]
        exact own_wide hR hM1 hG
      · rw [hat j ej, hatW j ej]
        exact own_wide hR (hM2.1 j ⟨hj, ej⟩ hn) hG
    · by_cases ea : a = i
      · subst ea
        rw [hself] at hy
        rw [hat c (Ne.symm hne)] at hy2
        exact hap y hy ⟨c, ⟨hc, Ne.symm hne⟩, hnc, hy2⟩
      · rw [hat a ea] at hy
        by_cases ec : c = i
        · subst ec
          rw [hself] at hy2
          exact hap y hy2 ⟨a, ⟨ha, ea⟩, hna, hy⟩
        · rw [hat c ec] at hy2
          exact hM2.2 a c ⟨ha, ea⟩ ⟨hc, ec⟩ hna hnc hne y hy hy2
end
end Go.Proofs.Ytpnhkkjjdcjmgaa
