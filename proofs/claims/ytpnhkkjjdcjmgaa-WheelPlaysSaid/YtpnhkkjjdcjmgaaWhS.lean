/-
  wheel's take; what a clock's slots hold, as far as the walks ask.
-/
import Derived.Test.YtpnhkkjjdcjmgaaWhR
namespace Go.Proofs.Ytpnhkkjjdcjmgaa
open Go.RowKit
set_option linter.unusedVariables false
set_option linter.unusedSimpArgs false

/-- A timer that is set: in the map, within the times. -/
def TmOk (f : WFn) (t : Tm) : Prop := (f t.id).isSome = true ∧ t.at_ ≤ 1099511627776 ∧ wfI t.id
structure Fit (B : Nat) (W : Whl) (f : WFn) : Prop where
  len : ∀ k i, k < 9 → i < 32 → (W k i).length ≤ B
  all : ∀ k i, k < 9 → i < 32 → ∀ t ∈ W k i, TmOk f t
theorem TmOk.put {f : WFn} {t x : Tm} {now : Nat} (h : TmOk f t) : TmOk (putF now f x) t := by
  refine ⟨?_, h.2⟩
  unfold putF
  split
  · rfl
  · exact h.1
theorem Fit.put {B : Nat} {W : Whl} {f : WFn} {t : Tm} (h : Fit B W f) (now : Nat) (ht : TmOk f t) : Fit (B + 1) (putW now W t) (putF now f t) := by
  refine ⟨fun k i hk hi => ?_, fun k i hk hi x hx => ?_⟩
  · have := h.len k i hk hi
    rw [putW_at]
    have h2 : ([t].filter (inP now (k, i))).length ≤ 1 := List.length_filter_le _ _
    rw [List.length_append]; omega
  · rw [putW_at] at hx
    rcases List.mem_append.1 hx with hx | hx
    · exact (h.all k i hk hi x hx).put
    · have := (List.mem_filter.1 hx).1
      rw [List.mem_singleton.1 this]
      exact ht.put
theorem Fit.clear {B : Nat} {W : Whl} {f : WFn} (h : Fit B W f) (p : Nat × Nat) : Fit B (updW W p []) f := by
  refine ⟨fun k i hk hi => ?_, fun k i hk hi x hx => ?_⟩
  · unfold updW
    split
    · exact Nat.zero_le _
    · exact h.len k i hk hi
  · unfold updW at hx
    split at hx
    · cases hx
    · exact h.all k i hk hi x hx
theorem Fit.wide {B B' : Nat} {W : Whl} {f : WFn} (h : Fit B W f) (hB : B ≤ B') : Fit B' W f := ⟨fun k i hk hi => Nat.le_trans (h.len k i hk hi) hB, h.all⟩
section
variable {At : PS → World → Prop} {b : Nat} {u w : World} {s : PS} {L : List Ent} {v : Nat → Value} {W : Whl}
theorem Mem.slotIs (M : Mem At b u w s L) {j k i : Nat} (hj : L[j]? = some (slotsW u v W)) (hk : k < 9) (hi : i < 32) : ∃ ra rc, v (k * 32 + i) = .slice ra (W k i).length rc := by
  have h := M.say _ (Mem.of_get hj)
  obtain ⟨ra, rc, e⟩ := (h.1 (k * 32 + i) trivial (by omega)).slice
  rw [flatW_at W hi] at e
  exact ⟨ra, rc, e⟩
/-- A slot's slice taken; the slot is empty. -/
theorem Mem.slotTake (M : Mem At b u w s (slotsW u v W :: L)) {k i : Nat} (hk : k < 9) (hi : i < 32) : Mem At b u w s (slc u.heap.size 60 3 tmF (v (k * 32 + i)) (W k i) :: slotsW u (updV v (k * 32 + i) (.slice none 0 0)) (updW W (k, i) []) :: L) := by
  have M1 := M.slotOut (plainF_firm _) (i := k * 32 + i) (by omega) trivial
  rw [flatW_at W hi] at M1
  have M2 := (Mem.none_ (α := Tm) (plainF_firm tmC) 60 3 M1).perm (L' := slc u.heap.size 60 3 tmF (.slice none 0 0) ([] : List Tm) :: slotsX u (k * 32 + i) v W :: slc u.heap.size 60 3 tmF (v (k * 32 + i)) (W k i) :: L) ((List.Perm.swap _ _ _).cons _)
  have M3 := M2.slotIn (plainF_firm _) (by omega) trivial
  rw [flatW_upd W hi] at M3
  exact M3.swap
end
section
variable {g : Nat} {w0 : World}
set_option maxRecDepth 8000 in
set_option maxHeartbeats 8000000 in
theorem take_any {w : World} {zc now next n k i : Nat} {v : Nat → Value} {mz : Option Nat} {W : Whl} {f : WFn} {L : List Ent} (M : Mem (StaysB g w0) g w0 w ⟨0, 0⟩ (ClkL w0 zc now next v mz W n f L)) (hk : k < 9) (hi : i < 32) :
    Calls Try.prog 27 #[.pointer (some ⟨zc, 0, none⟩), plcV (k, i)] w fun e w' => e = .returned (v (k * 32 + i)) ∧ Mem (StaysB g w0) g w0 w' ⟨0, 0⟩ (slc w0.heap.size 60 3 tmF (v (k * 32 + i)) (W k i) :: ClkL w0 zc now next (updV v (k * 32 + i) (.slice none 0 0)) mz (updW W (k, i) []) n f L) := by
  have hix1 := fun wx => wheel_ix (z := zc) hk wx
  have hix2 := fun wx => slot_ix (z := zc) (k := k) hi wx
  have HO : Hid ((v (k * 32 + i)).oneCell' = true) := by
    obtain ⟨ra, rc, e⟩ := M.slotIs (j := 1) rfl hk hi
    show _ = true
    rw [e]; rfl
  go_enter Try.func27, Try.ntmps27
  go_upto_region 1 with (first | (with_reducible (first | (refine wB M ?_; clear M; intro zt w1 M) | refine wq M ?_ | (refine wS M ?_; clear M; intro w M) | (refine wV M ?_; clear M; intro z w M) | (refine wR M ?_; clear M; intro q w M))))
  ((refine wp_region_calm M (by kernel_rfl) (by kernel_rfl) ?_); (repeat (first | ((with_reducible refine c_list rfl fun K hK => ?_); (first | (refine c_load (l' := ?_) ⟨_, M⟩ (fun w M => ?_) ?_; rotate_left; focus ((first | (refine q_get M (clkC_get hk hi) ?_) | refine q_get M (by exact rfl) ?_ | refine q_all M (by rfl) ?_ | refine q_prt M (by rfl) ?_); refine ⟨rfl, ?_⟩; with_reducible rfl)) | (refine c_pure (v := ?_) (fun w => ?_) ?_; rotate_left; focus (go_simp; try with_reducible rfl))); (try go_simp); with_reducible refine hK _ ?_; clear hK K) | ((with_reducible refine c_listg fun K hK => ?_); (first | (refine c_load (l' := ?_) ⟨_, M⟩ (fun w M => ?_) ?_; rotate_left; focus ((first | (refine q_get M (clkC_get hk hi) ?_) | refine q_get M (by exact rfl) ?_ | refine q_all M (by rfl) ?_ | refine q_prt M (by rfl) ?_); refine ⟨rfl, ?_⟩; with_reducible rfl)) | (refine c_pure (v := ?_) (fun w => ?_) ?_; rotate_left; focus (go_simp; try with_reducible rfl))); (try go_simp); with_reducible refine hK _ ?_; clear hK K) | (with_reducible refine c_skipT ?_) | (with_reducible refine c_skipF ?_))); (refine wpQuiet_nil ?_); clear M; intro w M)
  go_upto_region 2 with (first | (with_reducible (first | refine wq M ?_ | (refine wS M ?_; clear M; intro w M) | (refine wV M ?_; clear M; intro z w M) | (refine wR M ?_; clear M; intro q w M))))
  ((refine wp_region_first [0, 1, 2, 3, 4, 5, 6, 7, 8] [(true, 0), (true, 1), (true, 2), (true, 3), (true, 4), (true, 5), (true, 6), (true, 7), (true, 8), (false, 9)] (fun _ M => M) M (by kernel_rfl) (by kernel_rfl) (fun _ _ _ _ _ h => h) ?_); clear M; intro w M; (repeat (first | ((with_reducible refine m_read rfl M.kept fun K hK => ?_); (first | (refine r_load (l' := ?_) ⟨_, M.kept⟩ (fun w M => ?_) ?_; rotate_left; focus ((first | refine q_get M (by exact rfl) ?_ | refine q_all M (by rfl) ?_ | refine q_prt M (by rfl) ?_); refine ⟨rfl, ?_⟩; with_reducible rfl)) | (refine r_pure (v := ?_) rfl (fun w => ?_) ?_; rotate_left; focus (go_simp; try with_reducible rfl))); (try go_simp); with_reducible refine hK _ ?_; clear hK K) | ((with_reducible refine m_last rfl rfl (by with_unfolding_all decide +kernel) fun K hK => ?_); (first | ((refine q_slotput M (i := 1) rfl hk hi rfl ?_; clear M; intro w M; (try simp only [List.set_cons_zero, List.set_cons_succ] at M))) | (refine owp_of ?_; go_simp)); (try go_simp); with_reducible refine hK _ _ ?_; clear hK K) | ((with_reducible refine m_step rfl rfl fun K hK => ?_); (first | ((refine q_slotput M (i := 1) rfl hk hi rfl ?_; clear M; intro w M; (try simp only [List.set_cons_zero, List.set_cons_succ] at M))) | (refine owp_of ?_; go_simp)); (try go_simp); with_reducible refine hK _ _ M.kept ?_; clear hK K))); (with_reducible refine m_nil ?_))
  go_wp2_with (first | (with_reducible (first | refine wq M ?_ | (refine wS M ?_; clear M; intro w M) | (refine wV M ?_; clear M; intro z w M) | (refine wR M ?_; clear M; intro q w M))))
  go_ret
  exact ⟨rfl, (M.drop.swap.slotTake hk hi).swap2⟩
end
end Go.Proofs.Ytpnhkkjjdcjmgaa
