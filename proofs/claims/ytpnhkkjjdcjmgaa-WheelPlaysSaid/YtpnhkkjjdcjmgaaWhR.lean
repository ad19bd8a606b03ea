/-
  wheel's put: a timer laid where it belongs.
-/
import Derived.Test.YtpnhkkjjdcjmgaaWhQ
namespace Go.Proofs.Ytpnhkkjjdcjmgaa
open Go.RowKit
set_option linter.unusedVariables false
set_option linter.unusedSimpArgs false

theorem placF_put (now : Nat) (f : WFn) (t : Tm) : putJ (placF f) t.id (plcV (placeN now t.at_)) = placF (putF now f t) := by
  funext i
  unfold putJ placF putF
  split <;> rfl
theorem placF_some (f : WFn) (i : Int) : (placF f i).isSome = (f i).isSome := by unfold placF; cases f i <;> rfl
theorem place_in {now a : Nat} (hn : now ≤ 1099511627776) (ha : a ≤ 1099511627776) : (placeN now a).1 < 9 ∧ (placeN now a).2 < 32 := ⟨by have := (place_lvl hn ha).2; omega, slot_lt _ _⟩
section
variable {g : Nat} {w0 : World}
theorem Mem.up3 {At : PS → World → Prop} {b : Nat} {u w : World} {s : PS} {e1 e2 e3 y : Ent} {L : List Ent} (M : Mem At b u w s (e1 :: e2 :: e3 :: y :: L)) : Mem At b u w s (y :: e1 :: e2 :: e3 :: L) := M.perm (List.perm_middle (l₁ := [e1, e2, e3]))
theorem Mem.dn3 {At : PS → World → Prop} {b : Nat} {u w : World} {s : PS} {e1 e2 e3 y : Ent} {L : List Ent} (M : Mem At b u w s (y :: e1 :: e2 :: e3 :: L)) : Mem At b u w s (e1 :: e2 :: e3 :: y :: L) := M.perm (List.perm_middle (l₁ := [e1, e2, e3])).symm
theorem Mem.dn4 {At : PS → World → Prop} {b : Nat} {u w : World} {s : PS} {e1 e2 e3 e4 y : Ent} {L : List Ent} (M : Mem At b u w s (y :: e1 :: e2 :: e3 :: e4 :: L)) : Mem At b u w s (e1 :: e2 :: e3 :: e4 :: y :: L) := M.perm (List.perm_middle (l₁ := [e1, e2, e3, e4])).symm
theorem Mem.cut5 {At : PS → World → Prop} {b : Nat} {u w : World} {s : PS} {e1 e2 e3 e4 e5 y : Ent} {L : List Ent} (M : Mem At b u w s (e1 :: e2 :: e3 :: e4 :: e5 :: y :: L)) : Mem At b u w s (e1 :: e2 :: e3 :: e4 :: e5 :: L) := M.cut [e1, e2, e3, e4, e5]
set_option maxRecDepth 8000 in
set_option maxHeartbeats 8000000 in
theorem put_any {w : World} {zc now next n : Nat} {v : Nat → Value} {mz : Option Nat} {W : Whl} {f : WFn} {L : List Ent} (M : Mem (StaysB g w0) g w0 w ⟨0, 0⟩ (ClkL w0 zc now next v mz W n f L)) (t : Tm) (hn : now ≤ 1099511627776) (ha : t.at_ ≤ 1099511627776) (hl : ∀ k i, k < 9 → i < 32 → (W k i).length ≤ 100000000) (hw : wfI t.id) (hm : n < 1000000) :
    Calls Try.prog 17 #[.pointer (some ⟨zc, 0, none⟩), .agg (tmC t).toArray] w fun e w' => e = .returned (.tuple #[]) ∧ ∃ v' mz', Mem (StaysB g w0) g w0 w' ⟨0, 0⟩ (ClkL w0 zc now next v' mz' (putW now W t) (if (f t.id).isSome = true then n else n + 1) (putF now f t) L) := by
  have HLV : Hid (∀ wx, Mem (StaysB g w0) g w0 wx ⟨0, 0⟩ (ClkL w0 zc now next v mz W n f L) → Calls Try.prog 25 #[.pointer (some ⟨zc, 0, none⟩), .int .i64 t.at_] wx fun e w' => e = .returned (plcV (placeN now t.at_)) ∧ Below wx.heap.size wx w') := fun wx Mx => level_any (Mx.ne (List.mem_cons_self ..)).2.2 (by rw [(Mx.own_ (List.mem_cons_self ..)).cell]; rfl) hn ha
  have hin := place_in hn ha
  have HPW : Hid (putW now W t = updW W (placeN now t.at_) (W (placeN now t.at_).1 (placeN now t.at_).2 ++ [t])) := Lib.hid rfl
  have HPF := Lib.hid (placF_put now f t)
  have HPS := Lib.hid (placF_some f t.id)
  generalize placeN now t.at_ = pl at HLV hin HPW HPF
  obtain ⟨pk, ps⟩ := pl
  have hk9 : pk < 9 := hin.1
  have hp32 : ps < 32 := hin.2
  have HLN := Lib.hid (hl pk ps hk9 hp32)
  have hix1 := fun wx => wheel_ix (z := zc) hk9 wx
  have hix2 := fun wx => slot_ix (z := zc) (k := pk) hp32 wx
  clear hin hl
  have HW := Lib.hid hw
  obtain ⟨n', HN'⟩ : ∃ n', Hid ((if (f t.id).isSome = true then n else n + 1) = n') := ⟨_, Lib.hid rfl⟩
  rw [HN'.out]
  obtain ⟨ti, ta, to_⟩ := t
  simp only at HLV HPW HPF HPS HW ha HN'
  go_enter Try.func17, Try.ntmps17
  go_upto_region 2 with (first | (go_at_call 25; with_reducible refine (HLV.out _ M.drop).mono ?_; rintro e w5 ⟨rfl, hb5⟩; replace M := M.below hb5; clear hb5) | (with_reducible (first | (refine wB M ?_; clear M; intro zt w1 M) | (refine wV M ?_; clear M; intro zp w M) | refine wq M ?_ | (refine wS M ?_; clear M; intro w M) | (refine wV M ?_; clear M; intro z w M) | (refine wR M ?_; clear M; intro q w M))))
  clear HLV
  ((refine wp_region_calm M (by kernel_rfl) (by kernel_rfl) ?_); (repeat (first | ((with_reducible refine c_list rfl fun K hK => ?_); (first | (refine c_load (l' := ?_) ⟨_, M⟩ (fun w M => ?_) ?_; rotate_left; focus ((first | (fail) | refine q_get M (by exact rfl) ?_ | refine q_all M (by rfl) ?_ | refine q_prt M (by rfl) ?_); refine ⟨rfl, ?_⟩; with_reducible rfl)) | (refine c_pure (v := ?_) (fun w => ?_) ?_; rotate_left; focus (go_simp; try with_reducible rfl))); (try go_simp); with_reducible refine hK _ ?_; clear hK K) | ((with_reducible refine c_listg fun K hK => ?_); (first | (refine c_load (l' := ?_) ⟨_, M⟩ (fun w M => ?_) ?_; rotate_left; focus ((first | (fail) | refine q_get M (by exact rfl) ?_ | refine q_all M (by rfl) ?_ | refine q_prt M (by rfl) ?_); refine ⟨rfl, ?_⟩; with_reducible rfl)) | (refine c_pure (v := ?_) (fun w => ?_) ?_; rotate_left; focus (go_simp; try with_reducible rfl))); (try go_simp); with_reducible refine hK _ ?_; clear hK K) | (with_reducible refine c_skipT ?_) | (with_reducible refine c_skipF ?_))); (refine wpQuiet_nil ?_); clear M; intro w M)
  go_upto_region 3 with (first | (with_reducible (first | refine wq M ?_ | (refine wS M ?_; clear M; intro w M) | (refine wV M ?_; clear M; intro z w M) | (refine wR M ?_; clear M; intro q w M))))
  replace M := M.up3.slotOut (plainF_firm _) (i := pk * 32 + ps) (by omega) trivial
  rw [flatW_at W hp32] at M
  ((refine wp_region_first [0, 1, 2, 3, 4, 7] [(true, 0), (true, 1), (true, 2), (true, 3), (true, 4), (false, 5), (false, 6), (true, 7), (false, 8)] (fun _ M => M.drop) M (by kernel_rfl) (by kernel_rfl) (fun _ _ _ _ _ h => h) ?_); clear M; intro w M; (repeat (first | ((with_reducible refine m_read rfl M.kept fun K hK => ?_); (first | (refine r_load (l' := ?_) ⟨_, M.kept⟩ (fun w M => ?_) ?_; rotate_left; focus ((first | (refine q_get M (clkC_get hk9 hp32) ?_) | refine q_get M (by exact rfl) ?_ | refine q_all M (by rfl) ?_ | refine q_prt M (by rfl) ?_); refine ⟨rfl, ?_⟩; with_reducible rfl)) | (refine r_pure (v := ?_) rfl (fun w => ?_) ?_; rotate_left; focus (go_simp; try with_reducible rfl))); (try go_simp); with_reducible refine hK _ ?_; clear hK K) | ((with_reducible refine m_last rfl rfl (by with_unfolding_all decide +kernel) fun K hK => ?_); (first | ((refine q_row M (by rfl) ?_; clear M; intro q w M)) | ((refine q_app (R := tmF) (plainF_firm _) M 1 rfl ⟨ti, ta, to_⟩ rfl (by rfl) (by rfl) HLN.out ?_; clear M; intro ra2 rc2 w M; (try simp only [List.set_cons_zero, List.set_cons_succ] at M))) | ((refine q_slotput M (i := 5) rfl hk9 hp32 rfl ?_; clear M; intro w M; (try simp only [List.set_cons_zero, List.set_cons_succ] at M))) | (refine owp_of ?_; go_simp)); (try go_simp); with_reducible refine hK _ _ ?_; clear hK K) | ((with_reducible refine m_step rfl rfl fun K hK => ?_); (first | ((refine q_row M (by rfl) ?_; clear M; intro q w M)) | ((refine q_app (R := tmF) (plainF_firm _) M 1 rfl ⟨ti, ta, to_⟩ rfl (by rfl) (by rfl) HLN.out ?_; clear M; intro ra2 rc2 w M; (try simp only [List.set_cons_zero, List.set_cons_succ] at M))) | ((refine q_slotput M (i := 5) rfl hk9 hp32 rfl ?_; clear M; intro w M; (try simp only [List.set_cons_zero, List.set_cons_succ] at M))) | (refine owp_of ?_; go_simp)); (try go_simp); with_reducible refine hK _ _ M.kept ?_; clear hK K))); (with_reducible refine m_nil ?_))
  replace M := (M.drop.slotIn (plainF_firm _) (by omega) trivial).dn3
  rw [flatW_upd W hp32] at M
  have HW2 := HW.out
  have hnl := fun (mz : Option Nat) (wx : World) => Go.run_eql_map_nil (P := Try.prog) wx 36 3 56 mz Try.underlying36
  cases mz with
  | none =>
    have hno := M.mapN (i := 4) rfl
    have HN0 := Lib.hid hno
    clear hno
    go_upto_region 6 with (first | (with_reducible (first | refine w_ (q_get M clkC_map ?_) | (refine w_ (q_mapJ M (k := 3) ?_); clear M; intro zm w M) | (refine w_ (q_mapput M (i := 3) rfl rfl ?_); clear M; intro w M; (try simp only [List.set_cons_zero, List.set_cons_succ] at M)) | refine wq M ?_ | (refine wS M ?_; clear M; intro w M) | (refine wV M ?_; clear M; intro z w M) | (refine wR M ?_; clear M; intro q w M))))
    have e1 : mpJ Try.prog 3 zm 0 (fun _ => none) = mpV Try.prog 3 (some zm) n (placF f) := by rw [HN0.out.1, show placF f = fun _ => none from funext HN0.out.2]; rfl
    rw [e1] at M
    replace M := M.cut5.dn4
    clear e1 HN0
    ((refine wp_region_first [0, 1, 2, 3, 4, 5, 6] [(true, 0), (true, 1), (true, 2), (true, 3), (true, 4), (true, 5), (true, 6), (false, 7)] (fun _ M => M) M (by kernel_rfl) (by kernel_rfl) (fun _ _ _ _ _ h => h) ?_); clear M; intro w M; (repeat (first | ((with_reducible refine m_read rfl M.kept fun K hK => ?_); (first | (refine r_load (l' := ?_) ⟨_, M.kept⟩ (fun w M => ?_) ?_; rotate_left; focus ((first | (refine q_get M clkC_map ?_) | refine q_get M (by exact rfl) ?_ | refine q_all M (by rfl) ?_ | refine q_prt M (by rfl) ?_); refine ⟨rfl, ?_⟩; with_reducible rfl)) | (refine r_pure (v := ?_) rfl (fun w => ?_) ?_; rotate_left; focus (go_simp; try with_reducible rfl))); (try go_simp); with_reducible refine hK _ ?_; clear hK K) | ((with_reducible refine m_last rfl rfl (by with_unfolding_all decide +kernel) fun K hK => ?_); (first | ((refine q_msetV M (i := 4) rfl (by unfold maxLen; omega) HW.out ?_; clear M; intro w M; (try simp only [List.set_cons_zero, List.set_cons_succ] at M))) | (refine owp_of ?_; go_simp)); (try go_simp); with_reducible refine hK _ _ ?_; clear hK K) | ((with_reducible refine m_step rfl rfl fun K hK => ?_); (first | ((refine q_msetV M (i := 4) rfl (by unfold maxLen; omega) HW.out ?_; clear M; intro w M; (try simp only [List.set_cons_zero, List.set_cons_succ] at M))) | (refine owp_of ?_; go_simp)); (try go_simp); with_reducible refine hK _ _ M.kept ?_; clear hK K))); (with_reducible refine m_nil ?_))
    go_wp2_with (first | (with_reducible (first | refine wq M ?_ | (refine wS M ?_; clear M; intro w M) | (refine wV M ?_; clear M; intro z w M) | (refine wR M ?_; clear M; intro q w M))))
    go_end0
    rw [HPF.out, HPS.out, HN'.out] at M
    rw [HPW.out]
    exact ⟨rfl, _, _, M.drop.drop⟩
  | some zm =>
    go_upto_region 6 with (first | (with_reducible (first | refine w_ (q_get M clkC_map ?_) | refine wq M ?_ | (refine wS M ?_; clear M; intro w M) | (refine wV M ?_; clear M; intro z w M) | (refine wR M ?_; clear M; intro q w M))))
    ((refine wp_region_first [0, 1, 2, 3, 4, 5, 6] [(true, 0), (true, 1), (true, 2), (true, 3), (true, 4), (true, 5), (true, 6), (false, 7)] (fun _ M => M) M (by kernel_rfl) (by kernel_rfl) (fun _ _ _ _ _ h => h) ?_); clear M; intro w M; (repeat (first | ((with_reducible refine m_read rfl M.kept fun K hK => ?_); (first | (refine r_load (l' := ?_) ⟨_, M.kept⟩ (fun w M => ?_) ?_; rotate_left; focus ((first | (refine q_get M clkC_map ?_) | refine q_get M (by exact rfl) ?_ | refine q_all M (by rfl) ?_ | refine q_prt M (by rfl) ?_); refine ⟨rfl, ?_⟩; with_reducible rfl)) | (refine r_pure (v := ?_) rfl (fun w => ?_) ?_; rotate_left; focus (go_simp; try with_reducible rfl))); (try go_simp); with_reducible refine hK _ ?_; clear hK K) | ((with_reducible refine m_last rfl rfl (by with_unfolding_all decide +kernel) fun K hK => ?_); (first | ((refine q_msetV M (i := 4) rfl (by unfold maxLen; omega) HW.out ?_; clear M; intro w M; (try simp only [List.set_cons_zero, List.set_cons_succ] at M))) | (refine owp_of ?_; go_simp)); (try go_simp); with_reducible refine hK _ _ ?_; clear hK K) | ((with_reducible refine m_step rfl rfl fun K hK => ?_); (first | ((refine q_msetV M (i := 4) rfl (by unfold maxLen; omega) HW.out ?_; clear M; intro w M; (try simp only [List.set_cons_zero, List.set_cons_succ] at M))) | (refine owp_of ?_; go_simp)); (try go_simp); with_reducible refine hK _ _ M.kept ?_; clear hK K))); (with_reducible refine m_nil ?_))
    go_wp2_with (first | (with_reducible (first | refine wq M ?_ | (refine wS M ?_; clear M; intro w M) | (refine wV M ?_; clear M; intro z w M) | (refine wR M ?_; clear M; intro q w M))))
    go_end0
    rw [HPF.out, HPS.out, HN'.out] at M
    rw [HPW.out]
    exact ⟨rfl, _, _, M.drop.drop⟩
end
end Go.Proofs.Ytpnhkkjjdcjmgaa
