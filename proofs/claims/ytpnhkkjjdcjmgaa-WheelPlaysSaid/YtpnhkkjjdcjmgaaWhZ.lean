/-
  wheel's Clear.
-/
import Derived.Test.YtpnhkkjjdcjmgaaWhY
namespace Go.Proofs.Ytpnhkkjjdcjmgaa
open Go.RowKit
set_option linter.unusedVariables false
set_option linter.unusedSimpArgs false

theorem cells_one {v : Value} (h : v.oneCell' = true) : v.cells = #[v] := by cases v <;> first | rfl | (simp [Value.oneCell'] at h)
section
variable {P : Program} {dst : Option Tmp} {oty : TypeId} {pos : String} {after : Array Edge} {g : Option (Nat × Bool)} {l : List Value} {ds : List Deferred} {Q : Exit → Act → World → Prop} {K : Act → World → Prop}
variable {At : PS → World → Prop} {b : Nat} {u w : World} {s : PS} {L : List Ent} {ty j : Nat}
/-- A value of one cell boxed. -/
theorem q_boxv {v : Value} (M : Mem At b u w s L) [hy : Nth l j v] [h1 : OneC v] {F : Nat → List Value} [hd : ∀ z, PutI l dst (.pointer (some ⟨z, 0, none⟩)) (F z)] (h : ∀ z w', Mem At b u w' s (own z [v] ty :: L) → K ⟨(F z).toArray, ds⟩ w') : OWP P ⟨dst, .box ty (.tmp j), oty, pos, after, g⟩ ⟨l.toArray, ds⟩ w K Q := by
  refine owp_of ?_
  have hy' := eval_tmp (ds := ds) hy.nth
  unfold Oper.wp execOp
  simp only [Instr.box, hy', Sem.run_bind, newVar, newRow, newObj, cells_one h1.one]
  have hlow : ∀ y, (own w.heap.size [v] ty).blk y → w.heap.size ≤ y ∧ y < (w.alloc (.cells [v].toArray ty)).heap.size := fun y hy => by
    have e : w.heap.size = y := by injection hy
    subst e
    simp
  have key := h w.heap.size (w.alloc (.cells [v].toArray ty)) (M.push (e := own w.heap.size [v] ty) (Joins.below_alloc1 w _) (own_firm _ _ _) hlow (fun G _ => heap_alloc_new w (.cells [v].toArray ty)))
  rw [← (hd w.heap.size).put] at key
  exact key
/-- A function value made, with variables in its reach. -/
class EvsI (l : List Value) (ys : List Operand) (vs : outParam (List Value)) : Prop where
  evs : ∀ ds, ys.map (Act.eval ⟨l.toArray, ds⟩) = vs
instance {l : List Value} : EvsI l [] [] := ⟨fun _ => rfl⟩
instance {l : List Value} {y : Operand} {ys : List Operand} {v : Value} {vs : List Value} [h : EvI l y v] [h' : EvsI l ys vs] : EvsI l (y :: ys) (v :: vs) := ⟨fun ds => by rw [List.map_cons, h.ev, h'.evs]⟩
theorem q_funcs (fn : Fn) {ys : List Operand} {vs : List Value} [hc : EvsI l ys vs] {l' : List Value} [hd : PutI l dst (.func fn #[] vs.toArray) l'] (h : K ⟨l'.toArray, ds⟩ w) : OWP P ⟨dst, .makeFunc fn #[] ys.toArray, oty, pos, after, g⟩ ⟨l.toArray, ds⟩ w K Q := by
  refine owp_of ?_
  have hk : K (Act.put ⟨l.toArray, ds⟩ dst (.func fn #[] vs.toArray)) w := by rw [hd.put]; exact h
  unfold Oper.wp execOp
  simp only [Instr.makeFunc, Sem.run_bind, Sem.run_pure, Result.andThen_ok, List.map_toArray, List.map_nil, hc.evs]
  exact hk
end
theorem filter_one : ∀ {S : List Tm} {id : Int}, (∃ t ∈ S, t.id = id) → (S.Pairwise fun a b => a.id ≠ b.id) → (S.filter fun x => !(x.id == id)).length + 1 = S.length
  | [], id, h, _ => by obtain ⟨t, ht, _⟩ := h; cases ht
  | a :: S, id, h, hp => by
    have hp2 := List.pairwise_cons.1 hp
    by_cases e : a.id = id
    · have hs : S.filter (fun x => !(x.id == id)) = S := List.filter_eq_self.2 fun x hx => by
        have := hp2.1 x hx
        have : x.id ≠ id := fun q => this (e.trans q.symm)
        simpa using this
      rw [List.filter_cons, if_neg (by simp [e]), hs, List.length_cons]
    · have hin : ∃ t ∈ S, t.id = id := by
        obtain ⟨t, ht, hti⟩ := h
        rcases List.mem_cons.1 ht with rfl | ht
        · exact absurd hti e
        · exact ⟨t, ht, hti⟩
      rw [List.filter_cons, if_pos (by simpa using e), List.length_cons, List.length_cons, filter_one hin hp2.2]
theorem placF_del (f : WFn) (i : Int) : delJ (placF f) i = placF (delF f i) := by
  funext j
  unfold delJ placF delF
  split <;> rfl
theorem ClkI.clear {st : WSt} {W : Whl} {f : WFn} {n : Nat} (h : ClkI st W f n) {d : Ded} {t : Tm} (ht : t ∈ st.S) (hid : t.id = d.id) : ClkI (clearW st d) (updW W (placeN st.now t.at_) ((W (placeN st.now t.at_).1 (placeN st.now t.at_).2).filter fun x => !(x.id == d.id))) (delF f d.id) (n - 1) := by
  refine ⟨h.ok.clear d, h.holds.clear ht hid h.ok.ids, h.wher.clear d.id, ?_⟩
  have := filter_one (id := d.id) ⟨t, ht, hid⟩ h.ok.ids
  have := h.cnt
  show n - 1 = (st.S.filter _).length
  omega
theorem clearW_none {st : WSt} {d : Ded} (h : hasI st.S d.id = false) : clearW st d = st := by
  unfold clearW
  have e : st.S.filter (fun t => !(t.id == d.id)) = st.S := List.filter_eq_self.2 fun x hx => by
    have : ¬ x.id = d.id := fun q => by
      have := hasI_iff.2 ⟨x, hx, q⟩
      rw [h] at this
      cases this
    simpa using this
  rw [e]
def ClearP (g : Nat) (w0 : World) (zc : Nat) (st : WSt) (d : Ded) (L : List Ent) (e : Ending) (w : World) : Prop :=
  e = .returned (.int .i64 (codeClear st d)) ∧ ∃ v mz W f n, Mem (StaysB g w0) g w0 w ⟨0, 0⟩ (ClkL w0 zc (clearW st d).now (clearW st d).next v mz W n f L) ∧ ClkI (clearW st d) W f n
section
variable {g : Nat} {w0 : World}
set_option maxRecDepth 8000 in
set_option maxHeartbeats 8000000 in
theorem clear_bad {w : World} {zc n : Nat} {v : Nat → Value} {mz : Option Nat} {W : Whl} {f : WFn} {L : List Ent} {st : WSt} (M : Mem (StaysB g w0) g w0 w ⟨0, 0⟩ (ClkL w0 zc st.now st.next v mz W n f L)) (I : ClkI st W f n) (d : Ded) (hw : wfI d.id) (hno : hasI st.S d.id = false) :
    Calls Try.prog 9 #[.pointer (some ⟨zc, 0, none⟩), .int .i64 d.id] w (ClearP g w0 zc st d L) := by
  have HP : Hid (∀ wx, Mem (StaysB g w0) g w0 wx ⟨0, 0⟩ (ClkL w0 zc st.now st.next v mz W n f L) → ClearP g w0 zc st d L (.returned (.int .i64 6)) wx) := fun wx Mx => by
    unfold ClearP
    rw [clearW_none hno]
    unfold codeClear
    rw [if_neg (by rw [hno]; decide)]
    exact ⟨rfl, _, _, _, _, _, Mx, I⟩
  have hf0 : f d.id = none := by
    have h8 := I.there d.id
    rw [hno] at h8
    cases hx : f d.id with
    | none => rfl
    | some p => rw [hx] at h8; cases h8
  have HV : Hid (Value.tuple #[(placF f d.id).getD (.agg ([.int .i64 0, .int .i64 0] : List Value).toArray), .bool (placF f d.id).isSome] = .tuple #[.agg ([.int .i64 0, .int .i64 0] : List Value).toArray, .bool false]) := by
    show _ = _
    unfold placF
    rw [hf0]
    rfl
  have HWF := Lib.hid hw
  clear hf0 hno I hw
  go_enter Try.func9, Try.ntmps9
  go_upto_region 1 with (first | (with_reducible (first | (refine w_ (q_boxv M ?_); clear M; intro zt w M) | refine wq M ?_ | (refine wS M ?_; clear M; intro w M) | (refine wV M ?_; clear M; intro z w M) | (refine wR M ?_; clear M; intro q w M))))
  ((refine wp_region_first [0, 1, 2, 3, 4, 5, 6, 7, 8, 11] [(true, 0), (true, 1), (true, 2), (true, 3), (true, 4), (true, 5), (true, 6), (true, 7), (true, 8), (false, 9), (false, 10), (true, 11)] (fun _ M => M) M (by kernel_rfl) (by kernel_rfl) (fun _ _ _ _ _ h => h) ?_); clear M; intro w M; (repeat (first | ((with_reducible refine m_read rfl M.kept fun K hK => ?_); (first | (refine r_lookV (fun _ M => M) (i := 3) rfl HWF.out HV.out ?_) | (refine r_load (l' := ?_) ⟨_, M.kept⟩ (fun w M => ?_) ?_; rotate_left; focus ((first | (refine q_get M clkC_map ?_) | refine q_get M (by exact rfl) ?_ | refine q_all M (by rfl) ?_ | refine q_prt M (by rfl) ?_); refine ⟨rfl, ?_⟩; with_reducible rfl)) | (refine r_pure (v := ?_) rfl (fun w => ?_) ?_; rotate_left; focus (go_simp; try with_reducible rfl))); (try go_simp); with_reducible refine hK _ ?_; clear hK K) | ((with_reducible refine m_last rfl rfl (by with_unfolding_all decide +kernel) fun K hK => ?_); (first | ((refine q_var M ?_; clear M; intro zp w M)) | ((refine q_put M (by rfl) (by rfl) (by rfl) ?_; clear M; intro w M; (try simp only [List.set_cons_zero, List.set_cons_succ] at M))) | (refine owp_of ?_; go_simp)); (try go_simp); with_reducible refine hK _ _ ?_; clear hK K) | ((with_reducible refine m_step rfl rfl fun K hK => ?_); (first | ((refine q_var M ?_; clear M; intro zp w M)) | ((refine q_put M (by rfl) (by rfl) (by rfl) ?_; clear M; intro w M; (try simp only [List.set_cons_zero, List.set_cons_succ] at M))) | (refine owp_of ?_; go_simp)); (try go_simp); with_reducible refine hK _ _ M.kept ?_; clear hK K))); (with_reducible refine m_nil ?_))
  go_wp2_with (first | (with_reducible (first | refine wq M ?_ | (refine wS M ?_; clear M; intro w M) | (refine wV M ?_; clear M; intro z w M) | (refine wR M ?_; clear M; intro q w M))))
  go_ret
  exact HP.out _ M.drop.drop
set_option maxRecDepth 8000 in
set_option maxHeartbeats 8000000 in
theorem clear_good {w : World} {zc n : Nat} {v : Nat → Value} {mz : Option Nat} {W : Whl} {f : WFn} {L : List Ent} {st : WSt} (M : Mem (StaysB g w0) g w0 w ⟨0, 0⟩ (ClkL w0 zc st.now st.next v mz W n f L)) (I : ClkI st W f n) (d : Ded) (hw : wfI d.id) {t : Tm} (ht : t ∈ st.S) (hid : t.id = d.id) :
    Calls Try.prog 9 #[.pointer (some ⟨zc, 0, none⟩), .int .i64 d.id] w (ClearP g w0 zc st d L) := by
  have HJ := Lib.hid (I.clear ht hid)
  have hin := place_in I.ok.may (I.ok.late t ht).2
  have hfp : f d.id = some (placeN st.now t.at_) := by rw [← hid]; exact I.wher.at_ t ht
  have hmem : t ∈ W (placeN st.now t.at_).1 (placeN st.now t.at_).2 := (I.holds.mem hin.1 hin.2 t).2 ⟨ht, rfl⟩
  have hlen := I.len hin.1 hin.2
  have HCC : Hid (codeClear st d = 0) := by
    show _ = _
    unfold codeClear
    rw [if_pos (hasI_iff.2 ⟨t, ht, hid⟩)]
  have HNW : Hid ((clearW st d).now = st.now ∧ (clearW st d).next = st.next) := Lib.hid ⟨rfl, rfl⟩
  have hn1000 : n ≤ 1000 := by have := I.cnt; have := I.ok.few; omega
  have HNP : Hid ((if (placF f d.id).isSome = true then n - 1 else n) = n - 1) := by
    show _ = _
    unfold placF
    rw [hfp]
    rfl
  have HPD := Lib.hid (placF_del f d.id)
  have HSL := Lib.hid (M.slotIs (j := 1) rfl hin.1 hin.2)
  generalize placeN st.now t.at_ = pl at *
  obtain ⟨pk, ps⟩ := pl
  simp only at hin hmem hlen HJ HSL
  obtain ⟨hk9, hp32⟩ := hin
  obtain ⟨ra, rc, hv⟩ := HSL.out
  have HVO := Lib.hid hv
  obtain ⟨k, ⟨hkl, hkid⟩, hkm⟩ : ∃ k, (∃ h : k < (W pk ps).length, (W pk ps)[k].id = d.id) ∧ ∀ j, j < k → ¬ ∃ h : j < (W pk ps).length, (W pk ps)[j].id = d.id := by
    obtain ⟨k, hk, e⟩ := List.mem_iff_getElem.1 hmem
    exact least_one k ⟨hk, by rw [e]; exact hid⟩
  have HDF : Hid (∀ wx i zid L2, Mem (StaysB g w0) g w0 wx ⟨0, 0⟩ (slc w0.heap.size 60 3 tmF (.slice ra (W pk ps).length rc) (W pk ps) :: L2) → L2[i]? = some (own zid [.int .i64 d.id] 3) → Calls Try.prog 18 #[.slice ra (W pk ps).length rc, .func (.func 19) #[] #[.pointer (some ⟨zid, 0, none⟩)]] wx fun e w' => e = .returned (.slice ra ((W pk ps).filter fun t => !(t.id == d.id)).length rc) ∧ Mem (StaysB g w0) g w0 w' ⟨0, 0⟩ (slc w0.heap.size 60 3 tmF (.slice ra ((W pk ps).filter fun t => !(t.id == d.id)).length rc) ((W pk ps).filter fun t => !(t.id == d.id)) :: L2)) := fun wx i zid L2 Mx hi => delF_any Mx hi hkl hkid (fun j h hj q => hkm j hj ⟨h, q⟩) (by omega)
  have HV : Hid (Value.tuple #[(placF f d.id).getD (.agg ([.int .i64 0, .int .i64 0] : List Value).toArray), .bool (placF f d.id).isSome] = .tuple #[.agg ([.int .i64 pk, .int .i64 ps] : List Value).toArray, .bool true]) := by
    show _ = _
    unfold placF
    rw [hfp]
    rfl
  have HWF := Lib.hid hw
  have HFW := Lib.hid (flatW_at W (k := pk) hp32)
  have hix1 := fun wx => wheel_ix (z := zc) hk9 wx
  have hix2 := fun wx => slot_ix (z := zc) (k := pk) hp32 wx
  clear hfp hmem hlen I hw hkl hkid hkm hid ht HSL hv
  generalize st.now = now0 at *
  generalize st.next = nx0 at *
  go_enter Try.func9, Try.ntmps9
  go_upto_region 1 with (first | (with_reducible (first | (refine w_ (q_boxv M ?_); clear M; intro zt w M) | refine wq M ?_ | (refine wS M ?_; clear M; intro w M) | (refine wV M ?_; clear M; intro z w M) | (refine wR M ?_; clear M; intro q w M))))
  ((refine wp_region_first [0, 1, 2, 3, 4, 5, 6, 7, 8, 11] [(true, 0), (true, 1), (true, 2), (true, 3), (true, 4), (true, 5), (true, 6), (true, 7), (true, 8), (false, 9), (false, 10), (true, 11)] (fun _ M => M) M (by kernel_rfl) (by kernel_rfl) (fun _ _ _ _ _ h => h) ?_); clear M; intro w M; (repeat (first | ((with_reducible refine m_read rfl M.kept fun K hK => ?_); (first | (refine r_lookV (fun _ M => M) (i := 3) rfl HWF.out HV.out ?_) | (refine r_load (l' := ?_) ⟨_, M.kept⟩ (fun w M => ?_) ?_; rotate_left; focus ((first | (refine q_get M clkC_map ?_) | refine q_get M (by exact rfl) ?_ | refine q_all M (by rfl) ?_ | refine q_prt M (by rfl) ?_); refine ⟨rfl, ?_⟩; with_reducible rfl)) | (refine r_pure (v := ?_) rfl (fun w => ?_) ?_; rotate_left; focus (go_simp; try with_reducible rfl))); (try go_simp); with_reducible refine hK _ ?_; clear hK K) | ((with_reducible refine m_last rfl rfl (by with_unfolding_all decide +kernel) fun K hK => ?_); (first | ((refine q_var M ?_; clear M; intro zp w M)) | ((refine q_put M (by rfl) (by rfl) (by rfl) ?_; clear M; intro w M; (try simp only [List.set_cons_zero, List.set_cons_succ] at M))) | (refine owp_of ?_; go_simp)); (try go_simp); with_reducible refine hK _ _ ?_; clear hK K) | ((with_reducible refine m_step rfl rfl fun K hK => ?_); (first | ((refine q_var M ?_; clear M; intro zp w M)) | ((refine q_put M (by rfl) (by rfl) (by rfl) ?_; clear M; intro w M; (try simp only [List.set_cons_zero, List.set_cons_succ] at M))) | (refine owp_of ?_; go_simp)); (try go_simp); with_reducible refine hK _ _ M.kept ?_; clear hK K))); (with_reducible refine m_nil ?_))
  go_upto_region 4 with (first | (with_reducible (first | refine wq M ?_ | (refine wS M ?_; clear M; intro w M) | (refine wV M ?_; clear M; intro z w M) | (refine wR M ?_; clear M; intro q w M))))
  ((refine wp_region_calm M (by kernel_rfl) (by kernel_rfl) ?_); (repeat (first | ((with_reducible refine c_list rfl fun K hK => ?_); (first | (refine c_load (l' := ?_) ⟨_, M⟩ (fun w M => ?_) ?_; rotate_left; focus ((first | (fail) | refine q_get M (by exact rfl) ?_ | refine q_all M (by rfl) ?_ | refine q_prt M (by rfl) ?_); refine ⟨rfl, ?_⟩; with_reducible rfl)) | (refine c_pure (v := ?_) (fun w => ?_) ?_; rotate_left; focus (go_simp; try with_reducible rfl))); (try go_simp); with_reducible refine hK _ ?_; clear hK K) | ((with_reducible refine c_listg fun K hK => ?_); (first | (refine c_load (l' := ?_) ⟨_, M⟩ (fun w M => ?_) ?_; rotate_left; focus ((first | (fail) | refine q_get M (by exact rfl) ?_ | refine q_all M (by rfl) ?_ | refine q_prt M (by rfl) ?_); refine ⟨rfl, ?_⟩; with_reducible rfl)) | (refine c_pure (v := ?_) (fun w => ?_) ?_; rotate_left; focus (go_simp; try with_reducible rfl))); (try go_simp); with_reducible refine hK _ ?_; clear hK K) | (with_reducible refine c_skipT ?_) | (with_reducible refine c_skipF ?_))); (refine wpQuiet_nil ?_); clear M; intro w M)
  go_upto_region 5 with (first | (with_reducible (first | refine wq M ?_ | (refine wS M ?_; clear M; intro w M) | (refine wV M ?_; clear M; intro z w M) | (refine wR M ?_; clear M; intro q w M))))
  replace M := M.up3.slotOut (plainF_firm _) (i := pk * 32 + ps) (by omega) trivial
  rw [HFW.out, HVO.out] at M
  go_upto_region 6 with (first | (go_at_call 18; have hq := HDF.out _ 2 _ _ M rfl; with_reducible refine hq.mono ?_; clear hq M; rintro e w5 ⟨rfl, M⟩) | (with_reducible (first | refine w_ (q_get M ((clkC_get hk9 hp32).trans (congrArg some HVO.out)) ?_) | refine w_ (q_funcs _ ?_) | (refine w_ (q_slotput M (i := 4) rfl hk9 hp32 rfl ?_); clear M; intro w M; (try simp only [List.set_cons_zero, List.set_cons_succ] at M)) | refine wq M ?_ | (refine wS M ?_; clear M; intro w M) | (refine wV M ?_; clear M; intro z w M) | (refine wR M ?_; clear M; intro q w M))))
  replace M := (M.slotIn (plainF_firm _) (by omega) trivial).dn3
  rw [flatW_upd W hp32] at M
  ((refine wp_region_first [0, 1, 2, 3, 4] [(true, 0), (true, 1), (true, 2), (true, 3), (true, 4), (false, 5)] (fun _ M => M) M (by kernel_rfl) (by kernel_rfl) (fun _ _ _ _ _ h => h) ?_); clear M; intro w M; (repeat (first | ((with_reducible refine m_read rfl M.kept fun K hK => ?_); (first | (refine r_load (l' := ?_) ⟨_, M.kept⟩ (fun w M => ?_) ?_; rotate_left; focus ((first | (refine q_get M clkC_map ?_) | refine q_get M (by exact rfl) ?_ | refine q_all M (by rfl) ?_ | refine q_prt M (by rfl) ?_); refine ⟨rfl, ?_⟩; with_reducible rfl)) | (refine r_pure (v := ?_) rfl (fun w => ?_) ?_; rotate_left; focus (go_simp; try with_reducible rfl))); (try go_simp); with_reducible refine hK _ ?_; clear hK K) | ((with_reducible refine m_last rfl rfl (by with_unfolding_all decide +kernel) fun K hK => ?_); (first | ((refine q_delV M (i := 4) rfl HWF.out ?_; clear M; intro w M; (try simp only [List.set_cons_zero, List.set_cons_succ] at M))) | (refine owp_of ?_; go_simp)); (try go_simp); with_reducible refine hK _ _ ?_; clear hK K) | ((with_reducible refine m_step rfl rfl fun K hK => ?_); (first | ((refine q_delV M (i := 4) rfl HWF.out ?_; clear M; intro w M; (try simp only [List.set_cons_zero, List.set_cons_succ] at M))) | (refine owp_of ?_; go_simp)); (try go_simp); with_reducible refine hK _ _ M.kept ?_; clear hK K))); (with_reducible refine m_nil ?_))
  go_wp2_with (first | (with_reducible (first | refine wq M ?_ | (refine wS M ?_; clear M; intro w M) | (refine wV M ?_; clear M; intro z w M) | (refine wR M ?_; clear M; intro q w M))))
  go_ret
  unfold ClearP
  rw [HCC.out, HNW.out.1, HNW.out.2]
  rw [HNP.out, HPD.out] at M
  exact ⟨rfl, _, _, _, _, _, M.drop.drop, HJ.out⟩
/-- wheel's Clear, whatever it answers. -/
theorem clear_any {w : World} {zc n : Nat} {v : Nat → Value} {mz : Option Nat} {W : Whl} {f : WFn} {L : List Ent} {st : WSt} (M : Mem (StaysB g w0) g w0 w ⟨0, 0⟩ (ClkL w0 zc st.now st.next v mz W n f L)) (I : ClkI st W f n) (d : Ded) (hw : wfI d.id) :
    Calls Try.prog 9 #[.pointer (some ⟨zc, 0, none⟩), .int .i64 d.id] w (ClearP g w0 zc st d L) := by
  cases h : hasI st.S d.id with
  | true =>
    obtain ⟨t, ht, hid⟩ := hasI_iff.1 h
    exact clear_good M I d hw ht hid
  | false => exact clear_bad M I d hw h
end
end Go.Proofs.Ytpnhkkjjdcjmgaa
