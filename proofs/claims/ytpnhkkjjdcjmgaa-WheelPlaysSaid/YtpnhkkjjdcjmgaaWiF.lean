/-
  wheel's Pass.
-/
import Derived.Test.YtpnhkkjjdcjmgaaWiE
namespace Go.Proofs.Ytpnhkkjjdcjmgaa
open Go.RowKit
set_option linter.unusedVariables false
set_option linter.unusedSimpArgs false

abbrev numF : (Nat → Prop) → World → List Value → Int → Prop := plainF fun x => [.int .i64 x]
section
variable {P : Program} {o : Oper} {a : Act} {Q : Exit → Act → World → Prop} {K : Act → World → Prop}
variable {At : PS → World → Prop} {b : Nat} {u w : World} {s : PS} {L : List Ent}
/-- A slice of one cell made. -/
theorem op_build2 (M : Mem At b u w s L) {t e : Nat} (hT : RowT P t e 1) (y : Operand) (ho : o.op = .buildSlice t 1 #[(0, y)]) (v : Value) (hy : a.eval y = v) (h1 : v.cells = #[v])
    (h : ∀ q w', Mem At b u w' s (own q [v] e :: L) → K (a.put o.dst (.slice (some ⟨q, 0, none⟩) 1 1)) w') : o.wp P a w K Q := by
  obtain ⟨hu, ie, z, hie, hz, hsz, hzs, hpos, hsmall, -, -⟩ := hT.open
  have hf0 := fill_one 1 [v] ((Array.range (1 * ie.size)).map (z.cells[· % z.cells.size]!)) rfl (by simp [hsz])
  have hf : Instr.fill (fun i => some (i * ie.size, ie.size)) ((Array.range (1 * ie.size)).map (z.cells[· % z.cells.size]!)) [(0, v)] = some [v].toArray := by
    rw [hsz] at hf0 ⊢
    rw [← hf0]
    have h2 : (Value.agg [v].toArray).cells = #[v] := rfl
    simp only [Instr.fill, h1, h2]
  have hlow : ∀ y, (own w.heap.size [v] e).blk y → w.heap.size ≤ y ∧ y < (w.alloc (.cells [v].toArray e)).heap.size := fun y hy => by
    have e : w.heap.size = y := by injection hy
    subst e
    simp
  exact wp_buildSlice t e 1 #[(0, y)] ho [v].toArray ie z hu hie hz (by rw [hsz]; omega) (by rw [hsz]; omega) (by simpa [hy] using hf) (h w.heap.size _ (M.push (Joins.below_alloc1 w _) (own_firm _ _ _) hlow (fun G _ => heap_alloc_new w _)))
end
section
variable {P : Program} {dst : Option Tmp} {oty : TypeId} {pos : String} {after : Array Edge} {g : Option (Nat × Bool)} {l : List Value} {ds : List Deferred} {Q : Exit → Act → World → Prop} {K : Act → World → Prop}
variable {At : PS → World → Prop} {b : Nat} {u w : World} {s : PS} {L : List Ent} {ty j : Nat}
/-- A slice of one made of a value of one cell. -/
theorem q_rowv (M : Mem At b u w s L) {e : Nat} {v : Value} [hy : Nth l j v] [h1 : OneC v] [hT : RowI P ty e 1] {F : Nat → List Value} [hd : ∀ q, PutI l dst (.slice (some ⟨q, 0, none⟩) 1 1) (F q)] (h : ∀ q w', Mem At b u w' s (own q [v] e :: L) → K ⟨(F q).toArray, ds⟩ w') : OWP P ⟨dst, .buildSlice ty 1 #[(0, .tmp j)], oty, pos, after, g⟩ ⟨l.toArray, ds⟩ w K Q :=
  owp_of (op_build2 M hT.row _ rfl _ (eval_tmp hy.nth) (cells_one h1.one) (fun q w' M' => by rw [(hd q).put]; exact h q w' M'))
end
theorem del_some {D : List Tm} {f : WFn} (hi : D.Pairwise fun a b => a.id ≠ b.id) (hf : ∀ t ∈ D, (f t.id).isSome = true) {j : Nat} (hj : j < D.length) : (((D.take j).foldl (fun g t => delF g t.id) f) D[j].id).isSome = true := by
  rw [delF_all, if_neg]
  · exact hf _ (List.getElem_mem hj)
  · rintro ⟨t, ht, e⟩
    obtain ⟨i, hi2, rfl⟩ := List.mem_iff_getElem.1 ht
    have hij : i < j := by simp at hi2; omega
    have h1 := List.pairwise_iff_getElem.1 hi i j (by omega) hj hij
    rw [List.getElem_take] at e
    exact h1 e
theorem del_step {D : List Tm} {f : WFn} {j : Nat} (hj : j < D.length) : (D.take (j + 1)).foldl (fun g t => delF g t.id) f = delF ((D.take j).foldl (fun g t => delF g t.id) f) D[j].id := by
  rw [List.take_succ_eq_append_getElem hj, List.foldl_append]
  rfl
def PassP (g : Nat) (w0 : World) (zc : Nat) (st : WSt) (d : Ded) (L : List Ent) (e : Ending) (w : World) : Prop :=
  ∃ vo, e = .returned (.tuple #[vo, .int .i64 (codePass st d)]) ∧ ∃ v mz W f n, Mem (StaysB g w0) g w0 w ⟨0, 0⟩ (slc w0.heap.size 3 1 numF vo (duesW st d) :: ClkL w0 zc (passW st d).now (passW st d).next v mz W n f L) ∧ ClkI (passW st d) W f n
section
variable {g : Nat} {w0 : World}
set_option maxRecDepth 8000 in
set_option maxHeartbeats 8000000 in
theorem pass_bad {w : World} {zc n : Nat} {v : Nat → Value} {mz : Option Nat} {W : Whl} {f : WFn} {L : List Ent} {st : WSt} (M : Mem (StaysB g w0) g w0 w ⟨0, 0⟩ (ClkL w0 zc st.now st.next v mz W n f L)) (I : ClkI st W f n) (d : Ded) (hc : d.at_ < st.now ∨ 1099511627776 < d.at_) :
    Calls Try.prog 10 #[.pointer (some ⟨zc, 0, none⟩), .int .i64 d.at_] w (PassP g w0 zc st d L) := by
  have hcp : codePass st d = 12 := by unfold codePass; rw [if_pos hc]
  have HP : Hid (∀ wx, Mem (StaysB g w0) g w0 wx ⟨0, 0⟩ (ClkL w0 zc st.now st.next v mz W n f L) → PassP g w0 zc st d L (.returned (.tuple #[.slice none 0 0, .int .i64 12])) wx) := fun wx Mx => by
    unfold PassP
    have e1 : passW st d = st := by unfold passW; rw [hcp, if_neg (by decide)]
    have e2 : duesW st d = [] := by unfold duesW; rw [hcp, if_neg (by decide)]
    rw [e1, e2, hcp]
    exact ⟨_, rfl, _, _, _, _, _, Mx.none_ (plainF_firm _) 3 1, I⟩
  clear hcp I
  generalize st.now = now0 at *
  generalize st.next = nx0 at *
  by_cases h1 : d.at_ < (now0 : Int)
  · go_enter Try.func10, Try.ntmps10
    go_wp2_with (first | (with_reducible (first | refine wq M ?_ | (refine wS M ?_; clear M; intro w M) | (refine wV M ?_; clear M; intro z w M) | (refine wR M ?_; clear M; intro q w M))))
    go_ret2
    exact HP.out _ M
  · have h2 : 1099511627776 < d.at_ := by omega
    go_enter Try.func10, Try.ntmps10
    go_wp2_with (first | (with_reducible (first | refine wq M ?_ | (refine wS M ?_; clear M; intro w M) | (refine wV M ?_; clear M; intro z w M) | (refine wR M ?_; clear M; intro q w M))))
    go_ret2
    exact HP.out _ M
end
section
variable {S0 : List Tm} {now : Nat} {W : Whl} {D : List Tm} {f : WFn}
theorem PassJ.fit {st : WSt} (P : PassJ st.S now W D f) (ok : WOk st) : Fit 1000 W f := by
  have hH := P.pass.holds
  refine ⟨fun k i hk hi => ?_, fun k i hk hi t ht => ?_⟩
  · have h1 := (hH.slot k i hk hi).length_eq
    have h2 : ((st.S.filter fun x => !decide (x.at_ ≤ now)).filter (inP now (k, i))).length ≤ st.S.length := Nat.le_trans (List.length_filter_le _ _) (List.length_filter_le _ _)
    have := ok.few
    omega
  · have h1 := (hH.mem hk hi t).1 ht
    have h2 := (List.mem_filter.1 h1.1).1
    have h3 := ok.idr t h2
    exact ⟨by rw [P.wher.at_ t h1.1]; rfl, (hH.late t h1.1).2, wfI_of (by omega) (by omega)⟩
end
section
variable {g : Nat} {w0 : World}
set_option maxRecDepth 8000 in
set_option maxHeartbeats 16000000 in
theorem pass_good {w : World} {zc n : Nat} {v : Nat → Value} {mz : Option Nat} {W : Whl} {f : WFn} {L : List Ent} {st : WSt} (M : Mem (StaysB g w0) g w0 w ⟨0, 0⟩ (ClkL w0 zc st.now st.next v mz W n f L)) (I : ClkI st W f n) (d : Ded) (hnx : st.next ≤ 100000) (to : Nat) (hd : d.at_ = (to : Int)) (h1 : st.now ≤ to) (h2 : to ≤ 1099511627776) :
    Calls Try.prog 10 #[.pointer (some ⟨zc, 0, none⟩), .int .i64 to] w (PassP g w0 zc st d L) := by
  have HS0 := Lib.hid I.ok
  have HNC := Lib.hid I.cnt
  have HTO : Hid (st.now ≤ to ∧ to ≤ 1099511627776) := Lib.hid ⟨h1, h2⟩
  have HDA := Lib.hid hd
  have HPJ := Lib.hid (PassJ.start I)
  have hn1 : n < 1000000 := by have := I.cnt; have := I.ok.few; omega
  have hnow0 : st.now ≤ to := h1
  have HBD : Hid (∀ D : List Tm, (∀ t ∈ D, t ∈ st.S.filter fun x => decide (x.at_ ≤ to)) → ∀ t ∈ D, t.at_ ≤ 1099511627776 ∧ t.ord ≤ 1099511627776) := fun D hD t ht => by
    have h3 := (List.mem_filter.1 (hD t ht)).1
    have := I.ok.top t h3
    exact ⟨(I.ok.late t h3).2, by omega⟩
  have HDL : Hid (∀ D : List Tm, D.Perm (st.S.filter fun x => decide (x.at_ ≤ to)) → D.length ≤ 1000000) := fun D hD => by
    have h3 := hD.length_eq
    have h4 : (st.S.filter fun x => decide (x.at_ ≤ to)).length ≤ st.S.length := List.length_filter_le _ _
    have := I.ok.few
    omega
  have HDW : Hid (∀ (now1 : Nat) (D : List Tm), D.Perm (st.S.filter fun x => decide (x.at_ ≤ now1)) → D.length ≤ 1000) := fun now1 D hD => by
    have h3 := hD.length_eq
    have h4 : (st.S.filter fun x => decide (x.at_ ≤ now1)).length ≤ st.S.length := List.length_filter_le _ _
    have := I.ok.few
    omega
  obtain ⟨nx0, hnx0⟩ : ∃ nx0, st.next = nx0 := ⟨_, rfl⟩
  have HNX : Hid (st.next = nx0) := Lib.hid hnx0
  rw [hnx0] at M
  clear hnx hnx0 hd I h1
  have wto := wrap_nat (n := to) (by omega)
  have h3 : ¬ (to : Int) < (st.now : Int) := by omega
  have h4 : ¬ 1099511627776 < (to : Int) := by omega
  obtain ⟨now0, hn0⟩ : ∃ now0, st.now = now0 := ⟨_, rfl⟩
  rw [hn0] at M h3 hnow0 HPJ
  clear hn0
  go_enter Try.func10, Try.ntmps10
  go_wp2_with (first | (with_reducible (first | refine wq M ?_ | (refine wS M ?_; clear M; intro w M) | (refine wV M ?_; clear M; intro z w M) | (refine wR M ?_; clear M; intro q w M))))
  replace M := M.none_ (plainF_firm tmC) 60 3
  go_loopg [6] (downN now0 (st.S.filter (later now0))) (fun f' i6 wr => ∃ (now1 : Nat) (ra : Option Addr) (m rc : Nat) (vv : Nat → Value) (mz1 : Option Nat) (W1 : Whl) (D1 : List Tm) (f1 : WFn), Hid (downN now1 (st.S.filter (later now1)) ≤ f') ∧ now1 ≤ to ∧ i6 = .slice ra m rc ∧ Mem (StaysB g w0) g w0 wr ⟨0, 0⟩ (slc w0.heap.size 60 3 tmF (.slice ra m rc) D1 :: ClkL w0 zc now1 nx0 vv mz1 W1 n f1 L) ∧ Hid (PassJ st.S now1 W1 D1 f1))
  case atStart => exact ⟨now0, none, 0, 0, v, mz, W, [], f, Lib.hid (Nat.le_refl _), hnow0, rfl, M, HPJ⟩
  case round =>
    clear M HPJ h3
    obtain ⟨now1, ra, m, rc, vv, mz1, W1, D1, f1, HME, hnw, rfl, M, HPJ⟩ := hrel
    obtain ⟨o, ho⟩ := nearO_any now1 W1 (fun v u hv hu => HPJ.out.pass.holds.empty hv hu)
    have HNE : Hid (∀ wx, Mem (StaysB g w0) g w0 wx ⟨0, 0⟩ (ClkL w0 zc now1 nx0 vv mz1 W1 n f1 (slc w0.heap.size 60 3 tmF (.slice ra m rc) D1 :: L)) → Calls Try.prog 20 #[.pointer (some ⟨zc, 0, none⟩)] wx fun e w' => e = .returned (nearV now1 o) ∧ Mem (StaysB g w0) g w0 w' ⟨0, 0⟩ (ClkL w0 zc now1 nx0 vv mz1 W1 n f1 (slc w0.heap.size 60 3 tmF (.slice ra m rc) D1 :: L))) := fun wx Mx => nearest_any Mx (by omega) ho
    have HMB : Hid (m ≤ 1000) := by
      have h5 := (M.slf (plainF_firm tmC) (i := 0) rfl (by decide)).len
      show _ ≤ _
      rw [h5]
      exact HDW.out now1 D1 HPJ.out.pass.due
    cases o with
    | none =>
      have HT := Lib.hid (HPJ.out.stop hnw h2 (.inr ho))
      clear HPJ HME HDW ho
      have HNE2 : Hid (∀ wx, Mem (StaysB g w0) g w0 wx ⟨0, 0⟩ (ClkL w0 zc now1 nx0 vv mz1 W1 n f1 (slc w0.heap.size 60 3 tmF (.slice ra m rc) D1 :: L)) → Calls Try.prog 20 #[.pointer (some ⟨zc, 0, none⟩)] wx fun e w' => e = .returned (.tuple #[.int .i64 0, .bool false]) ∧ Mem (StaysB g w0) g w0 w' ⟨0, 0⟩ (ClkL w0 zc now1 nx0 vv mz1 W1 n f1 (slc w0.heap.size 60 3 tmF (.slice ra m rc) D1 :: L))) := HNE.out
      clear HNE
      go_upto_region 7 with (first | (go_at_call 20; with_reducible refine (HNE2.out _ M.dn3).mono ?_; clear HNE2 M; rintro e w5 ⟨rfl, M⟩; replace M := M.up3) | (with_reducible (first | refine wq M ?_ | (refine wS M ?_; clear M; intro w M) | (refine wV M ?_; clear M; intro z w M) | (refine wR M ?_; clear M; intro q w M))))
      go_upto_region 8 with (first | (with_reducible (first | refine wq M ?_ | (refine wS M ?_; clear M; intro w M) | (refine wV M ?_; clear M; intro z w M) | (refine wR M ?_; clear M; intro q w M))))
      have hbd := HBD.out _ (fun t ht => (HT.out.2.1.mem_iff.1 ht))
      have HSO : Hid (∀ wx, Mem (StaysB g w0) g w0 wx ⟨0, 0⟩ (slc w0.heap.size 60 3 tmF (.slice ra m rc) D1 :: ClkL w0 zc to nx0 vv mz1 W1 n f1 L) → Calls Try.prog 22 #[.slice ra m rc, .func (.func 23) #[] #[]] wx fun e w' => e = .returned (.tuple #[]) ∧ ∃ ys : List Tm, ys.Perm D1 ∧ (∀ i j (hi : i < ys.length) (hj : j < ys.length), i < j → ¬ keyLt ys[j] ys[i]) ∧ Mem (StaysB g w0) g w0 w' ⟨0, 0⟩ (slc w0.heap.size 60 3 tmF (.slice ra m rc) ys :: ClkL w0 zc to nx0 vv mz1 W1 n f1 L)) := fun wx Mx => sort_any Mx hbd (HDL.out _ HT.out.2.1)
      clear hbd
      go_upto_region 9 with (first | (go_at_call 22; with_reducible refine (HSO.out _ M).mono ?_; clear HSO M; go_loud (rintro e w5 ⟨rfl, Ds, hpe, hso, M⟩)) | (with_reducible (first | refine wq M ?_ | (refine wS M ?_; clear M; intro w M) | (refine wV M ?_; clear M; intro z w M) | (refine wR M ?_; clear M; intro q w M))))
      have HPE := Lib.hid hpe
      have HSRT := Lib.hid (due_sorted HS0.out.ord HT.out.2.1 hpe hso)
      have HML : Hid (m = Ds.length) := Lib.hid (M.slf (plainF_firm tmC) (i := 0) rfl (by decide)).len
      have HIDS : Hid (Ds.Pairwise fun a b => a.id ≠ b.id) := Lib.hid (((hpe.trans HT.out.2.1).symm.pairwise_iff (fun {x y} h => Ne.symm h)).1 (HS0.out.ids.sublist List.filter_sublist))
      have HFS : Hid (∀ t ∈ Ds, (f1 t.id).isSome = true ∧ wfI t.id) := Lib.hid (fun t ht => ⟨(HT.out.2.2.dom t.id).2 (.inr ⟨t, hpe.mem_iff.1 ht, rfl⟩), by
        have h1 := HS0.out.idr t (List.mem_filter.1 (HT.out.2.1.mem_iff.1 (hpe.mem_iff.1 ht))).1
        exact wfI_of (by omega) (by omega)⟩)
      clear hpe hso
      replace M := M.none_ (plainF_firm fun x : Int => [Value.int .i64 x]) 3 1
      have hmr := (M.slf (plainF_firm tmC) (i := 1) rfl (by decide)).le
      go_wp2_with (first | (with_reducible (first | refine wq M ?_ | (refine wS M ?_; clear M; intro w M) | (refine wV M ?_; clear M; intro z w M) | (refine wR M ?_; clear M; intro q w M))))
      go_loopg [9, 47] m (fun f' i9 i47 wr => ∃ (j : Nat) (ro : Option Addr) (co : Nat), j + f' = m ∧ i47 = .int .i64 j ∧ i9 = .slice ro j co ∧ Mem (StaysB g w0) g w0 wr ⟨0, 0⟩ (slc w0.heap.size 3 1 numF (.slice ro j co) ((Ds.take j).map Tm.id) :: slc w0.heap.size 60 3 tmF (.slice ra m rc) Ds :: ClkL w0 zc to nx0 vv mz1 W1 (n - j) ((Ds.take j).foldl (fun g t => delF g t.id) f1) L))
      case atStart => exact ⟨0, none, 0, by omega, rfl, rfl, M⟩
      case round =>
        clear M
        obtain ⟨j, ro, co, hj, rfl, rfl, M⟩ := hrel
        by_cases hjm : j < m
        · have hjl : j < Ds.length := by have := HML.out; omega
          obtain ⟨cp, op, rowp, hixp, -, hrrp, hwp⟩ := SlF.rowAt (P := Try.prog) (M.slf (plainF_firm tmC) (i := 1) rfl (by decide)) (plainF_firm tmC) Try.underlying32 size_tm (i := j) hjl
          have HRP := Lib.hid ((hwp _ (Below.refl _ _)).1)
          have ep : rowp = tmC Ds[j] := hrrp
          rw [ep] at HRP
          unfold tmC at HRP
          have HX1 : Hid ((Ds.take (j + 1)).map Tm.id = (Ds.take j).map Tm.id ++ [Ds[j].id]) := by show _ = _; rw [List.take_succ_eq_append_getElem hjl, List.map_append]; rfl
          have HX2 := Lib.hid (del_step (f := f1) hjl)
          have HX3 : Hid (((Ds.take j).map Tm.id).length = j) := by show _ = _; rw [List.length_map, List.length_take]; omega
          have HX4 := Lib.hid (del_some (f := f1) HIDS.out (fun t ht => (HFS.out t ht).1) hjl)
          have HX5 : Hid (wfI Ds[j].id) := Lib.hid (HFS.out _ (List.getElem_mem hjl)).2
          have HX6 : Hid (((Ds.take j).map Tm.id).length ≤ 100000000) := by show _ ≤ _; rw [HX3.out]; have := HMB.out; omega
          clear hwp hrrp ep
          generalize Ds[j] = x0 at *
          generalize (Ds.take j).map Tm.id = outj at *
          generalize (Ds.take j).foldl (fun g t => delF g t.id) f1 = fj at *
          have HX7 : Hid ((if (placF fj x0.id).isSome = true then n - j - 1 else n - j) = n - (j + 1)) := by show _ = _; rw [placF_some, if_pos HX4.out, Nat.sub_sub]
          have HX8 := Lib.hid (placF_del fj x0.id)
          go_upto_region 14 with (first | (((with_reducible refine o_list rfl fun K hK => ?_); (refine q_app (R := numF) (plainF_firm _) M 2 rfl x0.id rfl (by rfl) (by rfl) HX6.out ?_; clear M; intro ra2 rc2 w M; (try simp only [List.set_cons_zero, List.set_cons_succ] at M)); refine hK _ _ ?_; clear hK K)) | (with_reducible (first | refine wA HRP.out ?_ | (refine wV M ?_; clear M; intro z11 w M) | (refine w_ (q_rowv M ?_); clear M; intro q w M) | refine wq M ?_ | (refine wS M ?_; clear M; intro w M) | (refine wV M ?_; clear M; intro z w M) | (refine wR M ?_; clear M; intro q w M))))
          ((refine wp_region_first [0, 1, 2, 3, 4, 5] [(true, 0), (true, 1), (true, 2), (true, 3), (true, 4), (true, 5), (false, 6)] (fun _ M => M) M (by kernel_rfl) (by kernel_rfl) (fun _ _ _ _ _ h => h) ?_); clear M; intro w M; (repeat (first | ((with_reducible refine m_read rfl M.kept fun K hK => ?_); (first | (refine r_load (l' := ?_) ⟨_, M.kept⟩ (fun w M => ?_) ?_; rotate_left; focus ((first | (refine q_get M clkC_map ?_) | refine q_get M (by exact rfl) ?_ | refine q_all M (by rfl) ?_ | refine q_prt M (by rfl) ?_); refine ⟨rfl, ?_⟩; with_reducible rfl)) | (refine r_pure (v := ?_) rfl (fun w => ?_) ?_; rotate_left; focus (go_simp; try with_reducible rfl))); (try go_simp); with_reducible refine hK _ ?_; clear hK K) | ((with_reducible refine m_last rfl rfl (by with_unfolding_all decide +kernel) fun K hK => ?_); (first | ((refine q_delV M (i := 6) rfl HX5.out ?_; clear M; intro w M; (try simp only [List.set_cons_zero, List.set_cons_succ] at M))) | (refine owp_of ?_; go_simp)); (try go_simp); with_reducible refine hK _ _ ?_; clear hK K) | ((with_reducible refine m_step rfl rfl fun K hK => ?_); (first | ((refine q_delV M (i := 6) rfl HX5.out ?_; clear M; intro w M; (try simp only [List.set_cons_zero, List.set_cons_succ] at M))) | (refine owp_of ?_; go_simp)); (try go_simp); with_reducible refine hK _ _ M.kept ?_; clear hK K))); (with_reducible refine m_nil ?_))
          go_wp2_with (first | (with_reducible (first | refine wq M ?_ | (refine wS M ?_; clear M; intro w M) | (refine wV M ?_; clear M; intro z w M) | (refine wR M ?_; clear M; intro q w M))))
          go_roundg (m - (j + 1))
          case measure => omega
          case rel => exact ⟨j + 1, ra2, rc2, by omega, by go_num, by rw [HX3.out], by rw [HX7.out, HX8.out] at M; rw [HX1.out, HX2.out, ← HX3.out]; rw [← HX3.out] at M; exact M.drop.drop⟩
        · have e1 : j = m := by omega
          subst e1
          have HEN : Hid (Ds.take j = Ds) := by show _ = _; rw [HML.out]; exact List.take_length
          have HDN := Lib.hid (PassJ.done (d := d) HS0.out HNC.out HTO.out.1 HTO.out.2 HT.out.1 HT.out.2.1 HT.out.2.2 HPE.out HSRT.out HDA.out)
          rw [HEN.out] at M
          have hjj : ¬ (j : Int) < (j : Int) := by omega
          go_wp2_with (first | (with_reducible (first | refine wq M ?_ | (refine wS M ?_; clear M; intro w M) | (refine wV M ?_; clear M; intro z w M) | (refine wR M ?_; clear M; intro q w M))))
          go_ret2
          unfold PassP
          have h9 := HDN.out
          rw [h9.1, h9.2.1, h9.2.2.1, h9.2.2.2.1, HNX.out]
          refine ⟨_, rfl, _, _, _, _, _, M.cut [_], ?_⟩
          rw [HML.out]
          exact h9.2.2.2.2
    | some pl =>
      obtain ⟨wl0, sl0⟩ := pl
      have N : Near now1 W1 wl0 sl0 := ho
      by_cases hst : to < begS now1 wl0 sl0
      · have HT := Lib.hid (HPJ.out.stop hnw h2 (.inl ⟨wl0, sl0, N, hst⟩))
        clear HPJ HME HDW ho N
        have HNE2 : Hid (∀ wx, Mem (StaysB g w0) g w0 wx ⟨0, 0⟩ (ClkL w0 zc now1 nx0 vv mz1 W1 n f1 (slc w0.heap.size 60 3 tmF (.slice ra m rc) D1 :: L)) → Calls Try.prog 20 #[.pointer (some ⟨zc, 0, none⟩)] wx fun e w' => e = .returned (.tuple #[.int .i64 (begS now1 wl0 sl0), .bool true]) ∧ Mem (StaysB g w0) g w0 w' ⟨0, 0⟩ (ClkL w0 zc now1 nx0 vv mz1 W1 n f1 (slc w0.heap.size 60 3 tmF (.slice ra m rc) D1 :: L))) := HNE.out
        clear HNE
        generalize begS now1 wl0 sl0 = tb at *
        have hst2 : (to : Int) < (tb : Int) := by omega
        go_upto_region 7 with (first | (go_at_call 20; with_reducible refine (HNE2.out _ M.dn3).mono ?_; clear HNE2 M; rintro e w5 ⟨rfl, M⟩; replace M := M.up3) | (with_reducible (first | refine wq M ?_ | (refine wS M ?_; clear M; intro w M) | (refine wV M ?_; clear M; intro z w M) | (refine wR M ?_; clear M; intro q w M))))
        go_upto_region 8 with (first | (with_reducible (first | refine wq M ?_ | (refine wS M ?_; clear M; intro w M) | (refine wV M ?_; clear M; intro z w M) | (refine wR M ?_; clear M; intro q w M))))
        have hbd := HBD.out _ (fun t ht => (HT.out.2.1.mem_iff.1 ht))
        have HSO : Hid (∀ wx, Mem (StaysB g w0) g w0 wx ⟨0, 0⟩ (slc w0.heap.size 60 3 tmF (.slice ra m rc) D1 :: ClkL w0 zc to nx0 vv mz1 W1 n f1 L) → Calls Try.prog 22 #[.slice ra m rc, .func (.func 23) #[] #[]] wx fun e w' => e = .returned (.tuple #[]) ∧ ∃ ys : List Tm, ys.Perm D1 ∧ (∀ i j (hi : i < ys.length) (hj : j < ys.length), i < j → ¬ keyLt ys[j] ys[i]) ∧ Mem (StaysB g w0) g w0 w' ⟨0, 0⟩ (slc w0.heap.size 60 3 tmF (.slice ra m rc) ys :: ClkL w0 zc to nx0 vv mz1 W1 n f1 L)) := fun wx Mx => sort_any Mx hbd (HDL.out _ HT.out.2.1)
        clear hbd
        go_upto_region 9 with (first | (go_at_call 22; with_reducible refine (HSO.out _ M).mono ?_; clear HSO M; go_loud (rintro e w5 ⟨rfl, Ds, hpe, hso, M⟩)) | (with_reducible (first | refine wq M ?_ | (refine wS M ?_; clear M; intro w M) | (refine wV M ?_; clear M; intro z w M) | (refine wR M ?_; clear M; intro q w M))))
        have HPE := Lib.hid hpe
        have HSRT := Lib.hid (due_sorted HS0.out.ord HT.out.2.1 hpe hso)
        have HML : Hid (m = Ds.length) := Lib.hid (M.slf (plainF_firm tmC) (i := 0) rfl (by decide)).len
        have HIDS : Hid (Ds.Pairwise fun a b => a.id ≠ b.id) := Lib.hid (((hpe.trans HT.out.2.1).symm.pairwise_iff (fun {x y} h => Ne.symm h)).1 (HS0.out.ids.sublist List.filter_sublist))
        have HFS : Hid (∀ t ∈ Ds, (f1 t.id).isSome = true ∧ wfI t.id) := Lib.hid (fun t ht => ⟨(HT.out.2.2.dom t.id).2 (.inr ⟨t, hpe.mem_iff.1 ht, rfl⟩), by
          have h1 := HS0.out.idr t (List.mem_filter.1 (HT.out.2.1.mem_iff.1 (hpe.mem_iff.1 ht))).1
          exact wfI_of (by omega) (by omega)⟩)
        clear hpe hso
        replace M := M.none_ (plainF_firm fun x : Int => [Value.int .i64 x]) 3 1
        have hmr := (M.slf (plainF_firm tmC) (i := 1) rfl (by decide)).le
        go_wp2_with (first | (with_reducible (first | refine wq M ?_ | (refine wS M ?_; clear M; intro w M) | (refine wV M ?_; clear M; intro z w M) | (refine wR M ?_; clear M; intro q w M))))
        go_loopg [9, 47] m (fun f' i9 i47 wr => ∃ (j : Nat) (ro : Option Addr) (co : Nat), j + f' = m ∧ i47 = .int .i64 j ∧ i9 = .slice ro j co ∧ Mem (StaysB g w0) g w0 wr ⟨0, 0⟩ (slc w0.heap.size 3 1 numF (.slice ro j co) ((Ds.take j).map Tm.id) :: slc w0.heap.size 60 3 tmF (.slice ra m rc) Ds :: ClkL w0 zc to nx0 vv mz1 W1 (n - j) ((Ds.take j).foldl (fun g t => delF g t.id) f1) L))
        case atStart => exact ⟨0, none, 0, by omega, rfl, rfl, M⟩
        case round =>
          clear M
          obtain ⟨j, ro, co, hj, rfl, rfl, M⟩ := hrel
          by_cases hjm : j < m
          · have hjl : j < Ds.length := by have := HML.out; omega
            obtain ⟨cp, op, rowp, hixp, -, hrrp, hwp⟩ := SlF.rowAt (P := Try.prog) (M.slf (plainF_firm tmC) (i := 1) rfl (by decide)) (plainF_firm tmC) Try.underlying32 size_tm (i := j) hjl
            have HRP := Lib.hid ((hwp _ (Below.refl _ _)).1)
            have ep : rowp = tmC Ds[j] := hrrp
            rw [ep] at HRP
            unfold tmC at HRP
            have HX1 : Hid ((Ds.take (j + 1)).map Tm.id = (Ds.take j).map Tm.id ++ [Ds[j].id]) := by show _ = _; rw [List.take_succ_eq_append_getElem hjl, List.map_append]; rfl
            have HX2 := Lib.hid (del_step (f := f1) hjl)
            have HX3 : Hid (((Ds.take j).map Tm.id).length = j) := by show _ = _; rw [List.length_map, List.length_take]; omega
            have HX4 := Lib.hid (del_some (f := f1) HIDS.out (fun t ht => (HFS.out t ht).1) hjl)
            have HX5 : Hid (wfI Ds[j].id) := Lib.hid (HFS.out _ (List.getElem_mem hjl)).2
            have HX6 : Hid (((Ds.take j).map Tm.id).length ≤ 100000000) := by show _ ≤ _; rw [HX3.out]; have := HMB.out; omega
            clear hwp hrrp ep
            generalize Ds[j] = x0 at *
            generalize (Ds.take j).map Tm.id = outj at *
            generalize (Ds.take j).foldl (fun g t => delF g t.id) f1 = fj at *
            have HX7 : Hid ((if (placF fj x0.id).isSome = true then n - j - 1 else n - j) = n - (j + 1)) := by show _ = _; rw [placF_some, if_pos HX4.out, Nat.sub_sub]
            have HX8 := Lib.hid (placF_del fj x0.id)
            go_upto_region 14 with (first | (((with_reducible refine o_list rfl fun K hK => ?_); (refine q_app (R := numF) (plainF_firm _) M 2 rfl x0.id rfl (by rfl) (by rfl) HX6.out ?_; clear M; intro ra2 rc2 w M; (try simp only [List.set_cons_zero, List.set_cons_succ] at M)); refine hK _ _ ?_; clear hK K)) | (with_reducible (first | refine wA HRP.out ?_ | (refine wV M ?_; clear M; intro z11 w M) | (refine w_ (q_rowv M ?_); clear M; intro q w M) | refine wq M ?_ | (refine wS M ?_; clear M; intro w M) | (refine wV M ?_; clear M; intro z w M) | (refine wR M ?_; clear M; intro q w M))))
            ((refine wp_region_first [0, 1, 2, 3, 4, 5] [(true, 0), (true, 1), (true, 2), (true, 3), (true, 4), (true, 5), (false, 6)] (fun _ M => M) M (by kernel_rfl) (by kernel_rfl) (fun _ _ _ _ _ h => h) ?_); clear M; intro w M; (repeat (first | ((with_reducible refine m_read rfl M.kept fun K hK => ?_); (first | (refine r_load (l' := ?_) ⟨_, M.kept⟩ (fun w M => ?_) ?_; rotate_left; focus ((first | (refine q_get M clkC_map ?_) | refine q_get M (by exact rfl) ?_ | refine q_all M (by rfl) ?_ | refine q_prt M (by rfl) ?_); refine ⟨rfl, ?_⟩; with_reducible rfl)) | (refine r_pure (v := ?_) rfl (fun w => ?_) ?_; rotate_left; focus (go_simp; try with_reducible rfl))); (try go_simp); with_reducible refine hK _ ?_; clear hK K) | ((with_reducible refine m_last rfl rfl (by with_unfolding_all decide +kernel) fun K hK => ?_); (first | ((refine q_delV M (i := 6) rfl HX5.out ?_; clear M; intro w M; (try simp only [List.set_cons_zero, List.set_cons_succ] at M))) | (refine owp_of ?_; go_simp)); (try go_simp); with_reducible refine hK _ _ ?_; clear hK K) | ((with_reducible refine m_step rfl rfl fun K hK => ?_); (first | ((refine q_delV M (i := 6) rfl HX5.out ?_; clear M; intro w M; (try simp only [List.set_cons_zero, List.set_cons_succ] at M))) | (refine owp_of ?_; go_simp)); (try go_simp); with_reducible refine hK _ _ M.kept ?_; clear hK K))); (with_reducible refine m_nil ?_))
            go_wp2_with (first | (with_reducible (first | refine wq M ?_ | (refine wS M ?_; clear M; intro w M) | (refine wV M ?_; clear M; intro z w M) | (refine wR M ?_; clear M; intro q w M))))
            go_roundg (m - (j + 1))
            case measure => omega
            case rel => exact ⟨j + 1, ra2, rc2, by omega, by go_num, by rw [HX3.out], by rw [HX7.out, HX8.out] at M; rw [HX1.out, HX2.out, ← HX3.out]; rw [← HX3.out] at M; exact M.drop.drop⟩
          · have e1 : j = m := by omega
            subst e1
            have HEN : Hid (Ds.take j = Ds) := by show _ = _; rw [HML.out]; exact List.take_length
            have HDN := Lib.hid (PassJ.done (d := d) HS0.out HNC.out HTO.out.1 HTO.out.2 HT.out.1 HT.out.2.1 HT.out.2.2 HPE.out HSRT.out HDA.out)
            rw [HEN.out] at M
            have hjj : ¬ (j : Int) < (j : Int) := by omega
            go_wp2_with (first | (with_reducible (first | refine wq M ?_ | (refine wS M ?_; clear M; intro w M) | (refine wV M ?_; clear M; intro z w M) | (refine wR M ?_; clear M; intro q w M))))
            go_ret2
            unfold PassP
            have h9 := HDN.out
            rw [h9.1, h9.2.1, h9.2.2.1, h9.2.2.2.1, HNX.out]
            refine ⟨_, rfl, _, _, _, _, _, M.cut [_], ?_⟩
            rw [HML.out]
            exact h9.2.2.2.2
      · have HNE2 : Hid (∀ wx, Mem (StaysB g w0) g w0 wx ⟨0, 0⟩ (ClkL w0 zc now1 nx0 vv mz1 W1 n f1 (slc w0.heap.size 60 3 tmF (.slice ra m rc) D1 :: L)) → Calls Try.prog 20 #[.pointer (some ⟨zc, 0, none⟩)] wx fun e w' => e = .returned (.tuple #[.int .i64 (begS now1 wl0 sl0), .bool true]) ∧ Mem (StaysB g w0) g w0 w' ⟨0, 0⟩ (ClkL w0 zc now1 nx0 vv mz1 W1 n f1 (slc w0.heap.size 60 3 tmF (.slice ra m rc) D1 :: L))) := HNE.out
        clear HNE
        have hnx3 := HPJ.out.next HS0.out.ids N
        have HNJ := Lib.hid hnx3.1
        have HDN := Lib.hid hnx3.2.1
        have htb := hnx3.2.2
        have HFI := Lib.hid (HPJ.out.fit HS0.out)
        clear HPJ ho N hnx3
        have HRE : Hid (∀ wx, Mem (StaysB g w0) g w0 wx ⟨0, 0⟩ (ClkL w0 zc now1 nx0 vv mz1 W1 n f1 (slc w0.heap.size 60 3 tmF (.slice ra m rc) D1 :: L)) → Calls Try.prog 21 #[.pointer (some ⟨zc, 0, none⟩), .int .i64 (begS now1 wl0 sl0)] wx (ReachP g w0 zc (begS now1 wl0 sl0) nx0 n W1 f1 (slc w0.heap.size 60 3 tmF (.slice ra m rc) D1 :: L))) := fun wx Mx => reach_any Mx (begS now1 wl0 sl0) htb HFI.out hn1
        generalize begS now1 wl0 sl0 = tb at *
        have hst2 : ¬ (to : Int) < (tb : Int) := by omega
        have HLE := Lib.hid (HDW.out tb _ HNJ.out.pass.due)
        unfold ReachP at HRE
        generalize reachW tb 8 W1 0 (slotN tb 0) = ys at *
        generalize updW (reachW tb 8 W1) (0, slotN tb 0) [] = W2 at *
        generalize reachF tb 8 W1 f1 = f2 at *
        have HLY : Hid (D1.length + ys.length ≤ 1000000) := by have := HLE.out; rw [List.length_append] at this; show _ ≤ _; omega
        go_wp2_with (first | (go_at_call 20; with_reducible refine (HNE2.out _ M.dn3).mono ?_; clear HNE2 M; rintro e w5 ⟨rfl, M⟩; replace M := M.up3) | (go_at_call 21; with_reducible refine (HRE.out _ M.dn3).mono ?_; clear HRE M; go_loud (rintro e w5 ⟨o2, v2, mz2, rfl, M⟩); obtain ⟨ra2, rc2, ho2⟩ := slc_slice M (i := 0) rfl; subst ho2) | (with_reducible (first | (refine w_ (q_apps (iq := 4) (jq := 0) M rfl rfl HLY.out ?_); clear M; intro ra3 rc3 w M; (try simp only [List.set_cons_zero, List.set_cons_succ] at M)) | refine wq M ?_ | (refine wS M ?_; clear M; intro w M) | (refine wV M ?_; clear M; intro z w M) | (refine wR M ?_; clear M; intro q w M))))
        go_roundg (downN tb (st.S.filter (later tb)))
        case measure => have := HDN.out; have := HME.out; omega
        case rel => exact ⟨tb, ra3, _, rc3, v2, mz2, W2, D1 ++ ys, f2, Lib.hid (Nat.le_refl _), by omega, rfl, M.drop.up3, HNJ⟩
end
end Go.Proofs.Ytpnhkkjjdcjmgaa
