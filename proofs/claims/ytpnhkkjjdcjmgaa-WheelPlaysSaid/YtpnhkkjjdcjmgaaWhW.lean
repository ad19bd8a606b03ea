/-
  slices.IndexFunc, slices.DeleteFunc by a timer's number.
-/
import Derived.Test.YtpnhkkjjdcjmgaaWhV
namespace Go.Proofs.Ytpnhkkjjdcjmgaa
open Go.RowKit
set_option linter.unusedVariables false
set_option linter.unusedSimpArgs false

theorem isId_any {w : World} {zid : Nat} {id : Int} (hz : zid < w.heap.size) (hc : w.cell? ⟨zid, 0, none⟩ = some (.int .i64 id)) (t : Tm) :
    Calls Try.prog 19 #[.agg (tmC t).toArray, .pointer (some ⟨zid, 0, none⟩)] w fun e w' => e = .returned (.bool (t.id == id)) ∧ Below w.heap.size w w' := by
  have M := Mem.begin (b := zid) hz ⟨0, 0⟩
  have HB : Hid (∀ wx, Below w.heap.size w wx → wx.cell? ⟨zid, 0, none⟩ = some (.int .i64 id)) := fun wx hb => ((bcell hb).1 _ _ hz).trans hc
  clear hc
  obtain ⟨ti, ta, to_⟩ := t
  go_enter Try.func19, Try.ntmps19
  go_wp2_with (first | (with_reducible (first | (refine wB M ?_; clear M; intro zt w1 M) | refine wC (HB.out _ M.new) ?_ | refine wq M ?_ | (refine wS M ?_; clear M; intro w M) | (refine wV M ?_; clear M; intro z w M) | (refine wR M ?_; clear M; intro q w M))))
  go_ret
  exact ⟨rfl, M.new⟩
section
variable {g : Nat} {w0 : World}
set_option maxRecDepth 8000 in
set_option maxHeartbeats 8000000 in
theorem idx_any {w : World} {zid i k rc : Nat} {id : Int} {ra : Option Addr} {xs : List Tm} {L : List Ent} (M : Mem (StaysB g w0) g w0 w ⟨0, 0⟩ (slc w0.heap.size 60 3 tmF (.slice ra xs.length rc) xs :: L)) (hi : L[i]? = some (own zid [.int .i64 id] 3)) (hk : k < xs.length) (hid : xs[k].id = id) (hbe : ∀ j (h : j < xs.length), j < k → xs[j].id ≠ id) (hn : xs.length ≤ 100000000) :
    Calls Try.prog 26 #[.slice ra xs.length rc, .func (.func 19) #[] #[.pointer (some ⟨zid, 0, none⟩)]] w fun e w' => e = .returned (.int .i64 k) ∧ Mem (StaysB g w0) g w0 w' ⟨0, 0⟩ (slc w0.heap.size 60 3 tmF (.slice ra xs.length rc) xs :: L) := by
  have HIS : Hid (∀ wx, Mem (StaysB g w0) g w0 wx ⟨0, 0⟩ (slc w0.heap.size 60 3 tmF (.slice ra xs.length rc) xs :: L) → ∀ t, Calls Try.prog 19 #[.agg (tmC t).toArray, .pointer (some ⟨zid, 0, none⟩)] wx fun e w' => e = .returned (.bool (t.id == id)) ∧ Below wx.heap.size wx w') := fun wx Mx t => isId_any (Mx.drop.ne (Mem.of_get hi)).2.2 (by rw [(Mx.drop.own_ (Mem.of_get hi)).cell]; rfl) t
  have HID := Lib.hid hid
  have HBE := Lib.hid hbe
  clear hid hbe
  go_enter Try.func26, Try.ntmps26
  go_wp2_with (first | (with_reducible (first | refine wq M ?_ | (refine wS M ?_; clear M; intro w M) | (refine wV M ?_; clear M; intro z w M) | (refine wR M ?_; clear M; intro q w M))))
  go_loopg [8] k (fun f' i8 wr => ∃ j : Nat, j + f' = k ∧ i8 = .int .i64 j ∧ Mem (StaysB g w0) g w0 wr ⟨0, 0⟩ (slc w0.heap.size 60 3 tmF (.slice ra xs.length rc) xs :: L))
  case atStart => exact ⟨0, by omega, rfl, M⟩
  case round =>
    clear M
    obtain ⟨j, hj, rfl, M⟩ := hrel
    have hjl : j < xs.length := by omega
    obtain ⟨cp, op, rowp, hixp, -, hrrp, hwp⟩ := SlF.rowAt (P := Try.prog) (M.slf (plainF_firm tmC) (i := 0) rfl (by decide)) (plainF_firm tmC) Try.underlying32 size_tm (i := j) hjl
    have HRP := Lib.hid ((hwp wr (Below.refl _ _)).1)
    have ep : rowp = tmC xs[j] := hrrp
    rw [ep] at HRP
    unfold tmC at HRP
    have HC : Hid (∀ wx, Mem (StaysB g w0) g w0 wx ⟨0, 0⟩ (slc w0.heap.size 60 3 tmF (.slice ra xs.length rc) xs :: L) → Calls Try.prog 19 #[.agg #[.int .i64 xs[j].id, .int .i64 xs[j].at_, .int .i64 xs[j].ord], .pointer (some ⟨zid, 0, none⟩)] wx fun e w' => e = .returned (.bool (xs[j].id == id)) ∧ Below wx.heap.size wx w') := fun wx Mx => HIS.out wx Mx xs[j]
    clear hwp hrrp ep
    by_cases hjk : j < k
    · have hne : (xs[j].id == id) = false := beq_eq_false_iff_ne.2 (HBE.out j hjl hjk)
      rw [hne] at HC
      clear hne
      generalize xs[j] = x0 at *
      go_wp2_with (first | (go_at_call 19; with_reducible refine (HC.out _ M).mono ?_; rintro e w5 ⟨rfl, hb5⟩; replace M := M.below hb5; clear hb5) | (with_reducible (first | refine wA HRP.out ?_ | refine wq M ?_ | (refine wS M ?_; clear M; intro w M) | (refine wV M ?_; clear M; intro z w M) | (refine wR M ?_; clear M; intro q w M))))
      go_roundg (k - (j + 1))
      case measure => omega
      case rel => exact ⟨j + 1, by omega, by go_num, M⟩
    · have e1 : j = k := by omega
      subst e1
      have hne : (xs[j].id == id) = true := beq_iff_eq.2 HID.out
      rw [hne] at HC
      clear hne HID
      generalize xs[j] = x0 at *
      go_wp2_with (first | (go_at_call 19; with_reducible refine (HC.out _ M).mono ?_; rintro e w5 ⟨rfl, hb5⟩; replace M := M.below hb5; clear hb5) | (with_reducible (first | refine wA HRP.out ?_ | refine wq M ?_ | (refine wS M ?_; clear M; intro w M) | (refine wV M ?_; clear M; intro z w M) | (refine wR M ?_; clear M; intro q w M))))
      go_ret
      exact ⟨rfl, M⟩
end
theorem zero_tm (w : World) : (zeroValue 60).run Try.prog w = .ok (.agg ([.int .i64 0, .int .i64 0, .int .i64 0] : List Value).toArray) w := zero_run (by kernel_rfl) w
theorem slice_lo {g i n rc : Nat} (hi : i < n) (hn : n ≤ rc) (wx : World) : (Instr.slice 32 (.slice (some ⟨g, 0, none⟩) n rc) (some (.int .i64 i)) none none).run Try.prog wx = .ok (.slice (some ⟨g, i * 3, none⟩) (n - i) (rc - i)) wx := by
  simp [Instr.slice, Instr.sliceBounds, Instr.sliceBound, run_underlying Try.underlying32, asIntOf, size_tm wx]
  rw [if_pos (by omega), if_neg (by omega), Go.WideShapes.add_plain, Nat.zero_add]
theorem slice_hi {g i n rc : Nat} (hi : i < n) (hn : n ≤ rc) (wx : World) : (Instr.slice 32 (.slice (some ⟨g, 0, none⟩) n rc) none (some (.int .i64 i)) none).run Try.prog wx = .ok (.slice (some ⟨g, 0, none⟩) i rc) wx := by
  simp [Instr.slice, Instr.sliceBounds, Instr.sliceBound, run_underlying Try.underlying32, asIntOf, size_tm wx]
  rw [if_pos (by omega), Go.WideShapes.add_plain]
  simp
/-- Cells of zeros laid from a row on: the first rows stay. -/
theorem laid_take {cs vs : List Value} {o : Nat} : laid cs o vs = cs.take o ++ (vs ++ cs.drop (o + vs.length)) := by unfold laid; rw [List.append_assoc]
theorem rowsC_take : ∀ (l : List Tm) (sp : List Value) (i : Nat), i ≤ l.length → (rowsC l ++ sp).take (i * 3) = rowsC (l.take i)
  | l, sp, 0, _ => by simp [rowsC]
  | t :: l, sp, i + 1, h => by
    have ih := rowsC_take l sp i (by simpa using h)
    rw [show (i + 1) * 3 = i * 3 + 3 by omega]
    show ((tmC t ++ rowsC l) ++ sp).take (i * 3 + 3) = tmC t ++ rowsC (l.take i)
    rw [← ih]
    simp [tmC, List.take_succ_cons]
section
variable {dst : Option Tmp} {oty : TypeId} {pos : String} {after : Array Edge} {g : Option (Nat × Bool)} {l l' : List Value} {ds : List Deferred} {Q : Exit → Act → World → Prop} {K : Act → World → Prop}
variable {At : PS → World → Prop} {b : Nat} {u w : World} {s : PS} {L : List Ent} {j i z p m c t : Nat} {cs : List Value}
/-- Rows of one's own cleared. -/
theorem q_clear (M : Mem At b u w s L) (hi : L[i]? = some (own z cs t)) [hx : Nth l j (.slice (some ⟨z, p, none⟩) m c)] (hm : 0 < m) (hp : p + m * 3 ≤ cs.length) [hd : PutI l dst (.tuple #[]) l']
    (h : ∀ w' vs, vs.length = m * 3 → Mem At b u w' s (L.set i (own z (laid cs p vs) t)) → K ⟨l'.toArray, ds⟩ w') : OWP Try.prog ⟨dst, .call { callee := .builtin .clear, args := #[.tmp j], argTypes := #[32] }, oty, pos, after, g⟩ ⟨l.toArray, ds⟩ w K Q := by
  have hO := M.own_ (Mem.of_get hi)
  have hne := M.ne (Mem.of_get hi)
  obtain ⟨vs, hvs⟩ : ∃ vs, vs = (Builtin.zeroCells (#[.int .i64 0, .int .i64 0, .int .i64 0] : Array Value) m).toList := ⟨_, rfl⟩
  have hl : vs.length = m * 3 := by rw [hvs]; simp [Builtin.zeroCells]
  have h1 : ∀ v ∈ vs, v.oneCell' = true := fun v hv => by
    rw [hvs] at hv
    simp only [Builtin.zeroCells, Array.toList_map, List.mem_map] at hv
    obtain ⟨q, _, rfl⟩ := hv
    have hq : q % 3 = 0 ∨ q % 3 = 1 ∨ q % 3 = 2 := by omega
    rcases hq with h | h | h <;> simp [h] <;> rfl
  have hst := run_storeCells_cells (P := Try.prog) z p vs 0 w (fun q hq => (hO.there p vs.length (by omega) q hq).1) (fun q hq => (hO.there p vs.length (by omega) q hq).2) h1
  have hrun : (Builtin.clear_ #[32] oty #[.slice (some ⟨z, p, none⟩) m c]).run Try.prog w = .ok (.tuple #[]) (w.setCells z p vs) := by
    obtain ⟨m', rfl⟩ : ∃ m', m = m' + 1 := ⟨m - 1, by omega⟩
    simp only [Nat.add_zero] at hst
    rw [hvs] at hst ⊢
    simp [Builtin.clear_, run_underlying Try.underlying32, zero_tm, Value.cells, hst]
  have hP := Put.setCells vs p w (z := z)
  have hO2 := hO.setCells vs p cs w (by omega)
  have M' : Mem At b u (w.setCells z p vs) s (L.set i (own z (laid cs p vs) t)) := by
    refine M.setAt hi (M.stay _ _ _ (hP.rest b (Ne.symm hne.2.1)) M.at_) (M.but.puts hP hne.1 M.lt) (Nat.le_of_eq hP.size.symm) (fun k hk hkb hkz => hP.rest k (fun e => hkz (by rw [e]; rfl))) (own_firm _ _ _) (fun y hy => ?_) (fun y hy => .inr hy) (fun G _ _ => hO2)
    have e : z = y := by injection hy
    subst e
    exact ⟨hne.1, by rw [hP.size]; exact hne.2.2⟩
  refine owp_of ?_
  have hk : K (Act.put ⟨l.toArray, ds⟩ dst (.tuple #[])) (w.setCells z p vs) := by rw [hd.put]; exact h _ vs hl M'
  unfold Oper.wp
  simp only [execOp, resolve, invoke, builtin, List.map_toArray, List.map_cons, List.map_nil, eval_tmp hx.nth, Sem.run_bind, Sem.run_pure, hrun, Result.andThen_ok]
  exact hk
/-- A row of one's own stored. -/
theorem q_rowput {ys : List Tm} {sp : List Value} {x : Tm} {ty : Nat} (M : Mem At b u w s L) (hi : L[i]? = some (own z (rowsC ys ++ sp) t)) (hp : p < ys.length) [hx : Nth l j (.pointer (some ⟨z, p * 3, none⟩))] {y : Operand} [hy : EvI l y (.agg (tmC x).toArray)] [hT : StI Try.prog ty 3] [hd : PutI l dst undef l']
    (h : ∀ w', Mem At b u w' s (L.set i (own z (rowsC (ys.set p x) ++ sp) t)) → K ⟨l'.toArray, ds⟩ w') : OWP Try.prog ⟨dst, .store ty (.tmp j) y, oty, pos, after, g⟩ ⟨l.toArray, ds⟩ w K Q :=
  owp_of (op_inT M ty _ _ rfl z (p * 3) (tmC x) (eval_tmp hx.nth) (hy.ev ds) hi hT.st rfl (by rw [List.length_append, rowsC_len]; omega) (one_cons rfl (one_cons rfl (one_cons rfl one_nil))) _ (rowsC_laid ys sp p x hp) (fun w' M' => by rw [hd.put]; exact h w' M'))
end
/-- What stands of the rows while they are moved up. -/
structure DelI (xs : List Tm) (id : Int) (i j : Nat) (ys : List Tm) : Prop where
  len : ys.length = xs.length
  lt : i < j
  le : j ≤ xs.length
  low : ys.take i = (xs.take j).filter fun t => !(t.id == id)
  high : ∀ q, j ≤ q → ys[q]? = xs[q]?
theorem DelI.start {xs : List Tm} {id : Int} {k : Nat} (hk : k < xs.length) (hid : xs[k].id = id) (hbe : ∀ j (h : j < xs.length), j < k → xs[j].id ≠ id) : DelI xs id k (k + 1) xs := by
  refine ⟨rfl, Nat.lt_succ_self k, hk, ?_, fun q hq => rfl⟩
  rw [List.take_succ_eq_append_getElem hk, List.filter_append]
  have e1 : (xs.take k).filter (fun t => !(t.id == id)) = xs.take k := by
    rw [List.filter_eq_self]
    intro t ht
    obtain ⟨j, hj, rfl⟩ := List.mem_iff_getElem.1 ht
    have hjk : j < k := by simp at hj; omega
    have := hbe j (by omega) hjk
    simpa using this
  rw [e1]
  simp [hid]
theorem DelI.keep {xs ys : List Tm} {id : Int} {i j : Nat} (h : DelI xs id i j ys) (hj : j < xs.length) (hne : xs[j].id ≠ id) : DelI xs id (i + 1) (j + 1) (ys.set i xs[j]) := by
  have hl := h.len
  have hlt := h.lt
  refine ⟨by simp [hl], by omega, hj, ?_, fun q hq => ?_⟩
  · rw [List.take_succ_eq_append_getElem hj, List.filter_append, ← h.low]
    have e1 : [xs[j]].filter (fun t => !(t.id == id)) = [xs[j]] := by simp [hne]
    rw [e1, List.take_succ_eq_append_getElem (by simp; omega), List.take_set_of_le (Nat.le_refl i)]
    simp
  · rw [List.getElem?_set_ne (by omega)]
    exact h.high q (by omega)
theorem DelI.skip {xs ys : List Tm} {id : Int} {i j : Nat} (h : DelI xs id i j ys) (hj : j < xs.length) (he : xs[j].id = id) : DelI xs id i (j + 1) ys := by
  have hlt := h.lt
  refine ⟨h.len, by omega, hj, ?_, fun q hq => h.high q (by omega)⟩
  rw [List.take_succ_eq_append_getElem hj, List.filter_append, ← h.low]
  simp [he]
end Go.Proofs.Ytpnhkkjjdcjmgaa
