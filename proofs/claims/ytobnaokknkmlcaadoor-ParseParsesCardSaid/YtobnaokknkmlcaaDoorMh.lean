/-
  The walk of the reference's eye: its steps over own memory; next, wrong, is, want.
-/
import Derived.Test.YtobnaokknkmlcaaDoorMg
namespace Go.Proofs.YtobnaokknkmlcaaDoor
open Go.RowKit
set_option linter.unusedVariables false
set_option linter.unusedSimpArgs false

/-- The slot of an operation of a region. -/
class NthO (l : List Oper) (i : Nat) (t : outParam Tmp) : Prop where
  at_ : ∃ o, l[i]? = some o ∧ o.dst = some t
instance {t : Tmp} {op : Op} {ty : TypeId} {pos : String} {after : Array Edge} {g : Option (Nat × Bool)} {l : List Oper} : NthO (⟨some t, op, ty, pos, after, g⟩ :: l) 0 t := ⟨⟨_, rfl, rfl⟩⟩
instance {o0 : Oper} {t : Tmp} {op : Op} {ty : TypeId} {pos : String} {after : Array Edge} {g : Option (Nat × Bool)} {l : List Oper} : NthO (o0 :: ⟨some t, op, ty, pos, after, g⟩ :: l) 1 t := ⟨⟨_, rfl, rfl⟩⟩
instance {o0 o1 : Oper} {t : Tmp} {op : Op} {ty : TypeId} {pos : String} {after : Array Edge} {g : Option (Nat × Bool)} {l : List Oper} : NthO (o0 :: o1 :: ⟨some t, op, ty, pos, after, g⟩ :: l) 2 t := ⟨⟨_, rfl, rfl⟩⟩
instance {o0 o1 o2 : Oper} {t : Tmp} {op : Op} {ty : TypeId} {pos : String} {after : Array Edge} {g : Option (Nat × Bool)} {l : List Oper} : NthO (o0 :: o1 :: o2 :: ⟨some t, op, ty, pos, after, g⟩ :: l) 3 t := ⟨⟨_, rfl, rfl⟩⟩
instance {o0 o1 o2 o3 : Oper} {t : Tmp} {op : Op} {ty : TypeId} {pos : String} {after : Array Edge} {g : Option (Nat × Bool)} {l : List Oper} : NthO (o0 :: o1 :: o2 :: o3 :: ⟨some t, op, ty, pos, after, g⟩ :: l) 4 t := ⟨⟨_, rfl, rfl⟩⟩
instance {o0 o1 o2 o3 o4 : Oper} {t : Tmp} {op : Op} {ty : TypeId} {pos : String} {after : Array Edge} {g : Option (Nat × Bool)} {l : List Oper} : NthO (o0 :: o1 :: o2 :: o3 :: o4 :: ⟨some t, op, ty, pos, after, g⟩ :: l) 5 t := ⟨⟨_, rfl, rfl⟩⟩
instance {o0 o1 o2 o3 o4 o5 : Oper} {t : Tmp} {op : Op} {ty : TypeId} {pos : String} {after : Array Edge} {g : Option (Nat × Bool)} {l : List Oper} : NthO (o0 :: o1 :: o2 :: o3 :: o4 :: o5 :: ⟨some t, op, ty, pos, after, g⟩ :: l) 6 t := ⟨⟨_, rfl, rfl⟩⟩
instance {o0 o1 o2 o3 o4 o5 o6 : Oper} {t : Tmp} {op : Op} {ty : TypeId} {pos : String} {after : Array Edge} {g : Option (Nat × Bool)} {l : List Oper} : NthO (o0 :: o1 :: o2 :: o3 :: o4 :: o5 :: o6 :: ⟨some t, op, ty, pos, after, g⟩ :: l) 7 t := ⟨⟨_, rfl, rfl⟩⟩
instance (priority := 100) {o0 o1 o2 o3 o4 o5 o6 o7 : Oper} {i : Nat} {t : Tmp} {l : List Oper} [h : NthO l i t] : NthO (o0 :: o1 :: o2 :: o3 :: o4 :: o5 :: o6 :: o7 :: l) (i + 8) t := ⟨h.at_⟩
theorem o_listg {P : Program} {opsl : List Oper} {dst : Option Tmp} {op : Op} {oty : TypeId} {pos : String} {after : Array Edge} {gi : Nat} {want : Bool} {t : Tmp} {l : List Value} {ds : List Deferred} {w : World} {rest : List Oper} {Q : Exit → Act → World → Prop}
    [ho : NthO opsl gi t] [hv : Nth l t (.bool want)] (h : ∀ K : Act → World → Prop, (∀ a w, wpList P opsl.toArray Q rest a w → K a w) → OWP P ⟨dst, op, oty, pos, after, some (gi, want)⟩ ⟨l.toArray, ds⟩ w K Q) : wpList P opsl.toArray Q (⟨dst, op, oty, pos, after, some (gi, want)⟩ :: rest) ⟨l.toArray, ds⟩ w := by
  have hw : Region.wanted (⟨dst, op, oty, pos, after, some (gi, want)⟩ : Oper) (yielded opsl.toArray l.toArray) = true := by
    have h1 := hv.nth
    obtain ⟨o', h2, h3⟩ := ho.at_
    simp only [Region.wanted, yielded, List.getElem?_toArray, h2, Option.bind_some, h3, h1]
    simp
  exact wpList_step fun K hK => by rw [if_pos hw]; exact owp_out (h K hK)
theorem o_skipT {P : Program} {opsl : List Oper} {dst : Option Tmp} {op : Op} {oty : TypeId} {pos : String} {after : Array Edge} {gi : Nat} {t : Tmp} {l l' : List Value} {ds : List Deferred} {w : World} {rest : List Oper} {Q : Exit → Act → World → Prop}
    [ho : NthO opsl gi t] [hv : Nth l t (.bool false)] [hp : PutI l dst undef l'] (h : wpList P opsl.toArray Q rest ⟨l'.toArray, ds⟩ w) : wpList P opsl.toArray Q (⟨dst, op, oty, pos, after, some (gi, true)⟩ :: rest) ⟨l.toArray, ds⟩ w := by
  have hw : Region.wanted (⟨dst, op, oty, pos, after, some (gi, true)⟩ : Oper) (yielded opsl.toArray l.toArray) = false := by
    have h1 := hv.nth
    obtain ⟨o', h2, h3⟩ := ho.at_
    simp only [Region.wanted, yielded, List.getElem?_toArray, h2, Option.bind_some, h3, h1]
    simp
  exact wpList_step fun K hK => by
    rw [if_neg (by rw [hw]; simp)]
    refine hK _ _ ?_
    rw [hp.put]
    exact h
theorem o_skipF {P : Program} {opsl : List Oper} {dst : Option Tmp} {op : Op} {oty : TypeId} {pos : String} {after : Array Edge} {gi : Nat} {t : Tmp} {l l' : List Value} {ds : List Deferred} {w : World} {rest : List Oper} {Q : Exit → Act → World → Prop}
    [ho : NthO opsl gi t] [hv : Nth l t (.bool true)] [hp : PutI l dst undef l'] (h : wpList P opsl.toArray Q rest ⟨l'.toArray, ds⟩ w) : wpList P opsl.toArray Q (⟨dst, op, oty, pos, after, some (gi, false)⟩ :: rest) ⟨l.toArray, ds⟩ w := by
  have hw : Region.wanted (⟨dst, op, oty, pos, after, some (gi, false)⟩ : Oper) (yielded opsl.toArray l.toArray) = false := by
    have h1 := hv.nth
    obtain ⟨o', h2, h3⟩ := ho.at_
    simp only [Region.wanted, yielded, List.getElem?_toArray, h2, Option.bind_some, h3, h1]
    simp
  exact wpList_step fun K hK => by
    rw [if_neg (by rw [hw]; simp)]
    refine hK _ _ ?_
    rw [hp.put]
    exact h
section
variable {P : Program} {dst : Option Tmp} {oty : TypeId} {pos : String} {after : Array Edge} {g : Option (Nat × Bool)} {l l' : List Value} {ds : List Deferred} {Q : Exit → Act → World → Prop} {K : Act → World → Prop}
variable {b : Nat} {ao : Option Addr} {n cap j j' : Nat} {s : PS} {u w : World} {L : List Ent} {ty : TypeId} {At : PS → World → Prop}
theorem eval_const {a : Act} {v : Value} : a.eval (.const v) = v := rfl
theorem q_ep (M : Mem (EyAt b ao n cap) b u w s L) [hx : Nth l j (.pointer (some ⟨b, 1, none⟩))] [hT : OneI P ty] [hd : PutI l dst (.int .i64 s.pos) l'] (h : K ⟨l'.toArray, ds⟩ w) : OWP P ⟨dst, .load ty (.tmp j), oty, pos, after, g⟩ ⟨l.toArray, ds⟩ w K Q :=
  owp_of (op_cell rfl (eval_tmp hx.nth) hT.one M.at_.open.2.1 (by rw [hd.put]; exact h))
theorem q_ee (M : Mem (EyAt b ao n cap) b u w s L) [hx : Nth l j (.pointer (some ⟨b, 2, none⟩))] [hT : OneI P ty] [hd : PutI l dst (.int .i64 s.e) l'] (h : K ⟨l'.toArray, ds⟩ w) : OWP P ⟨dst, .load ty (.tmp j), oty, pos, after, g⟩ ⟨l.toArray, ds⟩ w K Q :=
  owp_of (op_cell rfl (eval_tmp hx.nth) hT.one M.at_.open.2.2.1 (by rw [hd.put]; exact h))
theorem q_et (M : Mem (EyAt b ao n cap) b u w s L) [hx : Nth l j (.pointer (some ⟨b, 0, none⟩))] [hT : OneI P ty] [hd : PutI l dst (.slice ao n cap) l'] (h : K ⟨l'.toArray, ds⟩ w) : OWP P ⟨dst, .load ty (.tmp j), oty, pos, after, g⟩ ⟨l.toArray, ds⟩ w K Q :=
  owp_of (op_cell rfl (eval_tmp hx.nth) hT.one M.at_.open.1 (by rw [hd.put]; exact h))
theorem q_eo {v : Value} {c o : Nat} (M : Mem At b u w s L) [hx : Nth l j (.pointer (some ⟨c, o, none⟩))] [hT : OneI P ty] (hlt : c < u.heap.size) (hne : c ≠ b) (hc : u.cell? ⟨c, o, none⟩ = some v) [hd : PutI l dst v l'] (h : K ⟨l'.toArray, ds⟩ w) : OWP P ⟨dst, .load ty (.tmp j), oty, pos, after, g⟩ ⟨l.toArray, ds⟩ w K Q :=
  owp_of (op_cell rfl (eval_tmp hx.nth) hT.one ((M.but.cell hlt hne o).trans hc) (by rw [hd.put]; exact h))
theorem run_store_one {P : Program} {ty : TypeId} {p : Nat} {v : Value} (hT : OneT P ty) (hc : (w.cell? ⟨b, p, none⟩).isSome = true) (hf : w.frozen? ⟨b, p, none⟩ = false) (h1 : v.oneCell' = true) : (storeVar ty ⟨b, p, none⟩ v).run P w = .ok () (w.setCell ⟨b, p, none⟩ v) := by
  have hh := run_storeCells_cells (P := P) b p [v] 0 w (fun j hj => by
    have e0 : j = 0 := by simpa using hj
    subst e0
    simpa using hc) (fun j hj => by
    have e0 : j = 0 := by simpa using hj
    subst e0
    simpa using hf) (fun u hu => by rw [List.mem_singleton.1 hu]; exact h1)
  have hcl : v.cells = #[v] := by cases v <;> first | rfl | (simp [Value.oneCell'] at h1)
  obtain ⟨hT1, _⟩ := hT
  cases hq : P.info? ty with
  | none => simp [hq] at hT1
  | some i =>
    have hs : i.size = 1 := by simpa [hq] using hT1
    simp only [Nat.add_zero] at hh
    simp [storeVar, sizeOf, typeInfo, hq, hcl, hs, hh]
    rfl
theorem EyAt.turn (h : EyAt b ao n cap s w) (k : Int) : EyAt b ao n cap ⟨s.pos, k⟩ (w.setCell ⟨b, 2, none⟩ (.int .i64 k)) := by
  unfold EyAt at *
  simp [World.setCell, Array.getElem?_modify, h]
theorem q_eadv (M : Mem (EyAt b ao n cap) b u w s L) [hx : Nth l j (.pointer (some ⟨b, 1, none⟩))] [hy : Nth l j' (.int .i64 (s.pos + 1))] [hT : OneI P ty] [hd : PutI l dst undef l']
    (h : ∀ w', Mem (EyAt b ao n cap) b u w' (adv s) L → K ⟨l'.toArray, ds⟩ w') : OWP P ⟨dst, .store ty (.tmp j) (.tmp j'), oty, pos, after, g⟩ ⟨l.toArray, ds⟩ w K Q := by
  refine owp_of ?_
  have hO := M.at_.open
  have hc := run_store_one (P := P) (ty := ty) (p := 1) (v := .int .i64 (s.pos + 1)) hT.one (by rw [hO.2.1]; rfl) (hO.2.2.2 _) rfl
  unfold Oper.wp execOp
  simp only [eval_tmp hx.nth, eval_tmp hy.nth, Instr.storeAt, Instr.sureAddr, Sem.run_bind, Sem.run_pure, Result.andThen_ok, hc]
  show K _ _
  rw [hd.put]
  exact h _ (M.step M.at_.adv ((But.refl b w).set 1 _))
theorem q_eset {k : Int} (M : Mem (EyAt b ao n cap) b u w s L) [hx : Nth l j (.pointer (some ⟨b, 2, none⟩))] [hT : OneI P ty] [hd : PutI l dst undef l']
    (h : ∀ w', Mem (EyAt b ao n cap) b u w' ⟨s.pos, k⟩ L → K ⟨l'.toArray, ds⟩ w') : OWP P ⟨dst, .store ty (.tmp j) (.const (.int .i64 k)), oty, pos, after, g⟩ ⟨l.toArray, ds⟩ w K Q := by
  refine owp_of ?_
  have hO := M.at_.open
  have hc := run_store_one (P := P) (ty := ty) (p := 2) (v := .int .i64 k) hT.one (by rw [hO.2.2.1]; rfl) (hO.2.2.2 _) rfl
  unfold Oper.wp execOp
  simp only [eval_tmp hx.nth, eval_const, Instr.storeAt, Instr.sureAddr, Sem.run_bind, Sem.run_pure, Result.andThen_ok, hc]
  show K _ _
  rw [hd.put]
  exact h _ (M.step (M.at_.turn k) ((But.refl b w).set 2 _))
end
/-- The next token; of kind 0, where there is none. -/
def tok0 : Tok := ⟨0, ByteArray.empty, 0⟩
def nxtK (T : List Tok) (s : PS) : Tok := (nxt T s).getD tok0
def tokC (t : Tok) : List Value := [.int .i64 t.kind, .string t.text, .int .i64 t.int]
section
variable {T : List Tok} {b : Nat} {ao : Option Addr} {n cap : Nat} {s : PS} {u w : World} {L : List Ent} {At : PS → World → Prop}
theorem nxtK_none {s : PS} (h : ¬ (s.e = 0 ∧ s.pos < T.length)) : nxtK T s = tok0 := by
  unfold nxtK nxt
  by_cases he : s.e = 0
  · rw [if_pos he, List.getElem?_eq_none (by omega)]; rfl
  · rw [if_neg he]; rfl
theorem nxtK_some {s : PS} (he : s.e = 0) (hp : s.pos < T.length) : nxtK T s = T[s.pos] := by
  unfold nxtK nxt
  rw [if_pos he, List.getElem?_eq_getElem hp]; rfl
theorem Mem.oldr (M : Mem At b u w s L) {c o : Nat} {cs : List Value} (hlt : c < u.heap.size) (hne : c ≠ b) (h : u.rangeAt c o cs) : w.rangeAt c o cs := fun j v hj => (M.but.cell hlt hne _).trans (h j v hj)
theorem range3 {u : World} {c o : Nat} {x y z : Value} (h0 : u.cell? ⟨c, o, none⟩ = some x) (h1 : u.cell? ⟨c, o + 1, none⟩ = some y) (h2 : u.cell? ⟨c, o + 1 + 1, none⟩ = some z) : u.rangeAt c o [x, y, z] := fun j v hj => by
  match j, hj with
  | 0, hj => simp at hj; subst hj; exact h0
  | 1, hj => simp at hj; subst hj; exact h1
  | 2, hj => simp at hj; subst hj; exact h2
set_option maxRecDepth 8000 in
set_option maxHeartbeats 2000000 in
theorem Mem.next (M : Mem (EyAt b ao n cap) b u w s L) (hE : Env T b ao n cap u) :
    Calls Tryd.prog 30 #[.pointer (some ⟨b, 0, none⟩)] w fun e w' => e = .returned (.agg (tokC (nxtK T s)).toArray) ∧ Mem (EyAt b ao n cap) b u w' s L := by
  obtain ⟨l1, l2, l3, l4⟩ := hE.len
  by_cases he : s.e = 0
  · have heb : (s.e != 0) = false := by simpa using he
    by_cases hp : s.pos < T.length
    · obtain ⟨c, off, hclt, hcb, hix, d0, d1, d2⟩ := hE.next2 hp
      have HN := Lib.hid (nxtK_some he hp)
      have hp1 : (s.pos : Int) < n := by omega
      have hpd : decide (n ≤ s.pos) = false := by simp; omega
      generalize T[s.pos] = t at HN d0 d1 d2
      clear hE he hp l1
      go_enter Tryd.func30, Tryd.ntmps30
      go_wp2_with (first | (first | ((with_reducible refine o_list rfl fun K hK => ?_); (first | (first | refine q_all M (by rfl) ?_ | refine q_get M (by exact rfl) ?_ | refine q_part M (by rfl) (by simp only [laid, opdC, List.take_succ_cons, List.take_zero, List.drop_succ_cons, List.drop_zero, List.length_cons, List.length_nil, List.cons_append, List.nil_append, Nat.reduceAdd] <;> rfl) ?_ | refine q_ep M ?_ | refine q_ee M ?_ | refine q_et M ?_ | refine q_eo M (by assumption) (by assumption) (by assumption) ?_) | (first | ((first | refine q_setc M (by rfl) (by rfl) ?_ | refine q_set M (by rfl) (by rfl) ?_ | refine q_put M (by rfl) (by rfl) (by rfl) ?_ | refine q_in M (by rfl) (by rfl) (by rfl) ?_); clear M; intro w M; (try simp only [List.set_cons_zero, List.set_cons_succ, laid, opdC, List.take_succ_cons, List.take_zero, List.drop_succ_cons, List.drop_zero, List.length_cons, List.length_nil, List.cons_append, List.nil_append, Nat.reduceAdd, Nat.zero_add] at M)) | (refine q_eadv M ?_; clear M; intro w M) | (refine q_eset M ?_; clear M; intro w M)) | (refine q_var M ?_; clear M; intro z w M) | (refine q_row M (by rfl) ?_; clear M; intro q w M)); refine hK _ _ ?_; clear hK K) | ((with_reducible refine o_listg fun K hK => ?_); (first | (first | refine q_all M (by rfl) ?_ | refine q_get M (by exact rfl) ?_ | refine q_part M (by rfl) (by simp only [laid, opdC, List.take_succ_cons, List.take_zero, List.drop_succ_cons, List.drop_zero, List.length_cons, List.length_nil, List.cons_append, List.nil_append, Nat.reduceAdd] <;> rfl) ?_ | refine q_ep M ?_ | refine q_ee M ?_ | refine q_et M ?_ | refine q_eo M (by assumption) (by assumption) (by assumption) ?_)); refine hK _ _ ?_; clear hK K) | (with_reducible refine o_skipT ?_) | (with_reducible refine o_skipF ?_)))
      obtain ⟨c0, c1, c2, fz⟩ := M.at_.open
      have hlt := M.at_.lt
      go_quiet (fail)
      replace M := M.draws nq
      clear c0 c1 c2 fz hlt
      generalize World.drewN _ nq = w at M ⊢
      go_wp2_with (first | (first | ((with_reducible refine o_list rfl fun K hK => ?_); (first | (first | refine q_all M (by rfl) ?_ | refine q_get M (by exact rfl) ?_ | refine q_part M (by rfl) (by simp only [laid, opdC, List.take_succ_cons, List.take_zero, List.drop_succ_cons, List.drop_zero, List.length_cons, List.length_nil, List.cons_append, List.nil_append, Nat.reduceAdd] <;> rfl) ?_ | refine q_ep M ?_ | refine q_ee M ?_ | refine q_et M ?_ | refine q_eo M (by assumption) (by assumption) (by assumption) ?_) | (first | ((first | refine q_setc M (by rfl) (by rfl) ?_ | refine q_set M (by rfl) (by rfl) ?_ | refine q_put M (by rfl) (by rfl) (by rfl) ?_ | refine q_in M (by rfl) (by rfl) (by rfl) ?_); clear M; intro w M; (try simp only [List.set_cons_zero, List.set_cons_succ, laid, opdC, List.take_succ_cons, List.take_zero, List.drop_succ_cons, List.drop_zero, List.length_cons, List.length_nil, List.cons_append, List.nil_append, Nat.reduceAdd, Nat.zero_add] at M)) | (refine q_eadv M ?_; clear M; intro w M) | (refine q_eset M ?_; clear M; intro w M)) | (refine q_var M ?_; clear M; intro z w M) | (refine q_row M (by rfl) ?_; clear M; intro q w M)); refine hK _ _ ?_; clear hK K) | ((with_reducible refine o_listg fun K hK => ?_); (first | (first | refine q_all M (by rfl) ?_ | refine q_get M (by exact rfl) ?_ | refine q_part M (by rfl) (by simp only [laid, opdC, List.take_succ_cons, List.take_zero, List.drop_succ_cons, List.drop_zero, List.length_cons, List.length_nil, List.cons_append, List.nil_append, Nat.reduceAdd] <;> rfl) ?_ | refine q_ep M ?_ | refine q_ee M ?_ | refine q_et M ?_ | refine q_eo M (by assumption) (by assumption) (by assumption) ?_)); refine hK _ _ ?_; clear hK K) | (with_reducible refine o_skipT ?_) | (with_reducible refine o_skipF ?_)))
      (refine wp_region_any (by kernel_rfl) ?_; (try (change wpAny _ _ _ _ _ _ _ (World.drew _))); replace M := M.drew; generalize World.drew _ = w at M ⊢; (refine wpAny_take (i := 0) (v := ?_) (get_l rfl) (by kernel_rfl) (by kernel_rfl) (by kernel_rfl) (fun _ _ _ h => h) (Or.inl ⟨(by first | exact wanted_none rfl | rfl), ?_⟩) ?_; (rotate_left 1); focus (intro w; go_simp; try with_reducible rfl)); (try go_simp); (refine wpAny_take (i := 1) (v := ?_) (get_l rfl) (by kernel_rfl) (by kernel_rfl) (by kernel_rfl) (fun _ _ _ h => h) (Or.inl ⟨(by first | exact wanted_none rfl | rfl), ?_⟩) ?_; (rotate_left 1); focus (intro w; go_simp; try with_reducible rfl)); (try go_simp); (refine wpAny_take (i := 2) (v := ?_) (get_l rfl) (by kernel_rfl) (by kernel_rfl) (by kernel_rfl) (fun _ _ _ h => h) (Or.inl ⟨(by first | exact wanted_none rfl | rfl), ?_⟩) ?_; (rotate_left 1); focus (intro w; go_simp; try with_reducible rfl)); (try go_simp); (refine wpAny_take (i := 4) (v := ?_) (get_l rfl) (by kernel_rfl) (by kernel_rfl) (by kernel_rfl) (fun _ _ _ h => h) (Or.inl ⟨(by first | exact wanted_none rfl | rfl), ?_⟩) ?_; (rotate_left 1); focus (intro w; go_simp; try with_reducible rfl)); (try go_simp); (refine wpAny_take (i := 5) (v := ?_) (get_l rfl) (by kernel_rfl) (by kernel_rfl) (by kernel_rfl) (fun _ _ _ h => h) (Or.inl ⟨(by first | exact wanted_none rfl | rfl), ?_⟩) ?_; (rotate_left 1); focus (intro w; go_simp; try with_reducible rfl)); (try go_simp); (refine wpAny_take (i := 6) (v := ?_) (get_l rfl) (by kernel_rfl) (by kernel_rfl) (by kernel_rfl) (fun _ _ _ h => h) (Or.inl ⟨(by first | exact wanted_none rfl | rfl), ?_⟩) ?_; (rotate_left 1); focus (intro w; go_simp; try with_reducible rfl)); (try go_simp); (refine wpAny_ready (rs := [3, 7]) (by kernel_rfl) (by simp) ?_; refine (ready_cons (get_l rfl) rfl (fun K hK => ?_) (ready_cons (get_l rfl) rfl (fun K hK => ?_) AllReady.nil))); (all_goals (first | (refine o_dst (some 24) ?_; (first | (refine q_at (M.oldr hclt hcb (range3 d0 d1 d2)) (by rfl) ?_) | (first | refine q_all M (by rfl) ?_ | refine q_get M (by exact rfl) ?_ | refine q_part M (by rfl) (by simp only [laid, opdC, List.take_succ_cons, List.take_zero, List.drop_succ_cons, List.drop_zero, List.length_cons, List.length_nil, List.cons_append, List.nil_append, Nat.reduceAdd] <;> rfl) ?_ | refine q_ep M ?_ | refine q_ee M ?_ | refine q_et M ?_ | refine q_eo M (by assumption) (by assumption) (by assumption) ?_)); (all_goals ((refine hK _ _ ?_); clear hK K)); (all_goals ((refine wpAny_ready (rs := [7]) (by kernel_rfl) (by simp) ?_; refine (ready_cons (get_l rfl) rfl (fun K hK => ?_) AllReady.nil)); (all_goals ((refine o_dst (some 28) ?_; (first | (refine q_at (M.oldr hclt hcb (range3 d0 d1 d2)) (by rfl) ?_) | (first | refine q_all M (by rfl) ?_ | refine q_get M (by exact rfl) ?_ | refine q_part M (by rfl) (by simp only [laid, opdC, List.take_succ_cons, List.take_zero, List.drop_succ_cons, List.drop_zero, List.length_cons, List.length_nil, List.cons_append, List.nil_append, Nat.reduceAdd] <;> rfl) ?_ | refine q_ep M ?_ | refine q_ee M ?_ | refine q_et M ?_ | refine q_eo M (by assumption) (by assumption) (by assumption) ?_)); (all_goals ((refine hK _ _ ?_); clear hK K)); (all_goals ((refine wpAny_take (i := 8) (v := ?_) (get_l rfl) (by kernel_rfl) (by kernel_rfl) (by kernel_rfl) (fun _ _ _ h => h) (Or.inl ⟨(by first | exact wanted_none rfl | rfl), ?_⟩) ?_; (rotate_left 1); focus (intro w; go_simp; try with_reducible rfl)); (try go_simp); (refine wpAny_ready (rs := [9]) (by kernel_rfl) (by simp) ?_; refine (ready_cons (get_l rfl) rfl (fun K hK => ?_) AllReady.nil)); (all_goals ((refine o_dst (some 30) ?_; (first | (refine q_at (M.oldr hclt hcb (range3 d0 d1 d2)) (by rfl) ?_) | (first | refine q_all M (by rfl) ?_ | refine q_get M (by exact rfl) ?_ | refine q_part M (by rfl) (by simp only [laid, opdC, List.take_succ_cons, List.take_zero, List.drop_succ_cons, List.drop_zero, List.length_cons, List.length_nil, List.cons_append, List.nil_append, Nat.reduceAdd] <;> rfl) ?_ | refine q_ep M ?_ | refine q_ee M ?_ | refine q_et M ?_ | refine q_eo M (by assumption) (by assumption) (by assumption) ?_)); (all_goals ((refine hK _ _ ?_); clear hK K)); (all_goals ((refine wpAny_ready (rs := [10]) (by kernel_rfl) (by simp) ?_; refine (ready_cons (get_l rfl) rfl (fun K hK => ?_) AllReady.nil)); (all_goals ((refine o_dst none ?_; (first | (refine q_at (M.oldr hclt hcb (range3 d0 d1 d2)) (by rfl) ?_) | (first | ((first | refine q_setc M (by rfl) (by rfl) ?_ | refine q_set M (by rfl) (by rfl) ?_ | refine q_put M (by rfl) (by rfl) (by rfl) ?_ | refine q_in M (by rfl) (by rfl) (by rfl) ?_); clear M; intro w M; (try simp only [List.set_cons_zero, List.set_cons_succ, laid, opdC, List.take_succ_cons, List.take_zero, List.drop_succ_cons, List.drop_zero, List.length_cons, List.length_nil, List.cons_append, List.nil_append, Nat.reduceAdd, Nat.zero_add] at M)) | (refine q_eadv M ?_; clear M; intro w M) | (refine q_eset M ?_; clear M; intro w M))); (all_goals ((refine hK _ _ ?_); clear hK K)); (all_goals ((refine wpAny_done (by kernel_rfl) ?_ _))))))))))))))))))) | (refine o_dst (some 28) ?_; (first | (refine q_at (M.oldr hclt hcb (range3 d0 d1 d2)) (by rfl) ?_) | (first | refine q_all M (by rfl) ?_ | refine q_get M (by exact rfl) ?_ | refine q_part M (by rfl) (by simp only [laid, opdC, List.take_succ_cons, List.take_zero, List.drop_succ_cons, List.drop_zero, List.length_cons, List.length_nil, List.cons_append, List.nil_append, Nat.reduceAdd] <;> rfl) ?_ | refine q_ep M ?_ | refine q_ee M ?_ | refine q_et M ?_ | refine q_eo M (by assumption) (by assumption) (by assumption) ?_)); (all_goals ((refine hK _ _ ?_); clear hK K)); (all_goals ((refine wpAny_ready (rs := [3]) (by kernel_rfl) (by simp) ?_; refine (ready_cons (get_l rfl) rfl (fun K hK => ?_) AllReady.nil)); (all_goals ((refine o_dst (some 24) ?_; (first | (refine q_at (M.oldr hclt hcb (range3 d0 d1 d2)) (by rfl) ?_) | (first | refine q_all M (by rfl) ?_ | refine q_get M (by exact rfl) ?_ | refine q_part M (by rfl) (by simp only [laid, opdC, List.take_succ_cons, List.take_zero, List.drop_succ_cons, List.drop_zero, List.length_cons, List.length_nil, List.cons_append, List.nil_append, Nat.reduceAdd] <;> rfl) ?_ | refine q_ep M ?_ | refine q_ee M ?_ | refine q_et M ?_ | refine q_eo M (by assumption) (by assumption) (by assumption) ?_)); (all_goals ((refine hK _ _ ?_); clear hK K)); (all_goals ((refine wpAny_take (i := 8) (v := ?_) (get_l rfl) (by kernel_rfl) (by kernel_rfl) (by kernel_rfl) (fun _ _ _ h => h) (Or.inl ⟨(by first | exact wanted_none rfl | rfl), ?_⟩) ?_; (rotate_left 1); focus (intro w; go_simp; try with_reducible rfl)); (try go_simp); (refine wpAny_ready (rs := [9]) (by kernel_rfl) (by simp) ?_; refine (ready_cons (get_l rfl) rfl (fun K hK => ?_) AllReady.nil)); (all_goals ((refine o_dst (some 30) ?_; (first | (refine q_at (M.oldr hclt hcb (range3 d0 d1 d2)) (by rfl) ?_) | (first | refine q_all M (by rfl) ?_ | refine q_get M (by exact rfl) ?_ | refine q_part M (by rfl) (by simp only [laid, opdC, List.take_succ_cons, List.take_zero, List.drop_succ_cons, List.drop_zero, List.length_cons, List.length_nil, List.cons_append, List.nil_append, Nat.reduceAdd] <;> rfl) ?_ | refine q_ep M ?_ | refine q_ee M ?_ | refine q_et M ?_ | refine q_eo M (by assumption) (by assumption) (by assumption) ?_)); (all_goals ((refine hK _ _ ?_); clear hK K)); (all_goals ((refine wpAny_ready (rs := [10]) (by kernel_rfl) (by simp) ?_; refine (ready_cons (get_l rfl) rfl (fun K hK => ?_) AllReady.nil)); (all_goals ((refine o_dst none ?_; (first | (refine q_at (M.oldr hclt hcb (range3 d0 d1 d2)) (by rfl) ?_) | (first | ((first | refine q_setc M (by rfl) (by rfl) ?_ | refine q_set M (by rfl) (by rfl) ?_ | refine q_put M (by rfl) (by rfl) (by rfl) ?_ | refine q_in M (by rfl) (by rfl) (by rfl) ?_); clear M; intro w M; (try simp only [List.set_cons_zero, List.set_cons_succ, laid, opdC, List.take_succ_cons, List.take_zero, List.drop_succ_cons, List.drop_zero, List.length_cons, List.length_nil, List.cons_append, List.nil_append, Nat.reduceAdd, Nat.zero_add] at M)) | (refine q_eadv M ?_; clear M; intro w M) | (refine q_eset M ?_; clear M; intro w M))); (all_goals ((refine hK _ _ ?_); clear hK K)); (all_goals ((refine wpAny_done (by kernel_rfl) ?_ _))))))))))))))))))))))
      all_goals go_wp2_with (first | ((try show bodyPost _ _ _ _ _ _); (refine q_ret M Tryd.results30 (by rfl) ?_)) | (first | ((with_reducible refine o_list rfl fun K hK => ?_); (first | (first | refine q_all M (by rfl) ?_ | refine q_get M (by exact rfl) ?_ | refine q_part M (by rfl) (by simp only [laid, opdC, List.take_succ_cons, List.take_zero, List.drop_succ_cons, List.drop_zero, List.length_cons, List.length_nil, List.cons_append, List.nil_append, Nat.reduceAdd] <;> rfl) ?_ | refine q_ep M ?_ | refine q_ee M ?_ | refine q_et M ?_ | refine q_eo M (by assumption) (by assumption) (by assumption) ?_) | (first | ((first | refine q_setc M (by rfl) (by rfl) ?_ | refine q_set M (by rfl) (by rfl) ?_ | refine q_put M (by rfl) (by rfl) (by rfl) ?_ | refine q_in M (by rfl) (by rfl) (by rfl) ?_); clear M; intro w M; (try simp only [List.set_cons_zero, List.set_cons_succ, laid, opdC, List.take_succ_cons, List.take_zero, List.drop_succ_cons, List.drop_zero, List.length_cons, List.length_nil, List.cons_append, List.nil_append, Nat.reduceAdd, Nat.zero_add] at M)) | (refine q_eadv M ?_; clear M; intro w M) | (refine q_eset M ?_; clear M; intro w M)) | (refine q_var M ?_; clear M; intro z w M) | (refine q_row M (by rfl) ?_; clear M; intro q w M)); refine hK _ _ ?_; clear hK K) | ((with_reducible refine o_listg fun K hK => ?_); (first | (first | refine q_all M (by rfl) ?_ | refine q_get M (by exact rfl) ?_ | refine q_part M (by rfl) (by simp only [laid, opdC, List.take_succ_cons, List.take_zero, List.drop_succ_cons, List.drop_zero, List.length_cons, List.length_nil, List.cons_append, List.nil_append, Nat.reduceAdd] <;> rfl) ?_ | refine q_ep M ?_ | refine q_ee M ?_ | refine q_et M ?_ | refine q_eo M (by assumption) (by assumption) (by assumption) ?_)); refine hK _ _ ?_; clear hK K) | (with_reducible refine o_skipT ?_) | (with_reducible refine o_skipF ?_)))
      all_goals rw [HN.out]
      all_goals exact ⟨rfl, M.drop⟩
    · have HN := Lib.hid (nxtK_none (T := T) (s := s) (fun h => hp h.2))
      have hpn : (n : Int) ≤ s.pos := by omega
      have hpd : decide (n ≤ s.pos) = true := by simp; omega
      clear hE he hp l1
      go_enter Tryd.func30, Tryd.ntmps30
      go_wp2_with (first | (first | ((with_reducible refine o_list rfl fun K hK => ?_); (first | (first | refine q_all M (by rfl) ?_ | refine q_get M (by exact rfl) ?_ | refine q_part M (by rfl) (by simp only [laid, opdC, List.take_succ_cons, List.take_zero, List.drop_succ_cons, List.drop_zero, List.length_cons, List.length_nil, List.cons_append, List.nil_append, Nat.reduceAdd] <;> rfl) ?_ | refine q_ep M ?_ | refine q_ee M ?_ | refine q_et M ?_ | refine q_eo M (by assumption) (by assumption) (by assumption) ?_) | (first | ((first | refine q_setc M (by rfl) (by rfl) ?_ | refine q_set M (by rfl) (by rfl) ?_ | refine q_put M (by rfl) (by rfl) (by rfl) ?_ | refine q_in M (by rfl) (by rfl) (by rfl) ?_); clear M; intro w M; (try simp only [List.set_cons_zero, List.set_cons_succ, laid, opdC, List.take_succ_cons, List.take_zero, List.drop_succ_cons, List.drop_zero, List.length_cons, List.length_nil, List.cons_append, List.nil_append, Nat.reduceAdd, Nat.zero_add] at M)) | (refine q_eadv M ?_; clear M; intro w M) | (refine q_eset M ?_; clear M; intro w M)) | (refine q_var M ?_; clear M; intro z w M) | (refine q_row M (by rfl) ?_; clear M; intro q w M)); refine hK _ _ ?_; clear hK K) | ((with_reducible refine o_listg fun K hK => ?_); (first | (first | refine q_all M (by rfl) ?_ | refine q_get M (by exact rfl) ?_ | refine q_part M (by rfl) (by simp only [laid, opdC, List.take_succ_cons, List.take_zero, List.drop_succ_cons, List.drop_zero, List.length_cons, List.length_nil, List.cons_append, List.nil_append, Nat.reduceAdd] <;> rfl) ?_ | refine q_ep M ?_ | refine q_ee M ?_ | refine q_et M ?_ | refine q_eo M (by assumption) (by assumption) (by assumption) ?_)); refine hK _ _ ?_; clear hK K) | (with_reducible refine o_skipT ?_) | (with_reducible refine o_skipF ?_)))
      obtain ⟨c0, c1, c2, fz⟩ := M.at_.open
      have hlt := M.at_.lt
      go_quiet (fail)
      replace M := M.draws nq
      clear c0 c1 c2 fz hlt
      generalize World.drewN _ nq = w at M ⊢
      go_wp2_with (first | ((try show bodyPost _ _ _ _ _ _); (refine q_ret M Tryd.results30 (by rfl) ?_)) | (first | ((with_reducible refine o_list rfl fun K hK => ?_); (first | (first | refine q_all M (by rfl) ?_ | refine q_get M (by exact rfl) ?_ | refine q_part M (by rfl) (by simp only [laid, opdC, List.take_succ_cons, List.take_zero, List.drop_succ_cons, List.drop_zero, List.length_cons, List.length_nil, List.cons_append, List.nil_append, Nat.reduceAdd] <;> rfl) ?_ | refine q_ep M ?_ | refine q_ee M ?_ | refine q_et M ?_ | refine q_eo M (by assumption) (by assumption) (by assumption) ?_) | (first | ((first | refine q_setc M (by rfl) (by rfl) ?_ | refine q_set M (by rfl) (by rfl) ?_ | refine q_put M (by rfl) (by rfl) (by rfl) ?_ | refine q_in M (by rfl) (by rfl) (by rfl) ?_); clear M; intro w M; (try simp only [List.set_cons_zero, List.set_cons_succ, laid, opdC, List.take_succ_cons, List.take_zero, List.drop_succ_cons, List.drop_zero, List.length_cons, List.length_nil, List.cons_append, List.nil_append, Nat.reduceAdd, Nat.zero_add] at M)) | (refine q_eadv M ?_; clear M; intro w M) | (refine q_eset M ?_; clear M; intro w M)) | (refine q_var M ?_; clear M; intro z w M) | (refine q_row M (by rfl) ?_; clear M; intro q w M)); refine hK _ _ ?_; clear hK K) | ((with_reducible refine o_listg fun K hK => ?_); (first | (first | refine q_all M (by rfl) ?_ | refine q_get M (by exact rfl) ?_ | refine q_part M (by rfl) (by simp only [laid, opdC, List.take_succ_cons, List.take_zero, List.drop_succ_cons, List.drop_zero, List.length_cons, List.length_nil, List.cons_append, List.nil_append, Nat.reduceAdd] <;> rfl) ?_ | refine q_ep M ?_ | refine q_ee M ?_ | refine q_et M ?_ | refine q_eo M (by assumption) (by assumption) (by assumption) ?_)); refine hK _ _ ?_; clear hK K) | (with_reducible refine o_skipT ?_) | (with_reducible refine o_skipF ?_)))
      rw [HN.out]
      exact ⟨rfl, M.drop⟩
  · have heb : (s.e != 0) = true := by simpa using he
    have HN := Lib.hid (nxtK_none (T := T) (s := s) (fun h => he h.1))
    clear hE he l1
    go_enter Tryd.func30, Tryd.ntmps30
    go_wp2_with (first | (first | ((with_reducible refine o_list rfl fun K hK => ?_); (first | (first | refine q_all M (by rfl) ?_ | refine q_get M (by exact rfl) ?_ | refine q_part M (by rfl) (by simp only [laid, opdC, List.take_succ_cons, List.take_zero, List.drop_succ_cons, List.drop_zero, List.length_cons, List.length_nil, List.cons_append, List.nil_append, Nat.reduceAdd] <;> rfl) ?_ | refine q_ep M ?_ | refine q_ee M ?_ | refine q_et M ?_ | refine q_eo M (by assumption) (by assumption) (by assumption) ?_) | (first | ((first | refine q_setc M (by rfl) (by rfl) ?_ | refine q_set M (by rfl) (by rfl) ?_ | refine q_put M (by rfl) (by rfl) (by rfl) ?_ | refine q_in M (by rfl) (by rfl) (by rfl) ?_); clear M; intro w M; (try simp only [List.set_cons_zero, List.set_cons_succ, laid, opdC, List.take_succ_cons, List.take_zero, List.drop_succ_cons, List.drop_zero, List.length_cons, List.length_nil, List.cons_append, List.nil_append, Nat.reduceAdd, Nat.zero_add] at M)) | (refine q_eadv M ?_; clear M; intro w M) | (refine q_eset M ?_; clear M; intro w M)) | (refine q_var M ?_; clear M; intro z w M) | (refine q_row M (by rfl) ?_; clear M; intro q w M)); refine hK _ _ ?_; clear hK K) | ((with_reducible refine o_listg fun K hK => ?_); (first | (first | refine q_all M (by rfl) ?_ | refine q_get M (by exact rfl) ?_ | refine q_part M (by rfl) (by simp only [laid, opdC, List.take_succ_cons, List.take_zero, List.drop_succ_cons, List.drop_zero, List.length_cons, List.length_nil, List.cons_append, List.nil_append, Nat.reduceAdd] <;> rfl) ?_ | refine q_ep M ?_ | refine q_ee M ?_ | refine q_et M ?_ | refine q_eo M (by assumption) (by assumption) (by assumption) ?_)); refine hK _ _ ?_; clear hK K) | (with_reducible refine o_skipT ?_) | (with_reducible refine o_skipF ?_)))
    obtain ⟨c0, c1, c2, fz⟩ := M.at_.open
    have hlt := M.at_.lt
    go_quiet (fail)
    replace M := M.draws nq
    clear c0 c1 c2 fz hlt
    generalize World.drewN _ nq = w at M ⊢
    go_wp2_with (first | ((try show bodyPost _ _ _ _ _ _); (refine q_ret M Tryd.results30 (by rfl) ?_)) | (first | ((with_reducible refine o_list rfl fun K hK => ?_); (first | (first | refine q_all M (by rfl) ?_ | refine q_get M (by exact rfl) ?_ | refine q_part M (by rfl) (by simp only [laid, opdC, List.take_succ_cons, List.take_zero, List.drop_succ_cons, List.drop_zero, List.length_cons, List.length_nil, List.cons_append, List.nil_append, Nat.reduceAdd] <;> rfl) ?_ | refine q_ep M ?_ | refine q_ee M ?_ | refine q_et M ?_ | refine q_eo M (by assumption) (by assumption) (by assumption) ?_) | (first | ((first | refine q_setc M (by rfl) (by rfl) ?_ | refine q_set M (by rfl) (by rfl) ?_ | refine q_put M (by rfl) (by rfl) (by rfl) ?_ | refine q_in M (by rfl) (by rfl) (by rfl) ?_); clear M; intro w M; (try simp only [List.set_cons_zero, List.set_cons_succ, laid, opdC, List.take_succ_cons, List.take_zero, List.drop_succ_cons, List.drop_zero, List.length_cons, List.length_nil, List.cons_append, List.nil_append, Nat.reduceAdd, Nat.zero_add] at M)) | (refine q_eadv M ?_; clear M; intro w M) | (refine q_eset M ?_; clear M; intro w M)) | (refine q_var M ?_; clear M; intro z w M) | (refine q_row M (by rfl) ?_; clear M; intro q w M)); refine hK _ _ ?_; clear hK K) | ((with_reducible refine o_listg fun K hK => ?_); (first | (first | refine q_all M (by rfl) ?_ | refine q_get M (by exact rfl) ?_ | refine q_part M (by rfl) (by simp only [laid, opdC, List.take_succ_cons, List.take_zero, List.drop_succ_cons, List.drop_zero, List.length_cons, List.length_nil, List.cons_append, List.nil_append, Nat.reduceAdd] <;> rfl) ?_ | refine q_ep M ?_ | refine q_ee M ?_ | refine q_et M ?_ | refine q_eo M (by assumption) (by assumption) (by assumption) ?_)); refine hK _ _ ?_; clear hK K) | (with_reducible refine o_skipT ?_) | (with_reducible refine o_skipF ?_)))
    rw [HN.out]
    exact ⟨rfl, M.drop⟩
theorem missS_end {s : PS} (he : s.e = 0) (hp : ¬ s.pos < T.length) : missS T s = ⟨s.pos, 5⟩ := by unfold missS failS; rw [if_pos he, if_neg hp]
theorem missS_form {s : PS} (he : s.e = 0) (hp : s.pos < T.length) : missS T s = ⟨s.pos, 4⟩ := by unfold missS failS; rw [if_pos he, if_pos hp]
set_option maxRecDepth 8000 in
set_option maxHeartbeats 2000000 in
theorem Mem.wrong (M : Mem (EyAt b ao n cap) b u w s L) (hE : Env T b ao n cap u) :
    Calls Tryd.prog 15 #[.pointer (some ⟨b, 0, none⟩)] w fun e w' => e = .returned (.tuple #[]) ∧ Mem (EyAt b ao n cap) b u w' (missS T s) L := by
  obtain ⟨l1, l2, l3, l4⟩ := hE.len
  by_cases he : s.e = 0
  · have heb : (s.e != 0) = false := by simpa using he
    by_cases hp : s.pos < T.length
    · have HN := Lib.hid (missS_form he hp)
      have hpd : decide (n ≤ s.pos) = false := by simp; omega
      clear hE he hp l1
      go_enter Tryd.func15, Tryd.ntmps15
      go_wp2_with (first | (first | ((with_reducible refine o_list rfl fun K hK => ?_); (first | (first | refine q_all M (by rfl) ?_ | refine q_get M (by exact rfl) ?_ | refine q_part M (by rfl) (by simp only [laid, opdC, List.take_succ_cons, List.take_zero, List.drop_succ_cons, List.drop_zero, List.length_cons, List.length_nil, List.cons_append, List.nil_append, Nat.reduceAdd] <;> rfl) ?_ | refine q_ep M ?_ | refine q_ee M ?_ | refine q_et M ?_ | refine q_eo M (by assumption) (by assumption) (by assumption) ?_) | (first | ((first | refine q_setc M (by rfl) (by rfl) ?_ | refine q_set M (by rfl) (by rfl) ?_ | refine q_put M (by rfl) (by rfl) (by rfl) ?_ | refine q_in M (by rfl) (by rfl) (by rfl) ?_); clear M; intro w M; (try simp only [List.set_cons_zero, List.set_cons_succ, laid, opdC, List.take_succ_cons, List.take_zero, List.drop_succ_cons, List.drop_zero, List.length_cons, List.length_nil, List.cons_append, List.nil_append, Nat.reduceAdd, Nat.zero_add] at M)) | (refine q_eadv M ?_; clear M; intro w M) | (refine q_eset M ?_; clear M; intro w M)) | (refine q_var M ?_; clear M; intro z w M) | (refine q_row M (by rfl) ?_; clear M; intro q w M)); refine hK _ _ ?_; clear hK K) | ((with_reducible refine o_listg fun K hK => ?_); (first | (first | refine q_all M (by rfl) ?_ | refine q_get M (by exact rfl) ?_ | refine q_part M (by rfl) (by simp only [laid, opdC, List.take_succ_cons, List.take_zero, List.drop_succ_cons, List.drop_zero, List.length_cons, List.length_nil, List.cons_append, List.nil_append, Nat.reduceAdd] <;> rfl) ?_ | refine q_ep M ?_ | refine q_ee M ?_ | refine q_et M ?_ | refine q_eo M (by assumption) (by assumption) (by assumption) ?_)); refine hK _ _ ?_; clear hK K) | (with_reducible refine o_skipT ?_) | (with_reducible refine o_skipF ?_)))
      obtain ⟨c0, c1, c2, fz⟩ := M.at_.open
      have hlt := M.at_.lt
      go_quiet (fail)
      replace M := M.draws nq
      clear c0 c1 c2 fz hlt
      generalize World.drewN _ nq = w at M ⊢
      go_wp2_with (first | (first | ((with_reducible refine o_list rfl fun K hK => ?_); (first | (first | refine q_all M (by rfl) ?_ | refine q_get M (by exact rfl) ?_ | refine q_part M (by rfl) (by simp only [laid, opdC, List.take_succ_cons, List.take_zero, List.drop_succ_cons, List.drop_zero, List.length_cons, List.length_nil, List.cons_append, List.nil_append, Nat.reduceAdd] <;> rfl) ?_ | refine q_ep M ?_ | refine q_ee M ?_ | refine q_et M ?_ | refine q_eo M (by assumption) (by assumption) (by assumption) ?_) | (first | ((first | refine q_setc M (by rfl) (by rfl) ?_ | refine q_set M (by rfl) (by rfl) ?_ | refine q_put M (by rfl) (by rfl) (by rfl) ?_ | refine q_in M (by rfl) (by rfl) (by rfl) ?_); clear M; intro w M; (try simp only [List.set_cons_zero, List.set_cons_succ, laid, opdC, List.take_succ_cons, List.take_zero, List.drop_succ_cons, List.drop_zero, List.length_cons, List.length_nil, List.cons_append, List.nil_append, Nat.reduceAdd, Nat.zero_add] at M)) | (refine q_eadv M ?_; clear M; intro w M) | (refine q_eset M ?_; clear M; intro w M)) | (refine q_var M ?_; clear M; intro z w M) | (refine q_row M (by rfl) ?_; clear M; intro q w M)); refine hK _ _ ?_; clear hK K) | ((with_reducible refine o_listg fun K hK => ?_); (first | (first | refine q_all M (by rfl) ?_ | refine q_get M (by exact rfl) ?_ | refine q_part M (by rfl) (by simp only [laid, opdC, List.take_succ_cons, List.take_zero, List.drop_succ_cons, List.drop_zero, List.length_cons, List.length_nil, List.cons_append, List.nil_append, Nat.reduceAdd] <;> rfl) ?_ | refine q_ep M ?_ | refine q_ee M ?_ | refine q_et M ?_ | refine q_eo M (by assumption) (by assumption) (by assumption) ?_)); refine hK _ _ ?_; clear hK K) | (with_reducible refine o_skipT ?_) | (with_reducible refine o_skipF ?_)))
      go_end0
      rw [HN.out]
      exact ⟨rfl, M⟩
    · have HN := Lib.hid (missS_end he hp)
      have hpd : decide (n ≤ s.pos) = true := by simp; omega
      clear hE he hp l1
      go_enter Tryd.func15, Tryd.ntmps15
      go_wp2_with (first | (first | ((with_reducible refine o_list rfl fun K hK => ?_); (first | (first | refine q_all M (by rfl) ?_ | refine q_get M (by exact rfl) ?_ | refine q_part M (by rfl) (by simp only [laid, opdC, List.take_succ_cons, List.take_zero, List.drop_succ_cons, List.drop_zero, List.length_cons, List.length_nil, List.cons_append, List.nil_append, Nat.reduceAdd] <;> rfl) ?_ | refine q_ep M ?_ | refine q_ee M ?_ | refine q_et M ?_ | refine q_eo M (by assumption) (by assumption) (by assumption) ?_) | (first | ((first | refine q_setc M (by rfl) (by rfl) ?_ | refine q_set M (by rfl) (by rfl) ?_ | refine q_put M (by rfl) (by rfl) (by rfl) ?_ | refine q_in M (by rfl) (by rfl) (by rfl) ?_); clear M; intro w M; (try simp only [List.set_cons_zero, List.set_cons_succ, laid, opdC, List.take_succ_cons, List.take_zero, List.drop_succ_cons, List.drop_zero, List.length_cons, List.length_nil, List.cons_append, List.nil_append, Nat.reduceAdd, Nat.zero_add] at M)) | (refine q_eadv M ?_; clear M; intro w M) | (refine q_eset M ?_; clear M; intro w M)) | (refine q_var M ?_; clear M; intro z w M) | (refine q_row M (by rfl) ?_; clear M; intro q w M)); refine hK _ _ ?_; clear hK K) | ((with_reducible refine o_listg fun K hK => ?_); (first | (first | refine q_all M (by rfl) ?_ | refine q_get M (by exact rfl) ?_ | refine q_part M (by rfl) (by simp only [laid, opdC, List.take_succ_cons, List.take_zero, List.drop_succ_cons, List.drop_zero, List.length_cons, List.length_nil, List.cons_append, List.nil_append, Nat.reduceAdd] <;> rfl) ?_ | refine q_ep M ?_ | refine q_ee M ?_ | refine q_et M ?_ | refine q_eo M (by assumption) (by assumption) (by assumption) ?_)); refine hK _ _ ?_; clear hK K) | (with_reducible refine o_skipT ?_) | (with_reducible refine o_skipF ?_)))
      obtain ⟨c0, c1, c2, fz⟩ := M.at_.open
      have hlt := M.at_.lt
      go_quiet (fail)
      replace M := M.draws nq
      clear c0 c1 c2 fz hlt
      generalize World.drewN _ nq = w at M ⊢
      go_wp2_with (first | (first | ((with_reducible refine o_list rfl fun K hK => ?_); (first | (first | refine q_all M (by rfl) ?_ | refine q_get M (by exact rfl) ?_ | refine q_part M (by rfl) (by simp only [laid, opdC, List.take_succ_cons, List.take_zero, List.drop_succ_cons, List.drop_zero, List.length_cons, List.length_nil, List.cons_append, List.nil_append, Nat.reduceAdd] <;> rfl) ?_ | refine q_ep M ?_ | refine q_ee M ?_ | refine q_et M ?_ | refine q_eo M (by assumption) (by assumption) (by assumption) ?_) | (first | ((first | refine q_setc M (by rfl) (by rfl) ?_ | refine q_set M (by rfl) (by rfl) ?_ | refine q_put M (by rfl) (by rfl) (by rfl) ?_ | refine q_in M (by rfl) (by rfl) (by rfl) ?_); clear M; intro w M; (try simp only [List.set_cons_zero, List.set_cons_succ, laid, opdC, List.take_succ_cons, List.take_zero, List.drop_succ_cons, List.drop_zero, List.length_cons, List.length_nil, List.cons_append, List.nil_append, Nat.reduceAdd, Nat.zero_add] at M)) | (refine q_eadv M ?_; clear M; intro w M) | (refine q_eset M ?_; clear M; intro w M)) | (refine q_var M ?_; clear M; intro z w M) | (refine q_row M (by rfl) ?_; clear M; intro q w M)); refine hK _ _ ?_; clear hK K) | ((with_reducible refine o_listg fun K hK => ?_); (first | (first | refine q_all M (by rfl) ?_ | refine q_get M (by exact rfl) ?_ | refine q_part M (by rfl) (by simp only [laid, opdC, List.take_succ_cons, List.take_zero, List.drop_succ_cons, List.drop_zero, List.length_cons, List.length_nil, List.cons_append, List.nil_append, Nat.reduceAdd] <;> rfl) ?_ | refine q_ep M ?_ | refine q_ee M ?_ | refine q_et M ?_ | refine q_eo M (by assumption) (by assumption) (by assumption) ?_)); refine hK _ _ ?_; clear hK K) | (with_reducible refine o_skipT ?_) | (with_reducible refine o_skipF ?_)))
      go_end0
      rw [HN.out]
      exact ⟨rfl, M⟩
  · have heb : (s.e != 0) = true := by simpa using he
    have HN := Lib.hid (miss_stuck (T := T) he)
    clear hE he l1
    go_enter Tryd.func15, Tryd.ntmps15
    go_wp2_with (first | (first | ((with_reducible refine o_list rfl fun K hK => ?_); (first | (first | refine q_all M (by rfl) ?_ | refine q_get M (by exact rfl) ?_ | refine q_part M (by rfl) (by simp only [laid, opdC, List.take_succ_cons, List.take_zero, List.drop_succ_cons, List.drop_zero, List.length_cons, List.length_nil, List.cons_append, List.nil_append, Nat.reduceAdd] <;> rfl) ?_ | refine q_ep M ?_ | refine q_ee M ?_ | refine q_et M ?_ | refine q_eo M (by assumption) (by assumption) (by assumption) ?_) | (first | ((first | refine q_setc M (by rfl) (by rfl) ?_ | refine q_set M (by rfl) (by rfl) ?_ | refine q_put M (by rfl) (by rfl) (by rfl) ?_ | refine q_in M (by rfl) (by rfl) (by rfl) ?_); clear M; intro w M; (try simp only [List.set_cons_zero, List.set_cons_succ, laid, opdC, List.take_succ_cons, List.take_zero, List.drop_succ_cons, List.drop_zero, List.length_cons, List.length_nil, List.cons_append, List.nil_append, Nat.reduceAdd, Nat.zero_add] at M)) | (refine q_eadv M ?_; clear M; intro w M) | (refine q_eset M ?_; clear M; intro w M)) | (refine q_var M ?_; clear M; intro z w M) | (refine q_row M (by rfl) ?_; clear M; intro q w M)); refine hK _ _ ?_; clear hK K) | ((with_reducible refine o_listg fun K hK => ?_); (first | (first | refine q_all M (by rfl) ?_ | refine q_get M (by exact rfl) ?_ | refine q_part M (by rfl) (by simp only [laid, opdC, List.take_succ_cons, List.take_zero, List.drop_succ_cons, List.drop_zero, List.length_cons, List.length_nil, List.cons_append, List.nil_append, Nat.reduceAdd] <;> rfl) ?_ | refine q_ep M ?_ | refine q_ee M ?_ | refine q_et M ?_ | refine q_eo M (by assumption) (by assumption) (by assumption) ?_)); refine hK _ _ ?_; clear hK K) | (with_reducible refine o_skipT ?_) | (with_reducible refine o_skipF ?_)))
    refine bodyPost_ret (results_none rfl _ _ _) rfl ?_
    rw [HN.out]
    exact ⟨rfl, M⟩
end
end Go.Proofs.YtobnaokknkmlcaaDoor
/-
  The walk of the reference's eye, second part: is, want, names, numbers.
-/
namespace Go.Proofs.YtobnaokknkmlcaaDoor
open Go.RowKit
set_option linter.unusedVariables false
set_option linter.unusedSimpArgs false

section
variable {T : List Tok} {b : Nat} {ao : Option Addr} {n cap : Nat} {s : PS} {u w : World} {L : List Ent} {At : PS → World → Prop}
theorem nxtK_ok {s : PS} (h : (nxtK T s).kind ≠ 0) : s.e = 0 ∧ s.pos < T.length := Classical.byContradiction fun hn => h (by rw [nxtK_none hn]; rfl)
theorem nxtK_cases (s : PS) : (nxt T s = none ∧ nxtK T s = tok0) ∨ nxt T s = some (nxtK T s) := by
  unfold nxtK
  cases nxt T s with
  | none => exact .inl ⟨rfl, rfl⟩
  | some t => exact .inr rfl
theorem seesK {k : Int} (hk : k ≠ 0) (x : ByteArray) (s : PS) : seesB T k x s = (decide ((nxtK T s).kind = k) && sameS (nxtK T s).text x) := by
  unfold seesB
  rcases nxtK_cases (T := T) s with ⟨h1, h2⟩ | h1
  · rw [h1, h2]
    have : decide (tok0.kind = k) = false := decide_eq_false (fun h => hk (by rw [← h]; rfl))
    rw [this]; rfl
  · rw [h1]
theorem nameK (s : PS) : nameS T s = if (nxtK T s).kind = 1 ∧ keptB (nxtK T s).text = false then ((nxtK T s).text, adv s) else (ByteArray.empty, missS T s) := by
  unfold nameS
  rcases nxtK_cases (T := T) s with ⟨h1, h2⟩ | h1
  · rw [h1, h2, if_neg (fun h => by simp [tok0] at h)]
  · rw [h1]
theorem numK (s : PS) : numS T s = if (nxtK T s).kind = 2 then ((nxtK T s).int, adv s) else (0, missS T s) := by
  unfold numS
  rcases nxtK_cases (T := T) s with ⟨h1, h2⟩ | h1
  · rw [h1, h2, if_neg (fun h => by simp [tok0] at h)]
  · rw [h1]
theorem nxtK_pos {s : PS} (hE : Env T b ao n cap u) (h : (nxtK T s).kind ≠ 0) : (s.pos : Int) ≤ 700 := by
  have h1 := (nxtK_ok h).2
  have h2 := hE.len
  omega
set_option maxRecDepth 8000 in
set_option maxHeartbeats 2000000 in
theorem is_any (M : Mem (EyAt b ao n cap) b u w s L) (hE : Env T b ao n cap u) (k : Int) (hk0 : k ≠ 0) (x : ByteArray) :
    Calls Tryd.prog 11 #[.pointer (some ⟨b, 0, none⟩), .int .i64 k, .string x] w fun e w' => e = .returned (.bool (seesB T k x s)) ∧ Mem (EyAt b ao n cap) b u w' (eatS T k x s) L := by
  have HE := Lib.hid hE
  by_cases hk : (nxtK T s).kind = k
  · have hp7 := nxtK_pos hE (by rw [hk]; exact hk0)
    have hkb : (k != (nxtK T s).kind) = false := by simp [hk]
    have hkc : ((nxtK T s).kind != k) = false := by simp [hk]
    cases hx : ((nxtK T s).text.toList == x.toList) with
    | true =>
      have HS : seesB T k x s = true := by rw [seesK hk0, hk]; unfold sameS; rw [hx]; simp
      rw [eat_yes HS, HS]
      clear hE hk HS
      go_enter Tryd.func11, Tryd.ntmps11
      go_wp2_with (first | (first | ((with_reducible refine o_list rfl fun K hK => ?_); (first | (first | refine q_all M (by rfl) ?_ | refine q_get M (by exact rfl) ?_ | refine q_part M (by rfl) (by simp only [laid, opdC, List.take_succ_cons, List.take_zero, List.drop_succ_cons, List.drop_zero, List.length_cons, List.length_nil, List.cons_append, List.nil_append, Nat.reduceAdd] <;> rfl) ?_ | refine q_ep M ?_ | refine q_ee M ?_ | refine q_et M ?_ | refine q_eo M (by assumption) (by assumption) (by assumption) ?_) | (first | ((first | refine q_setc M (by rfl) (by rfl) ?_ | refine q_set M (by rfl) (by rfl) ?_ | refine q_put M (by rfl) (by rfl) (by rfl) ?_ | refine q_in M (by rfl) (by rfl) (by rfl) ?_); clear M; intro w M; (try simp only [List.set_cons_zero, List.set_cons_succ, laid, opdC, List.take_succ_cons, List.take_zero, List.drop_succ_cons, List.drop_zero, List.length_cons, List.length_nil, List.cons_append, List.nil_append, Nat.reduceAdd, Nat.zero_add] at M)) | (refine q_eadv M ?_; clear M; intro w M) | (refine q_eset M ?_; clear M; intro w M)) | (refine q_var M ?_; clear M; intro z w M) | (refine q_row M (by rfl) ?_; clear M; intro q w M)); refine hK _ _ ?_; clear hK K) | ((with_reducible refine o_listg fun K hK => ?_); (first | (first | refine q_all M (by rfl) ?_ | refine q_get M (by exact rfl) ?_ | refine q_part M (by rfl) (by simp only [laid, opdC, List.take_succ_cons, List.take_zero, List.drop_succ_cons, List.drop_zero, List.length_cons, List.length_nil, List.cons_append, List.nil_append, Nat.reduceAdd] <;> rfl) ?_ | refine q_ep M ?_ | refine q_ee M ?_ | refine q_et M ?_ | refine q_eo M (by assumption) (by assumption) (by assumption) ?_)); refine hK _ _ ?_; clear hK K) | (with_reducible refine o_skipT ?_) | (with_reducible refine o_skipF ?_)) | (go_at_call 30; refine (M.next HE.out).mono ?_; clear M; rintro e w ⟨rfl, M⟩))
      go_ret
      exact ⟨rfl, M.drop⟩
    | false =>
      have HS : seesB T k x s = false := by rw [seesK hk0, hk]; unfold sameS; rw [hx]; simp
      rw [eat_no HS, HS]
      clear hE hk HS
      go_enter Tryd.func11, Tryd.ntmps11
      go_wp2_with (first | (first | ((with_reducible refine o_list rfl fun K hK => ?_); (first | (first | refine q_all M (by rfl) ?_ | refine q_get M (by exact rfl) ?_ | refine q_part M (by rfl) (by simp only [laid, opdC, List.take_succ_cons, List.take_zero, List.drop_succ_cons, List.drop_zero, List.length_cons, List.length_nil, List.cons_append, List.nil_append, Nat.reduceAdd] <;> rfl) ?_ | refine q_ep M ?_ | refine q_ee M ?_ | refine q_et M ?_ | refine q_eo M (by assumption) (by assumption) (by assumption) ?_) | (first | ((first | refine q_setc M (by rfl) (by rfl) ?_ | refine q_set M (by rfl) (by rfl) ?_ | refine q_put M (by rfl) (by rfl) (by rfl) ?_ | refine q_in M (by rfl) (by rfl) (by rfl) ?_); clear M; intro w M; (try simp only [List.set_cons_zero, List.set_cons_succ, laid, opdC, List.take_succ_cons, List.take_zero, List.drop_succ_cons, List.drop_zero, List.length_cons, List.length_nil, List.cons_append, List.nil_append, Nat.reduceAdd, Nat.zero_add] at M)) | (refine q_eadv M ?_; clear M; intro w M) | (refine q_eset M ?_; clear M; intro w M)) | (refine q_var M ?_; clear M; intro z w M) | (refine q_row M (by rfl) ?_; clear M; intro q w M)); refine hK _ _ ?_; clear hK K) | ((with_reducible refine o_listg fun K hK => ?_); (first | (first | refine q_all M (by rfl) ?_ | refine q_get M (by exact rfl) ?_ | refine q_part M (by rfl) (by simp only [laid, opdC, List.take_succ_cons, List.take_zero, List.drop_succ_cons, List.drop_zero, List.length_cons, List.length_nil, List.cons_append, List.nil_append, Nat.reduceAdd] <;> rfl) ?_ | refine q_ep M ?_ | refine q_ee M ?_ | refine q_et M ?_ | refine q_eo M (by assumption) (by assumption) (by assumption) ?_)); refine hK _ _ ?_; clear hK K) | (with_reducible refine o_skipT ?_) | (with_reducible refine o_skipF ?_)) | (go_at_call 30; refine (M.next HE.out).mono ?_; clear M; rintro e w ⟨rfl, M⟩))
      go_ret
      exact ⟨rfl, M.drop⟩
  · have hkc : ((nxtK T s).kind != k) = true := by simpa using hk
    have HS : seesB T k x s = false := by rw [seesK hk0, decide_eq_false hk]; rfl
    rw [eat_no HS, HS]
    clear hE hk HS
    go_enter Tryd.func11, Tryd.ntmps11
    go_wp2_with (first | (first | ((with_reducible refine o_list rfl fun K hK => ?_); (first | (first | refine q_all M (by rfl) ?_ | refine q_get M (by exact rfl) ?_ | refine q_part M (by rfl) (by simp only [laid, opdC, List.take_succ_cons, List.take_zero, List.drop_succ_cons, List.drop_zero, List.length_cons, List.length_nil, List.cons_append, List.nil_append, Nat.reduceAdd] <;> rfl) ?_ | refine q_ep M ?_ | refine q_ee M ?_ | refine q_et M ?_ | refine q_eo M (by assumption) (by assumption) (by assumption) ?_) | (first | ((first | refine q_setc M (by rfl) (by rfl) ?_ | refine q_set M (by rfl) (by rfl) ?_ | refine q_put M (by rfl) (by rfl) (by rfl) ?_ | refine q_in M (by rfl) (by rfl) (by rfl) ?_); clear M; intro w M; (try simp only [List.set_cons_zero, List.set_cons_succ, laid, opdC, List.take_succ_cons, List.take_zero, List.drop_succ_cons, List.drop_zero, List.length_cons, List.length_nil, List.cons_append, List.nil_append, Nat.reduceAdd, Nat.zero_add] at M)) | (refine q_eadv M ?_; clear M; intro w M) | (refine q_eset M ?_; clear M; intro w M)) | (refine q_var M ?_; clear M; intro z w M) | (refine q_row M (by rfl) ?_; clear M; intro q w M)); refine hK _ _ ?_; clear hK K) | ((with_reducible refine o_listg fun K hK => ?_); (first | (first | refine q_all M (by rfl) ?_ | refine q_get M (by exact rfl) ?_ | refine q_part M (by rfl) (by simp only [laid, opdC, List.take_succ_cons, List.take_zero, List.drop_succ_cons, List.drop_zero, List.length_cons, List.length_nil, List.cons_append, List.nil_append, Nat.reduceAdd] <;> rfl) ?_ | refine q_ep M ?_ | refine q_ee M ?_ | refine q_et M ?_ | refine q_eo M (by assumption) (by assumption) (by assumption) ?_)); refine hK _ _ ?_; clear hK K) | (with_reducible refine o_skipT ?_) | (with_reducible refine o_skipF ?_)) | (go_at_call 30; refine (M.next HE.out).mono ?_; clear M; rintro e w ⟨rfl, M⟩))
    go_ret
    exact ⟨rfl, M.drop⟩
theorem Mem.is (M : Mem (EyAt b ao n cap) b u w s L) (hE : Env T b ao n cap u) (k : Int) (hk : k ≠ 0) (x : ByteArray) {Q : Ending → World → Prop}
    (hy : ∀ w', Dec (seesB T k x s = true) → Mem (EyAt b ao n cap) b u w' (Go.Proofs.YtobnaokknkmlcaaDoor.adv s) L → Q (.returned (.bool true)) w') (hn : ∀ w', Dec (seesB T k x s = false) → Mem (EyAt b ao n cap) b u w' s L → Q (.returned (.bool false)) w') :
    Calls Tryd.prog 11 #[.pointer (some ⟨b, 0, none⟩), .int .i64 k, .string x] w Q :=
  (is_any M hE k hk x).mono fun e w' h => by
    obtain ⟨rfl, h1⟩ := h
    cases hs : seesB T k x s with
    | true => rw [eat_yes hs] at h1; exact hy w' hs h1
    | false => rw [eat_no hs] at h1; exact hn w' hs h1
set_option maxRecDepth 8000 in
set_option maxHeartbeats 2000000 in
theorem Mem.want (M : Mem (EyAt b ao n cap) b u w s L) (hE : Env T b ao n cap u) (k : Int) (hk : k ≠ 0) (x : ByteArray) :
    Calls Tryd.prog 13 #[.pointer (some ⟨b, 0, none⟩), .int .i64 k, .string x] w fun e w' => e = .returned (.tuple #[]) ∧ Mem (EyAt b ao n cap) b u w' (mustS T k x s) L := by
  have HE := Lib.hid hE
  have HK := Lib.hid hk
  clear hE hk
  go_enter Tryd.func13, Tryd.ntmps13
  go_wp2_with (first | ((go_at_call 11); refine M.is HE.out _ HK.out _ ?_ ?_ <;> (clear M; intro w hs M)) | (go_at_call 15; refine (M.wrong HE.out).mono ?_; clear M; rintro e w ⟨rfl, M⟩))
  · go_end0
    unfold mustS
    rw [if_pos hs.out]
    exact ⟨rfl, M⟩
  · go_end0
    unfold mustS
    rw [hs.out]
    exact ⟨rfl, M⟩
set_option maxRecDepth 8000 in
set_option maxHeartbeats 2000000 in
theorem Mem.num (M : Mem (EyAt b ao n cap) b u w s L) (hE : Env T b ao n cap u) :
    Calls Tryd.prog 33 #[.pointer (some ⟨b, 0, none⟩)] w fun e w' => e = .returned (.int .i64 (numS T s).1) ∧ Mem (EyAt b ao n cap) b u w' (numS T s).2 L := by
  have HE := Lib.hid hE
  rw [numK]
  by_cases hk : (nxtK T s).kind = 2
  · have hp7 := nxtK_pos hE (by rw [hk]; decide)
    have hkc : ((nxtK T s).kind != 2) = false := by simp [hk]
    rw [if_pos hk]
    clear hE hk
    go_enter Tryd.func33, Tryd.ntmps33
    go_wp2_with (first | (first | ((with_reducible refine o_list rfl fun K hK => ?_); (first | (first | refine q_all M (by rfl) ?_ | refine q_get M (by exact rfl) ?_ | refine q_part M (by rfl) (by simp only [laid, opdC, List.take_succ_cons, List.take_zero, List.drop_succ_cons, List.drop_zero, List.length_cons, List.length_nil, List.cons_append, List.nil_append, Nat.reduceAdd] <;> rfl) ?_ | refine q_ep M ?_ | refine q_ee M ?_ | refine q_et M ?_ | refine q_eo M (by assumption) (by assumption) (by assumption) ?_) | (first | ((first | refine q_setc M (by rfl) (by rfl) ?_ | refine q_set M (by rfl) (by rfl) ?_ | refine q_put M (by rfl) (by rfl) (by rfl) ?_ | refine q_in M (by rfl) (by rfl) (by rfl) ?_); clear M; intro w M; (try simp only [List.set_cons_zero, List.set_cons_succ, laid, opdC, List.take_succ_cons, List.take_zero, List.drop_succ_cons, List.drop_zero, List.length_cons, List.length_nil, List.cons_append, List.nil_append, Nat.reduceAdd, Nat.zero_add] at M)) | (refine q_eadv M ?_; clear M; intro w M) | (refine q_eset M ?_; clear M; intro w M)) | (refine q_var M ?_; clear M; intro z w M) | (refine q_row M (by rfl) ?_; clear M; intro q w M)); refine hK _ _ ?_; clear hK K) | ((with_reducible refine o_listg fun K hK => ?_); (first | (first | refine q_all M (by rfl) ?_ | refine q_get M (by exact rfl) ?_ | refine q_part M (by rfl) (by simp only [laid, opdC, List.take_succ_cons, List.take_zero, List.drop_succ_cons, List.drop_zero, List.length_cons, List.length_nil, List.cons_append, List.nil_append, Nat.reduceAdd] <;> rfl) ?_ | refine q_ep M ?_ | refine q_ee M ?_ | refine q_et M ?_ | refine q_eo M (by assumption) (by assumption) (by assumption) ?_)); refine hK _ _ ?_; clear hK K) | (with_reducible refine o_skipT ?_) | (with_reducible refine o_skipF ?_)) | (go_at_call 30; refine (M.next HE.out).mono ?_; clear M; rintro e w ⟨rfl, M⟩))
    go_ret
    exact ⟨rfl, M.drop⟩
  · have hkc : ((nxtK T s).kind != 2) = true := by simpa using hk
    rw [if_neg hk]
    clear hE hk
    go_enter Tryd.func33, Tryd.ntmps33
    go_wp2_with (first | (first | ((with_reducible refine o_list rfl fun K hK => ?_); (first | (first | refine q_all M (by rfl) ?_ | refine q_get M (by exact rfl) ?_ | refine q_part M (by rfl) (by simp only [laid, opdC, List.take_succ_cons, List.take_zero, List.drop_succ_cons, List.drop_zero, List.length_cons, List.length_nil, List.cons_append, List.nil_append, Nat.reduceAdd] <;> rfl) ?_ | refine q_ep M ?_ | refine q_ee M ?_ | refine q_et M ?_ | refine q_eo M (by assumption) (by assumption) (by assumption) ?_) | (first | ((first | refine q_setc M (by rfl) (by rfl) ?_ | refine q_set M (by rfl) (by rfl) ?_ | refine q_put M (by rfl) (by rfl) (by rfl) ?_ | refine q_in M (by rfl) (by rfl) (by rfl) ?_); clear M; intro w M; (try simp only [List.set_cons_zero, List.set_cons_succ, laid, opdC, List.take_succ_cons, List.take_zero, List.drop_succ_cons, List.drop_zero, List.length_cons, List.length_nil, List.cons_append, List.nil_append, Nat.reduceAdd, Nat.zero_add] at M)) | (refine q_eadv M ?_; clear M; intro w M) | (refine q_eset M ?_; clear M; intro w M)) | (refine q_var M ?_; clear M; intro z w M) | (refine q_row M (by rfl) ?_; clear M; intro q w M)); refine hK _ _ ?_; clear hK K) | ((with_reducible refine o_listg fun K hK => ?_); (first | (first | refine q_all M (by rfl) ?_ | refine q_get M (by exact rfl) ?_ | refine q_part M (by rfl) (by simp only [laid, opdC, List.take_succ_cons, List.take_zero, List.drop_succ_cons, List.drop_zero, List.length_cons, List.length_nil, List.cons_append, List.nil_append, Nat.reduceAdd] <;> rfl) ?_ | refine q_ep M ?_ | refine q_ee M ?_ | refine q_et M ?_ | refine q_eo M (by assumption) (by assumption) (by assumption) ?_)); refine hK _ _ ?_; clear hK K) | (with_reducible refine o_skipT ?_) | (with_reducible refine o_skipF ?_)) | (go_at_call 30; refine (M.next HE.out).mono ?_; clear M; rintro e w ⟨rfl, M⟩) | (go_at_call 15; refine (M.wrong HE.out).mono ?_; clear M; rintro e w ⟨rfl, M⟩))
    go_ret
    exact ⟨rfl, M.drop⟩
theorem Mem.keptW (M : Mem At b u w s L) (x : ByteArray) : Calls Tryd.prog 31 #[.string x] w fun e w' => e = .returned (.bool (keptB x)) ∧ Mem At b u w' s L :=
  (keptWord_any x w).mono fun e w' h => ⟨by rw [kept_same]; exact h.1, M.below h.2⟩
set_option maxRecDepth 8000 in
set_option maxHeartbeats 2000000 in
theorem Mem.ident (M : Mem (EyAt b ao n cap) b u w s L) (hE : Env T b ao n cap u) :
    Calls Tryd.prog 12 #[.pointer (some ⟨b, 0, none⟩)] w fun e w' => e = .returned (.string (nameS T s).1) ∧ Mem (EyAt b ao n cap) b u w' (nameS T s).2 L := by
  have HE := Lib.hid hE
  rw [nameK]
  by_cases hk : (nxtK T s).kind = 1
  · have hp7 := nxtK_pos hE (by rw [hk]; decide)
    have hkc : ((nxtK T s).kind != 1) = false := by simp [hk]
    cases hq : keptB (nxtK T s).text with
    | false =>
      rw [if_pos ⟨hk, rfl⟩]
      have HQ := Lib.hid hq
      clear hE hk hq
      go_enter Tryd.func12, Tryd.ntmps12
      go_wp2_with (first | (first | ((with_reducible refine o_list rfl fun K hK => ?_); (first | (first | refine q_all M (by rfl) ?_ | refine q_get M (by exact rfl) ?_ | refine q_part M (by rfl) (by simp only [laid, opdC, List.take_succ_cons, List.take_zero, List.drop_succ_cons, List.drop_zero, List.length_cons, List.length_nil, List.cons_append, List.nil_append, Nat.reduceAdd] <;> rfl) ?_ | refine q_ep M ?_ | refine q_ee M ?_ | refine q_et M ?_ | refine q_eo M (by assumption) (by assumption) (by assumption) ?_) | (first | ((first | refine q_setc M (by rfl) (by rfl) ?_ | refine q_set M (by rfl) (by rfl) ?_ | refine q_put M (by rfl) (by rfl) (by rfl) ?_ | refine q_in M (by rfl) (by rfl) (by rfl) ?_); clear M; intro w M; (try simp only [List.set_cons_zero, List.set_cons_succ, laid, opdC, List.take_succ_cons, List.take_zero, List.drop_succ_cons, List.drop_zero, List.length_cons, List.length_nil, List.cons_append, List.nil_append, Nat.reduceAdd, Nat.zero_add] at M)) | (refine q_eadv M ?_; clear M; intro w M) | (refine q_eset M ?_; clear M; intro w M)) | (refine q_var M ?_; clear M; intro z w M) | (refine q_row M (by rfl) ?_; clear M; intro q w M)); refine hK _ _ ?_; clear hK K) | ((with_reducible refine o_listg fun K hK => ?_); (first | (first | refine q_all M (by rfl) ?_ | refine q_get M (by exact rfl) ?_ | refine q_part M (by rfl) (by simp only [laid, opdC, List.take_succ_cons, List.take_zero, List.drop_succ_cons, List.drop_zero, List.length_cons, List.length_nil, List.cons_append, List.nil_append, Nat.reduceAdd] <;> rfl) ?_ | refine q_ep M ?_ | refine q_ee M ?_ | refine q_et M ?_ | refine q_eo M (by assumption) (by assumption) (by assumption) ?_)); refine hK _ _ ?_; clear hK K) | (with_reducible refine o_skipT ?_) | (with_reducible refine o_skipF ?_)) | (go_at_call 30; refine (M.next HE.out).mono ?_; clear M; rintro e w ⟨rfl, M⟩) | (go_at_call 31; refine (M.keptW _).mono ?_; clear M; rintro e w ⟨rfl, M⟩; rw [HQ.out]))
      go_ret
      exact ⟨rfl, M.drop⟩
    | true =>
      rw [if_neg (fun h => by cases h.2)]
      have HQ := Lib.hid hq
      clear hE hk hq
      go_enter Tryd.func12, Tryd.ntmps12
      go_wp2_with (first | (first | ((with_reducible refine o_list rfl fun K hK => ?_); (first | (first | refine q_all M (by rfl) ?_ | refine q_get M (by exact rfl) ?_ | refine q_part M (by rfl) (by simp only [laid, opdC, List.take_succ_cons, List.take_zero, List.drop_succ_cons, List.drop_zero, List.length_cons, List.length_nil, List.cons_append, List.nil_append, Nat.reduceAdd] <;> rfl) ?_ | refine q_ep M ?_ | refine q_ee M ?_ | refine q_et M ?_ | refine q_eo M (by assumption) (by assumption) (by assumption) ?_) | (first | ((first | refine q_setc M (by rfl) (by rfl) ?_ | refine q_set M (by rfl) (by rfl) ?_ | refine q_put M (by rfl) (by rfl) (by rfl) ?_ | refine q_in M (by rfl) (by rfl) (by rfl) ?_); clear M; intro w M; (try simp only [List.set_cons_zero, List.set_cons_succ, laid, opdC, List.take_succ_cons, List.take_zero, List.drop_succ_cons, List.drop_zero, List.length_cons, List.length_nil, List.cons_append, List.nil_append, Nat.reduceAdd, Nat.zero_add] at M)) | (refine q_eadv M ?_; clear M; intro w M) | (refine q_eset M ?_; clear M; intro w M)) | (refine q_var M ?_; clear M; intro z w M) | (refine q_row M (by rfl) ?_; clear M; intro q w M)); refine hK _ _ ?_; clear hK K) | ((with_reducible refine o_listg fun K hK => ?_); (first | (first | refine q_all M (by rfl) ?_ | refine q_get M (by exact rfl) ?_ | refine q_part M (by rfl) (by simp only [laid, opdC, List.take_succ_cons, List.take_zero, List.drop_succ_cons, List.drop_zero, List.length_cons, List.length_nil, List.cons_append, List.nil_append, Nat.reduceAdd] <;> rfl) ?_ | refine q_ep M ?_ | refine q_ee M ?_ | refine q_et M ?_ | refine q_eo M (by assumption) (by assumption) (by assumption) ?_)); refine hK _ _ ?_; clear hK K) | (with_reducible refine o_skipT ?_) | (with_reducible refine o_skipF ?_)) | (go_at_call 30; refine (M.next HE.out).mono ?_; clear M; rintro e w ⟨rfl, M⟩) | (go_at_call 31; refine (M.keptW _).mono ?_; clear M; rintro e w ⟨rfl, M⟩; rw [HQ.out]) | (go_at_call 15; refine (M.wrong HE.out).mono ?_; clear M; rintro e w ⟨rfl, M⟩))
      go_ret
      exact ⟨rfl, M.drop⟩
  · have hkc : ((nxtK T s).kind != 1) = true := by simpa using hk
    rw [if_neg (fun h => hk h.1)]
    clear hE hk
    go_enter Tryd.func12, Tryd.ntmps12
    go_wp2_with (first | (first | ((with_reducible refine o_list rfl fun K hK => ?_); (first | (first | refine q_all M (by rfl) ?_ | refine q_get M (by exact rfl) ?_ | refine q_part M (by rfl) (by simp only [laid, opdC, List.take_succ_cons, List.take_zero, List.drop_succ_cons, List.drop_zero, List.length_cons, List.length_nil, List.cons_append, List.nil_append, Nat.reduceAdd] <;> rfl) ?_ | refine q_ep M ?_ | refine q_ee M ?_ | refine q_et M ?_ | refine q_eo M (by assumption) (by assumption) (by assumption) ?_) | (first | ((first | refine q_setc M (by rfl) (by rfl) ?_ | refine q_set M (by rfl) (by rfl) ?_ | refine q_put M (by rfl) (by rfl) (by rfl) ?_ | refine q_in M (by rfl) (by rfl) (by rfl) ?_); clear M; intro w M; (try simp only [List.set_cons_zero, List.set_cons_succ, laid, opdC, List.take_succ_cons, List.take_zero, List.drop_succ_cons, List.drop_zero, List.length_cons, List.length_nil, List.cons_append, List.nil_append, Nat.reduceAdd, Nat.zero_add] at M)) | (refine q_eadv M ?_; clear M; intro w M) | (refine q_eset M ?_; clear M; intro w M)) | (refine q_var M ?_; clear M; intro z w M) | (refine q_row M (by rfl) ?_; clear M; intro q w M)); refine hK _ _ ?_; clear hK K) | ((with_reducible refine o_listg fun K hK => ?_); (first | (first | refine q_all M (by rfl) ?_ | refine q_get M (by exact rfl) ?_ | refine q_part M (by rfl) (by simp only [laid, opdC, List.take_succ_cons, List.take_zero, List.drop_succ_cons, List.drop_zero, List.length_cons, List.length_nil, List.cons_append, List.nil_append, Nat.reduceAdd] <;> rfl) ?_ | refine q_ep M ?_ | refine q_ee M ?_ | refine q_et M ?_ | refine q_eo M (by assumption) (by assumption) (by assumption) ?_)); refine hK _ _ ?_; clear hK K) | (with_reducible refine o_skipT ?_) | (with_reducible refine o_skipF ?_)) | (go_at_call 30; refine (M.next HE.out).mono ?_; clear M; rintro e w ⟨rfl, M⟩) | (go_at_call 15; refine (M.wrong HE.out).mono ?_; clear M; rintro e w ⟨rfl, M⟩))
    go_ret
    exact ⟨rfl, M.drop⟩
end
end Go.Proofs.YtobnaokknkmlcaaDoor
/-
  The walk of the reference's eye, third part: operands, comparisons. Printed by ps3.py.
-/
namespace Go.Proofs.YtobnaokknkmlcaaDoor
open Go.RowKit
set_option linter.unusedVariables false
set_option linter.unusedSimpArgs false

section
variable {T : List Tok} {b : Nat} {ao : Option Addr} {n cap : Nat} {s : PS} {u w : World} {L : List Ent} {At : PS → World → Prop}
theorem opdK (s : PS) : opdS T s = if (nxtK T s).kind = 2 then (⟨1, 1, (nxtK T s).int, ByteArray.empty, ByteArray.empty, ByteArray.empty⟩, adv s) else if (nxtK T s).kind = 3 then (⟨1, 2, 0, (nxtK T s).text, ByteArray.empty, ByteArray.empty⟩, adv s)
    else if seesB T 4 mLess s = true then (⟨1, 1, IntKind.i64.wrap (-(numS T (adv s)).1), ByteArray.empty, ByteArray.empty, ByteArray.empty⟩, (numS T (adv s)).2) else nameOpd T s := by
  unfold opdS
  rcases nxtK_cases (T := T) s with ⟨h1, h2⟩ | h1
  · have hs : seesB T 4 mLess s = false := by unfold seesB; rw [h1]
    rw [h1, h2]
    simp [tok0, hs]
  · rw [h1]
set_option maxRecDepth 8000 in
set_option maxHeartbeats 2000000 in
theorem Mem.side (M : Mem (EyAt b ao n cap) b u w s L) (hE : Env T b ao n cap u) :
    Calls Tryd.prog 35 #[.pointer (some ⟨b, 0, none⟩)] w fun e w' => e = .returned (.agg (opdC (opdS T s).1).toArray) ∧ Mem (EyAt b ao n cap) b u w' (opdS T s).2 L := by
  have HE := Lib.hid hE
  have HO := Lib.hid (opdK (T := T) s)
  by_cases h2 : (nxtK T s).kind = 2
  · have hp7 := nxtK_pos hE (by rw [h2]; decide)
    have hkb : ((nxtK T s).kind == 2) = true := by simpa using h2
    rw [if_pos h2] at HO
    clear hE h2
    go_enter Tryd.func35, Tryd.ntmps35
    go_wp2_with (first | ((try show bodyPost _ _ _ _ _ _); (refine q_ret M Tryd.results35 (by rfl) ?_)) | (first | ((with_reducible refine o_list rfl fun K hK => ?_); (first | (first | refine q_all M (by rfl) ?_ | refine q_get M (by exact rfl) ?_ | refine q_part M (by rfl) (by simp only [laid, opdC, List.take_succ_cons, List.take_zero, List.drop_succ_cons, List.drop_zero, List.length_cons, List.length_nil, List.cons_append, List.nil_append, Nat.reduceAdd] <;> rfl) ?_ | refine q_ep M ?_ | refine q_ee M ?_ | refine q_et M ?_ | refine q_eo M (by assumption) (by assumption) (by assumption) ?_) | (first | ((first | refine q_setc M (by rfl) (by rfl) ?_ | refine q_set M (by rfl) (by rfl) ?_ | refine q_put M (by rfl) (by rfl) (by rfl) ?_ | refine q_in M (by rfl) (by rfl) (by rfl) ?_); clear M; intro w M; (try simp only [List.set_cons_zero, List.set_cons_succ, laid, opdC, cndC, tokC, List.take_succ_cons, List.take_zero, List.drop_succ_cons, List.drop_zero, List.length_cons, List.length_nil, List.cons_append, List.nil_append, Nat.reduceAdd, Nat.zero_add] at M)) | (refine q_eadv M ?_; clear M; intro w M) | (refine q_eset M ?_; clear M; intro w M)) | (refine q_var M ?_; clear M; intro z w M) | (refine q_row M (by rfl) ?_; clear M; intro q w M)); refine hK _ _ ?_; clear hK K) | ((with_reducible refine o_listg fun K hK => ?_); (first | (first | refine q_all M (by rfl) ?_ | refine q_get M (by exact rfl) ?_ | refine q_part M (by rfl) (by simp only [laid, opdC, List.take_succ_cons, List.take_zero, List.drop_succ_cons, List.drop_zero, List.length_cons, List.length_nil, List.cons_append, List.nil_append, Nat.reduceAdd] <;> rfl) ?_ | refine q_ep M ?_ | refine q_ee M ?_ | refine q_et M ?_ | refine q_eo M (by assumption) (by assumption) (by assumption) ?_)); refine hK _ _ ?_; clear hK K) | (with_reducible refine o_skipT ?_) | (with_reducible refine o_skipF ?_)) | (go_at_call 30; refine (M.next HE.out).mono ?_; clear M; rintro e w ⟨rfl, M⟩))
    rw [HO.out]
    exact ⟨rfl, M.drop.drop⟩
  have h2b : ((nxtK T s).kind == 2) = false := by simpa using h2
  rw [if_neg h2] at HO
  by_cases h3 : (nxtK T s).kind = 3
  · have hp7 := nxtK_pos hE (by rw [h3]; decide)
    have hkb : ((nxtK T s).kind == 3) = true := by simpa using h3
    rw [if_pos h3] at HO
    clear hE h2 h3
    go_enter Tryd.func35, Tryd.ntmps35
    go_wp2_with (first | ((try show bodyPost _ _ _ _ _ _); (refine q_ret M Tryd.results35 (by rfl) ?_)) | (first | ((with_reducible refine o_list rfl fun K hK => ?_); (first | (first | refine q_all M (by rfl) ?_ | refine q_get M (by exact rfl) ?_ | refine q_part M (by rfl) (by simp only [laid, opdC, List.take_succ_cons, List.take_zero, List.drop_succ_cons, List.drop_zero, List.length_cons, List.length_nil, List.cons_append, List.nil_append, Nat.reduceAdd] <;> rfl) ?_ | refine q_ep M ?_ | refine q_ee M ?_ | refine q_et M ?_ | refine q_eo M (by assumption) (by assumption) (by assumption) ?_) | (first | ((first | refine q_setc M (by rfl) (by rfl) ?_ | refine q_set M (by rfl) (by rfl) ?_ | refine q_put M (by rfl) (by rfl) (by rfl) ?_ | refine q_in M (by rfl) (by rfl) (by rfl) ?_); clear M; intro w M; (try simp only [List.set_cons_zero, List.set_cons_succ, laid, opdC, cndC, tokC, List.take_succ_cons, List.take_zero, List.drop_succ_cons, List.drop_zero, List.length_cons, List.length_nil, List.cons_append, List.nil_append, Nat.reduceAdd, Nat.zero_add] at M)) | (refine q_eadv M ?_; clear M; intro w M) | (refine q_eset M ?_; clear M; intro w M)) | (refine q_var M ?_; clear M; intro z w M) | (refine q_row M (by rfl) ?_; clear M; intro q w M)); refine hK _ _ ?_; clear hK K) | ((with_reducible refine o_listg fun K hK => ?_); (first | (first | refine q_all M (by rfl) ?_ | refine q_get M (by exact rfl) ?_ | refine q_part M (by rfl) (by simp only [laid, opdC, List.take_succ_cons, List.take_zero, List.drop_succ_cons, List.drop_zero, List.length_cons, List.length_nil, List.cons_append, List.nil_append, Nat.reduceAdd] <;> rfl) ?_ | refine q_ep M ?_ | refine q_ee M ?_ | refine q_et M ?_ | refine q_eo M (by assumption) (by assumption) (by assumption) ?_)); refine hK _ _ ?_; clear hK K) | (with_reducible refine o_skipT ?_) | (with_reducible refine o_skipF ?_)) | (go_at_call 30; refine (M.next HE.out).mono ?_; clear M; rintro e w ⟨rfl, M⟩))
    rw [HO.out]
    exact ⟨rfl, M.drop.drop⟩
  have h3b : ((nxtK T s).kind == 3) = false := by simpa using h3
  rw [if_neg h3] at HO
  clear hE h2 h3
  go_enter Tryd.func35, Tryd.ntmps35
  go_wp2_with (first | ((try show bodyPost _ _ _ _ _ _); (refine q_ret M Tryd.results35 (by rfl) ?_)) | (first | ((with_reducible refine o_list rfl fun K hK => ?_); (first | (first | refine q_all M (by rfl) ?_ | refine q_get M (by exact rfl) ?_ | refine q_part M (by rfl) (by simp only [laid, opdC, List.take_succ_cons, List.take_zero, List.drop_succ_cons, List.drop_zero, List.length_cons, List.length_nil, List.cons_append, List.nil_append, Nat.reduceAdd] <;> rfl) ?_ | refine q_ep M ?_ | refine q_ee M ?_ | refine q_et M ?_ | refine q_eo M (by assumption) (by assumption) (by assumption) ?_) | (first | ((first | refine q_setc M (by rfl) (by rfl) ?_ | refine q_set M (by rfl) (by rfl) ?_ | refine q_put M (by rfl) (by rfl) (by rfl) ?_ | refine q_in M (by rfl) (by rfl) (by rfl) ?_); clear M; intro w M; (try simp only [List.set_cons_zero, List.set_cons_succ, laid, opdC, cndC, tokC, List.take_succ_cons, List.take_zero, List.drop_succ_cons, List.drop_zero, List.length_cons, List.length_nil, List.cons_append, List.nil_append, Nat.reduceAdd, Nat.zero_add] at M)) | (refine q_eadv M ?_; clear M; intro w M) | (refine q_eset M ?_; clear M; intro w M)) | (refine q_var M ?_; clear M; intro z w M) | (refine q_row M (by rfl) ?_; clear M; intro q w M)); refine hK _ _ ?_; clear hK K) | ((with_reducible refine o_listg fun K hK => ?_); (first | (first | refine q_all M (by rfl) ?_ | refine q_get M (by exact rfl) ?_ | refine q_part M (by rfl) (by simp only [laid, opdC, List.take_succ_cons, List.take_zero, List.drop_succ_cons, List.drop_zero, List.length_cons, List.length_nil, List.cons_append, List.nil_append, Nat.reduceAdd] <;> rfl) ?_ | refine q_ep M ?_ | refine q_ee M ?_ | refine q_et M ?_ | refine q_eo M (by assumption) (by assumption) (by assumption) ?_)); refine hK _ _ ?_; clear hK K) | (with_reducible refine o_skipT ?_) | (with_reducible refine o_skipF ?_)) | (go_at_call 30; refine (M.next HE.out).mono ?_; clear M; rintro e w ⟨rfl, M⟩) | ((go_at_call 11); refine M.is HE.out _ (by decide) _ ?_ ?_ <;> (clear M; intro w hs M)) | (go_at_call 12; refine (M.ident HE.out).mono ?_; clear M; rintro e w ⟨rfl, M⟩) | (go_at_call 33; refine (M.num HE.out).mono ?_; clear M; rintro e w ⟨rfl, M⟩))
  · rw [HO.out, if_pos (show seesB T 4 mLess s = true from hs.out)]
    exact ⟨by rw [← IntWalk.i64_left]; rfl, M.drop.drop⟩
  · rw [HO.out, if_neg (by rw [show seesB T 4 mLess s = false from (Dec.out (by assumption : Dec (seesB T 4 ⟨#[45]⟩ s = false)))]; simp)]
    unfold nameOpd
    rw [if_pos (show seesB T 4 mDot (nameS T s).2 = true from hs.out)]
    exact ⟨rfl, M.drop.drop⟩
  · rw [HO.out, if_neg (by rw [show seesB T 4 mLess s = false from (Dec.out (by assumption : Dec (seesB T 4 ⟨#[45]⟩ s = false)))]; simp)]
    unfold nameOpd
    rw [show seesB T 4 mDot (nameS T s).2 = false from hs.out]
    exact ⟨rfl, M.drop.drop⟩
theorem signK {s : PS} (hk : (nxtK T s).kind = 4) (x : ByteArray) : seesB T 4 x s = sameS (nxtK T s).text x := by
  rw [seesK (by decide), hk]; rfl
theorem sign_other {s : PS} (hk : (nxtK T s).kind ≠ 4) : signO T s = none := by
  unfold signO
  simp [seesK (k := 4) (by decide), hk]
theorem sign_text {s : PS} (hk : (nxtK T s).kind = 4) : signO T s = (if (nxtK T s).text.toList = [61] then some (4, false) else if (nxtK T s).text.toList = [47, 61] then some (5, false) else if (nxtK T s).text.toList = [60] then some (6, false)
    else if (nxtK T s).text.toList = [60, 61] then some (7, false) else if (nxtK T s).text.toList = [62] then some (6, true) else if (nxtK T s).text.toList = [62, 61] then some (7, true) else none) := by
  unfold signO
  have key : ∀ l : List UInt8, (seesB T 4 ⟨l.toArray⟩ s = true) = ((nxtK T s).text.toList = l) := fun l => by
    rw [signK hk]
    unfold sameS
    rw [beq_iff_eq]
    have e : (ByteArray.mk l.toArray).toList = l := by rw [ByteArray.toList_eq]
    rw [e]
  simp only [key [61], key [47, 61], key [60], key [60, 61], key [62], key [62, 61]]
theorem cmp_zero (M : Mem At b u w (missS T (opdS T s).2) L) (h : signO T (opdS T s).2 = none) : CndPost At b u L (cmpS T s) (.returned (.agg (cndC (.mk 0 [] opd0 opd0) none 0 0).toArray)) w := by
  have e : (cmpS T s).2 = missS T (opdS T s).2 := by unfold cmpS; rw [h]
  exact cnd_plain e M 0 opd0 opd0 (fun h0 => absurd (e ▸ h0) (miss_bad _))
set_option maxRecDepth 8000 in
set_option maxHeartbeats 2000000 in
theorem test_any (M : Mem (EyAt b ao n cap) b u w s L) (hE : Env T b ao n cap u) :
    Calls Tryd.prog 57 #[.pointer (some ⟨b, 0, none⟩)] w (CndPost (EyAt b ao n cap) b u L (cmpS T s)) := by
  have HE := Lib.hid hE
  by_cases hk : (nxtK T (opdS T s).2).kind = 4
  · have hp7 := nxtK_pos hE (by rw [hk]; decide)
    have hkb : ((nxtK T (opdS T s).2).kind == 4) = true := by simpa using hk
    have HS := Lib.hid (sign_text hk)
    clear hE hk
    by_cases h0 : (nxtK T (opdS T s).2).text.toList = [61]
    · have HR : Hid (signO T (opdS T s).2 = some (4, false)) := by show _ = _; rw [HS.out, h0]; rfl
      have f0 : ((nxtK T (opdS T s).2).text.toList == [61]) = true := by rw [h0]; rfl
      have f1 : ((nxtK T (opdS T s).2).text.toList == [47, 61]) = false := by rw [h0]; rfl
      have f2 : ((nxtK T (opdS T s).2).text.toList == [60]) = false := by rw [h0]; rfl
      have f3 : ((nxtK T (opdS T s).2).text.toList == [60, 61]) = false := by rw [h0]; rfl
      have f4 : ((nxtK T (opdS T s).2).text.toList == [62]) = false := by rw [h0]; rfl
      have f5 : ((nxtK T (opdS T s).2).text.toList == [62, 61]) = false := by rw [h0]; rfl
      clear HS
      clear h0
      go_enter Tryd.func57, Tryd.ntmps57
      go_wp2_with (first | ((try show bodyPost _ _ _ _ _ _); (refine q_ret M Tryd.results57 (by rfl) ?_)) | (first | ((with_reducible refine o_list rfl fun K hK => ?_); (first | (first | refine q_all M (by rfl) ?_ | refine q_get M (by exact rfl) ?_ | refine q_part M (by rfl) (by simp only [laid, opdC, List.take_succ_cons, List.take_zero, List.drop_succ_cons, List.drop_zero, List.length_cons, List.length_nil, List.cons_append, List.nil_append, Nat.reduceAdd] <;> rfl) ?_ | refine q_ep M ?_ | refine q_ee M ?_ | refine q_et M ?_ | refine q_eo M (by assumption) (by assumption) (by assumption) ?_) | (first | ((first | refine q_setc M (by rfl) (by rfl) ?_ | refine q_set M (by rfl) (by rfl) ?_ | refine q_put M (by rfl) (by rfl) (by rfl) ?_ | refine q_in M (by rfl) (by rfl) (by rfl) ?_); clear M; intro w M; (try simp only [List.set_cons_zero, List.set_cons_succ, laid, opdC, cndC, tokC, List.take_succ_cons, List.take_zero, List.drop_succ_cons, List.drop_zero, List.length_cons, List.length_nil, List.cons_append, List.nil_append, Nat.reduceAdd, Nat.zero_add] at M)) | (refine q_eadv M ?_; clear M; intro w M) | (refine q_eset M ?_; clear M; intro w M)) | (refine q_var M ?_; clear M; intro z w M) | (refine q_row M (by rfl) ?_; clear M; intro q w M)); refine hK _ _ ?_; clear hK K) | ((with_reducible refine o_listg fun K hK => ?_); (first | (first | refine q_all M (by rfl) ?_ | refine q_get M (by exact rfl) ?_ | refine q_part M (by rfl) (by simp only [laid, opdC, List.take_succ_cons, List.take_zero, List.drop_succ_cons, List.drop_zero, List.length_cons, List.length_nil, List.cons_append, List.nil_append, Nat.reduceAdd] <;> rfl) ?_ | refine q_ep M ?_ | refine q_ee M ?_ | refine q_et M ?_ | refine q_eo M (by assumption) (by assumption) (by assumption) ?_)); refine hK _ _ ?_; clear hK K) | (with_reducible refine o_skipT ?_) | (with_reducible refine o_skipF ?_)) | (go_at_call 30; refine (M.next HE.out).mono ?_; clear M; rintro e w ⟨rfl, M⟩) | (go_at_call 35; refine (M.side HE.out).mono ?_; clear M; rintro e w ⟨rfl, M⟩) | (go_at_call 15; refine (M.wrong HE.out).mono ?_; clear M; rintro e w ⟨rfl, M⟩))
      exact cmp_some M.drop.drop.drop.drop _ HR.out
    by_cases h1 : (nxtK T (opdS T s).2).text.toList = [47, 61]
    · have HR : Hid (signO T (opdS T s).2 = some (5, false)) := by show _ = _; rw [HS.out, h1]; rfl
      have f0 : ((nxtK T (opdS T s).2).text.toList == [61]) = false := by rw [h1]; rfl
      have f1 : ((nxtK T (opdS T s).2).text.toList == [47, 61]) = true := by rw [h1]; rfl
      have f2 : ((nxtK T (opdS T s).2).text.toList == [60]) = false := by rw [h1]; rfl
      have f3 : ((nxtK T (opdS T s).2).text.toList == [60, 61]) = false := by rw [h1]; rfl
      have f4 : ((nxtK T (opdS T s).2).text.toList == [62]) = false := by rw [h1]; rfl
      have f5 : ((nxtK T (opdS T s).2).text.toList == [62, 61]) = false := by rw [h1]; rfl
      clear HS h0
      clear h1
      go_enter Tryd.func57, Tryd.ntmps57
      go_wp2_with (first | ((try show bodyPost _ _ _ _ _ _); (refine q_ret M Tryd.results57 (by rfl) ?_)) | (first | ((with_reducible refine o_list rfl fun K hK => ?_); (first | (first | refine q_all M (by rfl) ?_ | refine q_get M (by exact rfl) ?_ | refine q_part M (by rfl) (by simp only [laid, opdC, List.take_succ_cons, List.take_zero, List.drop_succ_cons, List.drop_zero, List.length_cons, List.length_nil, List.cons_append, List.nil_append, Nat.reduceAdd] <;> rfl) ?_ | refine q_ep M ?_ | refine q_ee M ?_ | refine q_et M ?_ | refine q_eo M (by assumption) (by assumption) (by assumption) ?_) | (first | ((first | refine q_setc M (by rfl) (by rfl) ?_ | refine q_set M (by rfl) (by rfl) ?_ | refine q_put M (by rfl) (by rfl) (by rfl) ?_ | refine q_in M (by rfl) (by rfl) (by rfl) ?_); clear M; intro w M; (try simp only [List.set_cons_zero, List.set_cons_succ, laid, opdC, cndC, tokC, List.take_succ_cons, List.take_zero, List.drop_succ_cons, List.drop_zero, List.length_cons, List.length_nil, List.cons_append, List.nil_append, Nat.reduceAdd, Nat.zero_add] at M)) | (refine q_eadv M ?_; clear M; intro w M) | (refine q_eset M ?_; clear M; intro w M)) | (refine q_var M ?_; clear M; intro z w M) | (refine q_row M (by rfl) ?_; clear M; intro q w M)); refine hK _ _ ?_; clear hK K) | ((with_reducible refine o_listg fun K hK => ?_); (first | (first | refine q_all M (by rfl) ?_ | refine q_get M (by exact rfl) ?_ | refine q_part M (by rfl) (by simp only [laid, opdC, List.take_succ_cons, List.take_zero, List.drop_succ_cons, List.drop_zero, List.length_cons, List.length_nil, List.cons_append, List.nil_append, Nat.reduceAdd] <;> rfl) ?_ | refine q_ep M ?_ | refine q_ee M ?_ | refine q_et M ?_ | refine q_eo M (by assumption) (by assumption) (by assumption) ?_)); refine hK _ _ ?_; clear hK K) | (with_reducible refine o_skipT ?_) | (with_reducible refine o_skipF ?_)) | (go_at_call 30; refine (M.next HE.out).mono ?_; clear M; rintro e w ⟨rfl, M⟩) | (go_at_call 35; refine (M.side HE.out).mono ?_; clear M; rintro e w ⟨rfl, M⟩) | (go_at_call 15; refine (M.wrong HE.out).mono ?_; clear M; rintro e w ⟨rfl, M⟩))
      exact cmp_some M.drop.drop.drop.drop _ HR.out
    by_cases h2 : (nxtK T (opdS T s).2).text.toList = [60]
    · have HR : Hid (signO T (opdS T s).2 = some (6, false)) := by show _ = _; rw [HS.out, h2]; rfl
      have f0 : ((nxtK T (opdS T s).2).text.toList == [61]) = false := by rw [h2]; rfl
      have f1 : ((nxtK T (opdS T s).2).text.toList == [47, 61]) = false := by rw [h2]; rfl
      have f2 : ((nxtK T (opdS T s).2).text.toList == [60]) = true := by rw [h2]; rfl
      have f3 : ((nxtK T (opdS T s).2).text.toList == [60, 61]) = false := by rw [h2]; rfl
      have f4 : ((nxtK T (opdS T s).2).text.toList == [62]) = false := by rw [h2]; rfl
      have f5 : ((nxtK T (opdS T s).2).text.toList == [62, 61]) = false := by rw [h2]; rfl
      clear HS h0 h1
      clear h2
      go_enter Tryd.func57, Tryd.ntmps57
      go_wp2_with (first | ((try show bodyPost _ _ _ _ _ _); (refine q_ret M Tryd.results57 (by rfl) ?_)) | (first | ((with_reducible refine o_list rfl fun K hK => ?_); (first | (first | refine q_all M (by rfl) ?_ | refine q_get M (by exact rfl) ?_ | refine q_part M (by rfl) (by simp only [laid, opdC, List.take_succ_cons, List.take_zero, List.drop_succ_cons, List.drop_zero, List.length_cons, List.length_nil, List.cons_append, List.nil_append, Nat.reduceAdd] <;> rfl) ?_ | refine q_ep M ?_ | refine q_ee M ?_ | refine q_et M ?_ | refine q_eo M (by assumption) (by assumption) (by assumption) ?_) | (first | ((first | refine q_setc M (by rfl) (by rfl) ?_ | refine q_set M (by rfl) (by rfl) ?_ | refine q_put M (by rfl) (by rfl) (by rfl) ?_ | refine q_in M (by rfl) (by rfl) (by rfl) ?_); clear M; intro w M; (try simp only [List.set_cons_zero, List.set_cons_succ, laid, opdC, cndC, tokC, List.take_succ_cons, List.take_zero, List.drop_succ_cons, List.drop_zero, List.length_cons, List.length_nil, List.cons_append, List.nil_append, Nat.reduceAdd, Nat.zero_add] at M)) | (refine q_eadv M ?_; clear M; intro w M) | (refine q_eset M ?_; clear M; intro w M)) | (refine q_var M ?_; clear M; intro z w M) | (refine q_row M (by rfl) ?_; clear M; intro q w M)); refine hK _ _ ?_; clear hK K) | ((with_reducible refine o_listg fun K hK => ?_); (first | (first | refine q_all M (by rfl) ?_ | refine q_get M (by exact rfl) ?_ | refine q_part M (by rfl) (by simp only [laid, opdC, List.take_succ_cons, List.take_zero, List.drop_succ_cons, List.drop_zero, List.length_cons, List.length_nil, List.cons_append, List.nil_append, Nat.reduceAdd] <;> rfl) ?_ | refine q_ep M ?_ | refine q_ee M ?_ | refine q_et M ?_ | refine q_eo M (by assumption) (by assumption) (by assumption) ?_)); refine hK _ _ ?_; clear hK K) | (with_reducible refine o_skipT ?_) | (with_reducible refine o_skipF ?_)) | (go_at_call 30; refine (M.next HE.out).mono ?_; clear M; rintro e w ⟨rfl, M⟩) | (go_at_call 35; refine (M.side HE.out).mono ?_; clear M; rintro e w ⟨rfl, M⟩) | (go_at_call 15; refine (M.wrong HE.out).mono ?_; clear M; rintro e w ⟨rfl, M⟩))
      exact cmp_some M.drop.drop.drop.drop _ HR.out
    by_cases h3 : (nxtK T (opdS T s).2).text.toList = [60, 61]
    · have HR : Hid (signO T (opdS T s).2 = some (7, false)) := by show _ = _; rw [HS.out, h3]; rfl
      have f0 : ((nxtK T (opdS T s).2).text.toList == [61]) = false := by rw [h3]; rfl
      have f1 : ((nxtK T (opdS T s).2).text.toList == [47, 61]) = false := by rw [h3]; rfl
      have f2 : ((nxtK T (opdS T s).2).text.toList == [60]) = false := by rw [h3]; rfl
      have f3 : ((nxtK T (opdS T s).2).text.toList == [60, 61]) = true := by rw [h3]; rfl
      have f4 : ((nxtK T (opdS T s).2).text.toList == [62]) = false := by rw [h3]; rfl
      have f5 : ((nxtK T (opdS T s).2).text.toList == [62, 61]) = false := by rw [h3]; rfl
      clear HS h0 h1 h2
      clear h3
      go_enter Tryd.func57, Tryd.ntmps57
      go_wp2_with (first | ((try show bodyPost _ _ _ _ _ _); (refine q_ret M Tryd.results57 (by rfl) ?_)) | (first | ((with_reducible refine o_list rfl fun K hK => ?_); (first | (first | refine q_all M (by rfl) ?_ | refine q_get M (by exact rfl) ?_ | refine q_part M (by rfl) (by simp only [laid, opdC, List.take_succ_cons, List.take_zero, List.drop_succ_cons, List.drop_zero, List.length_cons, List.length_nil, List.cons_append, List.nil_append, Nat.reduceAdd] <;> rfl) ?_ | refine q_ep M ?_ | refine q_ee M ?_ | refine q_et M ?_ | refine q_eo M (by assumption) (by assumption) (by assumption) ?_) | (first | ((first | refine q_setc M (by rfl) (by rfl) ?_ | refine q_set M (by rfl) (by rfl) ?_ | refine q_put M (by rfl) (by rfl) (by rfl) ?_ | refine q_in M (by rfl) (by rfl) (by rfl) ?_); clear M; intro w M; (try simp only [List.set_cons_zero, List.set_cons_succ, laid, opdC, cndC, tokC, List.take_succ_cons, List.take_zero, List.drop_succ_cons, List.drop_zero, List.length_cons, List.length_nil, List.cons_append, List.nil_append, Nat.reduceAdd, Nat.zero_add] at M)) | (refine q_eadv M ?_; clear M; intro w M) | (refine q_eset M ?_; clear M; intro w M)) | (refine q_var M ?_; clear M; intro z w M) | (refine q_row M (by rfl) ?_; clear M; intro q w M)); refine hK _ _ ?_; clear hK K) | ((with_reducible refine o_listg fun K hK => ?_); (first | (first | refine q_all M (by rfl) ?_ | refine q_get M (by exact rfl) ?_ | refine q_part M (by rfl) (by simp only [laid, opdC, List.take_succ_cons, List.take_zero, List.drop_succ_cons, List.drop_zero, List.length_cons, List.length_nil, List.cons_append, List.nil_append, Nat.reduceAdd] <;> rfl) ?_ | refine q_ep M ?_ | refine q_ee M ?_ | refine q_et M ?_ | refine q_eo M (by assumption) (by assumption) (by assumption) ?_)); refine hK _ _ ?_; clear hK K) | (with_reducible refine o_skipT ?_) | (with_reducible refine o_skipF ?_)) | (go_at_call 30; refine (M.next HE.out).mono ?_; clear M; rintro e w ⟨rfl, M⟩) | (go_at_call 35; refine (M.side HE.out).mono ?_; clear M; rintro e w ⟨rfl, M⟩) | (go_at_call 15; refine (M.wrong HE.out).mono ?_; clear M; rintro e w ⟨rfl, M⟩))
      exact cmp_some M.drop.drop.drop.drop _ HR.out
    by_cases h4 : (nxtK T (opdS T s).2).text.toList = [62]
    · have HR : Hid (signO T (opdS T s).2 = some (6, true)) := by show _ = _; rw [HS.out, h4]; rfl
      have f0 : ((nxtK T (opdS T s).2).text.toList == [61]) = false := by rw [h4]; rfl
      have f1 : ((nxtK T (opdS T s).2).text.toList == [47, 61]) = false := by rw [h4]; rfl
      have f2 : ((nxtK T (opdS T s).2).text.toList == [60]) = false := by rw [h4]; rfl
      have f3 : ((nxtK T (opdS T s).2).text.toList == [60, 61]) = false := by rw [h4]; rfl
      have f4 : ((nxtK T (opdS T s).2).text.toList == [62]) = true := by rw [h4]; rfl
      have f5 : ((nxtK T (opdS T s).2).text.toList == [62, 61]) = false := by rw [h4]; rfl
      clear HS h0 h1 h2 h3
      clear h4
      go_enter Tryd.func57, Tryd.ntmps57
      go_wp2_with (first | ((try show bodyPost _ _ _ _ _ _); (refine q_ret M Tryd.results57 (by rfl) ?_)) | (first | ((with_reducible refine o_list rfl fun K hK => ?_); (first | (first | refine q_all M (by rfl) ?_ | refine q_get M (by exact rfl) ?_ | refine q_part M (by rfl) (by simp only [laid, opdC, List.take_succ_cons, List.take_zero, List.drop_succ_cons, List.drop_zero, List.length_cons, List.length_nil, List.cons_append, List.nil_append, Nat.reduceAdd] <;> rfl) ?_ | refine q_ep M ?_ | refine q_ee M ?_ | refine q_et M ?_ | refine q_eo M (by assumption) (by assumption) (by assumption) ?_) | (first | ((first | refine q_setc M (by rfl) (by rfl) ?_ | refine q_set M (by rfl) (by rfl) ?_ | refine q_put M (by rfl) (by rfl) (by rfl) ?_ | refine q_in M (by rfl) (by rfl) (by rfl) ?_); clear M; intro w M; (try simp only [List.set_cons_zero, List.set_cons_succ, laid, opdC, cndC, tokC, List.take_succ_cons, List.take_zero, List.drop_succ_cons, List.drop_zero, List.length_cons, List.length_nil, List.cons_append, List.nil_append, Nat.reduceAdd, Nat.zero_add] at M)) | (refine q_eadv M ?_; clear M; intro w M) | (refine q_eset M ?_; clear M; intro w M)) | (refine q_var M ?_; clear M; intro z w M) | (refine q_row M (by rfl) ?_; clear M; intro q w M)); refine hK _ _ ?_; clear hK K) | ((with_reducible refine o_listg fun K hK => ?_); (first | (first | refine q_all M (by rfl) ?_ | refine q_get M (by exact rfl) ?_ | refine q_part M (by rfl) (by simp only [laid, opdC, List.take_succ_cons, List.take_zero, List.drop_succ_cons, List.drop_zero, List.length_cons, List.length_nil, List.cons_append, List.nil_append, Nat.reduceAdd] <;> rfl) ?_ | refine q_ep M ?_ | refine q_ee M ?_ | refine q_et M ?_ | refine q_eo M (by assumption) (by assumption) (by assumption) ?_)); refine hK _ _ ?_; clear hK K) | (with_reducible refine o_skipT ?_) | (with_reducible refine o_skipF ?_)) | (go_at_call 30; refine (M.next HE.out).mono ?_; clear M; rintro e w ⟨rfl, M⟩) | (go_at_call 35; refine (M.side HE.out).mono ?_; clear M; rintro e w ⟨rfl, M⟩) | (go_at_call 15; refine (M.wrong HE.out).mono ?_; clear M; rintro e w ⟨rfl, M⟩))
      exact cmp_turn M.drop.drop.drop.drop _ HR.out
    by_cases h5 : (nxtK T (opdS T s).2).text.toList = [62, 61]
    · have HR : Hid (signO T (opdS T s).2 = some (7, true)) := by show _ = _; rw [HS.out, h5]; rfl
      have f0 : ((nxtK T (opdS T s).2).text.toList == [61]) = false := by rw [h5]; rfl
      have f1 : ((nxtK T (opdS T s).2).text.toList == [47, 61]) = false := by rw [h5]; rfl
      have f2 : ((nxtK T (opdS T s).2).text.toList == [60]) = false := by rw [h5]; rfl
      have f3 : ((nxtK T (opdS T s).2).text.toList == [60, 61]) = false := by rw [h5]; rfl
      have f4 : ((nxtK T (opdS T s).2).text.toList == [62]) = false := by rw [h5]; rfl
      have f5 : ((nxtK T (opdS T s).2).text.toList == [62, 61]) = true := by rw [h5]; rfl
      clear HS h0 h1 h2 h3 h4
      clear h5
      go_enter Tryd.func57, Tryd.ntmps57
      go_wp2_with (first | ((try show bodyPost _ _ _ _ _ _); (refine q_ret M Tryd.results57 (by rfl) ?_)) | (first | ((with_reducible refine o_list rfl fun K hK => ?_); (first | (first | refine q_all M (by rfl) ?_ | refine q_get M (by exact rfl) ?_ | refine q_part M (by rfl) (by simp only [laid, opdC, List.take_succ_cons, List.take_zero, List.drop_succ_cons, List.drop_zero, List.length_cons, List.length_nil, List.cons_append, List.nil_append, Nat.reduceAdd] <;> rfl) ?_ | refine q_ep M ?_ | refine q_ee M ?_ | refine q_et M ?_ | refine q_eo M (by assumption) (by assumption) (by assumption) ?_) | (first | ((first | refine q_setc M (by rfl) (by rfl) ?_ | refine q_set M (by rfl) (by rfl) ?_ | refine q_put M (by rfl) (by rfl) (by rfl) ?_ | refine q_in M (by rfl) (by rfl) (by rfl) ?_); clear M; intro w M; (try simp only [List.set_cons_zero, List.set_cons_succ, laid, opdC, cndC, tokC, List.take_succ_cons, List.take_zero, List.drop_succ_cons, List.drop_zero, List.length_cons, List.length_nil, List.cons_append, List.nil_append, Nat.reduceAdd, Nat.zero_add] at M)) | (refine q_eadv M ?_; clear M; intro w M) | (refine q_eset M ?_; clear M; intro w M)) | (refine q_var M ?_; clear M; intro z w M) | (refine q_row M (by rfl) ?_; clear M; intro q w M)); refine hK _ _ ?_; clear hK K) | ((with_reducible refine o_listg fun K hK => ?_); (first | (first | refine q_all M (by rfl) ?_ | refine q_get M (by exact rfl) ?_ | refine q_part M (by rfl) (by simp only [laid, opdC, List.take_succ_cons, List.take_zero, List.drop_succ_cons, List.drop_zero, List.length_cons, List.length_nil, List.cons_append, List.nil_append, Nat.reduceAdd] <;> rfl) ?_ | refine q_ep M ?_ | refine q_ee M ?_ | refine q_et M ?_ | refine q_eo M (by assumption) (by assumption) (by assumption) ?_)); refine hK _ _ ?_; clear hK K) | (with_reducible refine o_skipT ?_) | (with_reducible refine o_skipF ?_)) | (go_at_call 30; refine (M.next HE.out).mono ?_; clear M; rintro e w ⟨rfl, M⟩) | (go_at_call 35; refine (M.side HE.out).mono ?_; clear M; rintro e w ⟨rfl, M⟩) | (go_at_call 15; refine (M.wrong HE.out).mono ?_; clear M; rintro e w ⟨rfl, M⟩))
      exact cmp_turn M.drop.drop.drop.drop _ HR.out
    have HR : Hid (signO T (opdS T s).2 = none) := by show _ = _; rw [HS.out, if_neg h0, if_neg h1, if_neg h2, if_neg h3, if_neg h4, if_neg h5]
    have f0 : ((nxtK T (opdS T s).2).text.toList == [61]) = false := by simpa using h0
    have f1 : ((nxtK T (opdS T s).2).text.toList == [47, 61]) = false := by simpa using h1
    have f2 : ((nxtK T (opdS T s).2).text.toList == [60]) = false := by simpa using h2
    have f3 : ((nxtK T (opdS T s).2).text.toList == [60, 61]) = false := by simpa using h3
    have f4 : ((nxtK T (opdS T s).2).text.toList == [62]) = false := by simpa using h4
    have f5 : ((nxtK T (opdS T s).2).text.toList == [62, 61]) = false := by simpa using h5
    clear HS h0 h1 h2 h3 h4 h5
    go_enter Tryd.func57, Tryd.ntmps57
    go_wp2_with (first | ((try show bodyPost _ _ _ _ _ _); (refine q_ret M Tryd.results57 (by rfl) ?_)) | (first | ((with_reducible refine o_list rfl fun K hK => ?_); (first | (first | refine q_all M (by rfl) ?_ | refine q_get M (by exact rfl) ?_ | refine q_part M (by rfl) (by simp only [laid, opdC, List.take_succ_cons, List.take_zero, List.drop_succ_cons, List.drop_zero, List.length_cons, List.length_nil, List.cons_append, List.nil_append, Nat.reduceAdd] <;> rfl) ?_ | refine q_ep M ?_ | refine q_ee M ?_ | refine q_et M ?_ | refine q_eo M (by assumption) (by assumption) (by assumption) ?_) | (first | ((first | refine q_setc M (by rfl) (by rfl) ?_ | refine q_set M (by rfl) (by rfl) ?_ | refine q_put M (by rfl) (by rfl) (by rfl) ?_ | refine q_in M (by rfl) (by rfl) (by rfl) ?_); clear M; intro w M; (try simp only [List.set_cons_zero, List.set_cons_succ, laid, opdC, cndC, tokC, List.take_succ_cons, List.take_zero, List.drop_succ_cons, List.drop_zero, List.length_cons, List.length_nil, List.cons_append, List.nil_append, Nat.reduceAdd, Nat.zero_add] at M)) | (refine q_eadv M ?_; clear M; intro w M) | (refine q_eset M ?_; clear M; intro w M)) | (refine q_var M ?_; clear M; intro z w M) | (refine q_row M (by rfl) ?_; clear M; intro q w M)); refine hK _ _ ?_; clear hK K) | ((with_reducible refine o_listg fun K hK => ?_); (first | (first | refine q_all M (by rfl) ?_ | refine q_get M (by exact rfl) ?_ | refine q_part M (by rfl) (by simp only [laid, opdC, List.take_succ_cons, List.take_zero, List.drop_succ_cons, List.drop_zero, List.length_cons, List.length_nil, List.cons_append, List.nil_append, Nat.reduceAdd] <;> rfl) ?_ | refine q_ep M ?_ | refine q_ee M ?_ | refine q_et M ?_ | refine q_eo M (by assumption) (by assumption) (by assumption) ?_)); refine hK _ _ ?_; clear hK K) | (with_reducible refine o_skipT ?_) | (with_reducible refine o_skipF ?_)) | (go_at_call 30; refine (M.next HE.out).mono ?_; clear M; rintro e w ⟨rfl, M⟩) | (go_at_call 35; refine (M.side HE.out).mono ?_; clear M; rintro e w ⟨rfl, M⟩) | (go_at_call 15; refine (M.wrong HE.out).mono ?_; clear M; rintro e w ⟨rfl, M⟩))
    exact cmp_zero M.drop.drop.drop HR.out
  · have hkb : ((nxtK T (opdS T s).2).kind == 4) = false := by simpa using hk
    have HR := Lib.hid (sign_other hk)
    clear hE hk
    go_enter Tryd.func57, Tryd.ntmps57
    go_wp2_with (first | ((try show bodyPost _ _ _ _ _ _); (refine q_ret M Tryd.results57 (by rfl) ?_)) | (first | ((with_reducible refine o_list rfl fun K hK => ?_); (first | (first | refine q_all M (by rfl) ?_ | refine q_get M (by exact rfl) ?_ | refine q_part M (by rfl) (by simp only [laid, opdC, List.take_succ_cons, List.take_zero, List.drop_succ_cons, List.drop_zero, List.length_cons, List.length_nil, List.cons_append, List.nil_append, Nat.reduceAdd] <;> rfl) ?_ | refine q_ep M ?_ | refine q_ee M ?_ | refine q_et M ?_ | refine q_eo M (by assumption) (by assumption) (by assumption) ?_) | (first | ((first | refine q_setc M (by rfl) (by rfl) ?_ | refine q_set M (by rfl) (by rfl) ?_ | refine q_put M (by rfl) (by rfl) (by rfl) ?_ | refine q_in M (by rfl) (by rfl) (by rfl) ?_); clear M; intro w M; (try simp only [List.set_cons_zero, List.set_cons_succ, laid, opdC, cndC, tokC, List.take_succ_cons, List.take_zero, List.drop_succ_cons, List.drop_zero, List.length_cons, List.length_nil, List.cons_append, List.nil_append, Nat.reduceAdd, Nat.zero_add] at M)) | (refine q_eadv M ?_; clear M; intro w M) | (refine q_eset M ?_; clear M; intro w M)) | (refine q_var M ?_; clear M; intro z w M) | (refine q_row M (by rfl) ?_; clear M; intro q w M)); refine hK _ _ ?_; clear hK K) | ((with_reducible refine o_listg fun K hK => ?_); (first | (first | refine q_all M (by rfl) ?_ | refine q_get M (by exact rfl) ?_ | refine q_part M (by rfl) (by simp only [laid, opdC, List.take_succ_cons, List.take_zero, List.drop_succ_cons, List.drop_zero, List.length_cons, List.length_nil, List.cons_append, List.nil_append, Nat.reduceAdd] <;> rfl) ?_ | refine q_ep M ?_ | refine q_ee M ?_ | refine q_et M ?_ | refine q_eo M (by assumption) (by assumption) (by assumption) ?_)); refine hK _ _ ?_; clear hK K) | (with_reducible refine o_skipT ?_) | (with_reducible refine o_skipF ?_)) | (go_at_call 30; refine (M.next HE.out).mono ?_; clear M; rintro e w ⟨rfl, M⟩) | (go_at_call 35; refine (M.side HE.out).mono ?_; clear M; rintro e w ⟨rfl, M⟩) | (go_at_call 15; refine (M.wrong HE.out).mono ?_; clear M; rintro e w ⟨rfl, M⟩))
    exact cmp_zero M.drop.drop.drop HR.out
end
end Go.Proofs.YtobnaokknkmlcaaDoor
/-
  The walk of the reference's eye, fourth part: conditions. Printed by ps4.py.
-/
namespace Go.Proofs.YtobnaokknkmlcaaDoor
open Go.RowKit
set_option linter.unusedVariables false
set_option linter.unusedSimpArgs false

section
variable {T : List Tok} {b : Nat} {ao : Option Addr} {n cap : Nat} {s : PS} {u w : World} {L : List Ent} {At : PS → World → Prop}
theorem Mem.isT (M : Mem (EyAt b ao n cap) b u w s L) (hE : Env T b ao n cap u) (k : Int) (hk : k ≠ 0) (x : ByteArray) (hs : seesB T k x s = true) :
    Calls Tryd.prog 11 #[.pointer (some ⟨b, 0, none⟩), .int .i64 k, .string x] w fun e w' => e = .returned (.bool true) ∧ Mem (EyAt b ao n cap) b u w' (Go.Proofs.YtobnaokknkmlcaaDoor.adv s) L :=
  (is_any M hE k hk x).mono fun e w' h => by rw [hs, eat_yes hs] at h; exact h
theorem Mem.isF (M : Mem (EyAt b ao n cap) b u w s L) (hE : Env T b ao n cap u) (k : Int) (hk : k ≠ 0) (x : ByteArray) (hs : seesB T k x s = false) :
    Calls Tryd.prog 11 #[.pointer (some ⟨b, 0, none⟩), .int .i64 k, .string x] w fun e w' => e = .returned (.bool false) ∧ Mem (EyAt b ao n cap) b u w' s L :=
  (is_any M hE k hk x).mono fun e w' h => by rw [hs, eat_no hs] at h; exact h
def TstFn (T : List Tok) (b : Nat) (ao : Option Addr) (n cap : Nat) (u : World) (level depth : Int) (f : PS → Cond × PS) : Prop :=
  ∀ (L : List Ent) (w : World) (s : PS), Mem (EyAt b ao n cap) b u w s L → Calls Tryd.prog 50 #[.pointer (some ⟨b, 0, none⟩), .int .i64 level, .int .i64 depth] w (CndPost (EyAt b ao n cap) b u L (f s))
theorem sees_iff {s : PS} {k : Int} (hk : k ≠ 0) (l : List UInt8) : seesB T k ⟨l.toArray⟩ s = (decide ((nxtK T s).kind = k) && ((nxtK T s).text.toList == l)) := by
  rw [seesK hk]
  unfold sameS
  have e : (ByteArray.mk l.toArray).toList = l := by rw [ByteArray.toList_eq]
  rw [e]
/-- The five ways that a token can stand ahead of a condition. -/
theorem opens_cases (T : List Tok) (s : PS) : ((nxtK T s).kind = 1 ∧ (nxtK T s).text.toList = [110, 111, 116]) ∨ ((nxtK T s).kind = 4 ∧ (nxtK T s).text.toList = [40]) ∨ ((nxtK T s).kind = 1 ∧ (nxtK T s).text.toList ≠ [110, 111, 116]) ∨ ((nxtK T s).kind = 4 ∧ (nxtK T s).text.toList ≠ [40]) ∨ ((nxtK T s).kind ≠ 1 ∧ (nxtK T s).kind ≠ 4) := by
  by_cases h1 : (nxtK T s).kind = 1
  · by_cases h2 : (nxtK T s).text.toList = [110, 111, 116]
    · exact .inl ⟨h1, h2⟩
    · exact .inr (.inr (.inl ⟨h1, h2⟩))
  · by_cases h4 : (nxtK T s).kind = 4
    · by_cases h5 : (nxtK T s).text.toList = [40]
      · exact .inr (.inl ⟨h4, h5⟩)
      · exact .inr (.inr (.inr (.inl ⟨h4, h5⟩)))
    · exact .inr (.inr (.inr (.inr ⟨h1, h4⟩)))
theorem body_id {P : Program} {fn : Func} {R : Ending → World → Prop} {a : Act} {w : World} (h : bodyPost P fn R .ret a w) : bodyPost P fn R .ret a w := h
theorem fail_pos' {s : PS} (he : s.e = 0) (k : Int) : failS s k = ⟨s.pos, k⟩ := by unfold failS; rw [if_pos he]
set_option maxRecDepth 8000 in
set_option maxHeartbeats 2000000 in
theorem tests_zero (hE : Env T b ao n cap u) : TstFn T b ao n cap u 2 8 (notS T 0) := by
  intro L w s M
  have HE := Lib.hid hE
  rcases opens_cases T s with ⟨h1, h2⟩ | ⟨h1, h2⟩ | ⟨h1, h2⟩ | ⟨h1, h2⟩ | ⟨h1, h2⟩
  · have k1 : ((nxtK T s).kind == 1) = true := by rw [h1]; rfl
    have x1 : ((nxtK T s).text.toList == [110, 111, 116]) = true := by rw [h2]; rfl
    have SN : Dec (seesB T 1 wNot s = true) := by show _ = _; unfold wNot; rw [sees_iff (by decide) [110, 111, 116]]; simp [h1, h2]
    have SP : Dec (seesB T 4 mOpen s = false) := by show _ = _; unfold mOpen; rw [sees_iff (by decide) [40]]; simp [h1, h2]
    clear hE h1 h2
    go_enter Tryd.func50, Tryd.ntmps50
    go_wp2_with (first | ((with_reducible refine body_id ?_); (refine q_ret M Tryd.results50 (by rfl) ?_)) | (first | ((with_reducible refine o_list rfl fun K hK => ?_); (first | (first | refine q_all M (by rfl) ?_ | refine q_get M (by exact rfl) ?_ | refine q_part M (by rfl) (by simp only [laid, opdC, List.take_succ_cons, List.take_zero, List.drop_succ_cons, List.drop_zero, List.length_cons, List.length_nil, List.cons_append, List.nil_append, Nat.reduceAdd] <;> rfl) ?_ | refine q_ep M ?_ | refine q_ee M ?_ | refine q_et M ?_ | refine q_eo M (by assumption) (by assumption) (by assumption) ?_) | (first | ((first | refine q_setc M (by rfl) (by rfl) ?_ | refine q_set M (by rfl) (by rfl) ?_ | refine q_put M (by rfl) (by rfl) (by rfl) ?_ | refine q_in M (by rfl) (by rfl) (by rfl) ?_); clear M; intro w M; (try simp only [List.set_cons_zero, List.set_cons_succ, laid, opdC, cndC, tokC, List.take_succ_cons, List.take_zero, List.drop_succ_cons, List.drop_zero, List.length_cons, List.length_nil, List.cons_append, List.nil_append, Nat.reduceAdd, Nat.zero_add] at M)) | (refine q_eadv M ?_; clear M; intro w M) | (refine q_eset M ?_; clear M; intro w M)) | (refine q_var M ?_; clear M; intro z w M) | (refine q_row M (by rfl) ?_; clear M; intro q w M)); refine hK _ _ ?_; clear hK K) | ((with_reducible refine o_listg fun K hK => ?_); (first | (first | refine q_all M (by rfl) ?_ | refine q_get M (by exact rfl) ?_ | refine q_part M (by rfl) (by simp only [laid, opdC, List.take_succ_cons, List.take_zero, List.drop_succ_cons, List.drop_zero, List.length_cons, List.length_nil, List.cons_append, List.nil_append, Nat.reduceAdd] <;> rfl) ?_ | refine q_ep M ?_ | refine q_ee M ?_ | refine q_et M ?_ | refine q_eo M (by assumption) (by assumption) (by assumption) ?_)); refine hK _ _ ?_; clear hK K) | (with_reducible refine o_skipT ?_) | (with_reducible refine o_skipF ?_)) | (go_at_call 30; refine (M.next HE.out).mono ?_; clear M; rintro e w ⟨rfl, M⟩))
    rw [notS_deep (.inl SN.out), fail_pos' (sees_ok SN.out).1]
    exact cnd_plain (r := (cond0, ⟨s.pos, 14⟩)) rfl M.drop.drop 0 opd0 opd0 (fun _ => rfl)
  · have k1 : ((nxtK T s).kind == 1) = false := by rw [h1]; rfl
    have k4 : ((nxtK T s).kind == 4) = true := by rw [h1]; rfl
    have x4 : ((nxtK T s).text.toList == [40]) = true := by rw [h2]; rfl
    have SN : Dec (seesB T 1 wNot s = false) := by show _ = _; unfold wNot; rw [sees_iff (by decide) [110, 111, 116]]; simp [h1, h2]
    have SP : Dec (seesB T 4 mOpen s = true) := by show _ = _; unfold mOpen; rw [sees_iff (by decide) [40]]; simp [h1, h2]
    clear hE h1 h2
    go_enter Tryd.func50, Tryd.ntmps50
    go_wp2_with (first | ((with_reducible refine body_id ?_); (refine q_ret M Tryd.results50 (by rfl) ?_)) | (first | ((with_reducible refine o_list rfl fun K hK => ?_); (first | (first | refine q_all M (by rfl) ?_ | refine q_get M (by exact rfl) ?_ | refine q_part M (by rfl) (by simp only [laid, opdC, List.take_succ_cons, List.take_zero, List.drop_succ_cons, List.drop_zero, List.length_cons, List.length_nil, List.cons_append, List.nil_append, Nat.reduceAdd] <;> rfl) ?_ | refine q_ep M ?_ | refine q_ee M ?_ | refine q_et M ?_ | refine q_eo M (by assumption) (by assumption) (by assumption) ?_) | (first | ((first | refine q_setc M (by rfl) (by rfl) ?_ | refine q_set M (by rfl) (by rfl) ?_ | refine q_put M (by rfl) (by rfl) (by rfl) ?_ | refine q_in M (by rfl) (by rfl) (by rfl) ?_); clear M; intro w M; (try simp only [List.set_cons_zero, List.set_cons_succ, laid, opdC, cndC, tokC, List.take_succ_cons, List.take_zero, List.drop_succ_cons, List.drop_zero, List.length_cons, List.length_nil, List.cons_append, List.nil_append, Nat.reduceAdd, Nat.zero_add] at M)) | (refine q_eadv M ?_; clear M; intro w M) | (refine q_eset M ?_; clear M; intro w M)) | (refine q_var M ?_; clear M; intro z w M) | (refine q_row M (by rfl) ?_; clear M; intro q w M)); refine hK _ _ ?_; clear hK K) | ((with_reducible refine o_listg fun K hK => ?_); (first | (first | refine q_all M (by rfl) ?_ | refine q_get M (by exact rfl) ?_ | refine q_part M (by rfl) (by simp only [laid, opdC, List.take_succ_cons, List.take_zero, List.drop_succ_cons, List.drop_zero, List.length_cons, List.length_nil, List.cons_append, List.nil_append, Nat.reduceAdd] <;> rfl) ?_ | refine q_ep M ?_ | refine q_ee M ?_ | refine q_et M ?_ | refine q_eo M (by assumption) (by assumption) (by assumption) ?_)); refine hK _ _ ?_; clear hK K) | (with_reducible refine o_skipT ?_) | (with_reducible refine o_skipF ?_)) | (go_at_call 30; refine (M.next HE.out).mono ?_; clear M; rintro e w ⟨rfl, M⟩))
    rw [notS_deep (.inr SP.out), fail_pos' (sees_ok SP.out).1]
    exact cnd_plain (r := (cond0, ⟨s.pos, 14⟩)) rfl M.drop.drop 0 opd0 opd0 (fun _ => rfl)
  · have k1 : ((nxtK T s).kind == 1) = true := by rw [h1]; rfl
    have x1 : ((nxtK T s).text.toList == [110, 111, 116]) = false := by simpa using h2
    have k4 : ((nxtK T s).kind == 4) = false := by rw [h1]; rfl
    have SN : Dec (seesB T 1 wNot s = false) := by show _ = _; unfold wNot; rw [sees_iff (by decide) [110, 111, 116]]; simp [h1, h2]
    have SP : Dec (seesB T 4 mOpen s = false) := by show _ = _; unfold mOpen; rw [sees_iff (by decide) [40]]; simp [h1, h2]
    clear hE h1 h2
    go_enter Tryd.func50, Tryd.ntmps50
    go_wp2_with (first | ((with_reducible refine body_id ?_); (refine q_ret M Tryd.results50 (by rfl) ?_)) | (first | ((with_reducible refine o_list rfl fun K hK => ?_); (first | (first | refine q_all M (by rfl) ?_ | refine q_get M (by exact rfl) ?_ | refine q_part M (by rfl) (by simp only [laid, opdC, List.take_succ_cons, List.take_zero, List.drop_succ_cons, List.drop_zero, List.length_cons, List.length_nil, List.cons_append, List.nil_append, Nat.reduceAdd] <;> rfl) ?_ | refine q_ep M ?_ | refine q_ee M ?_ | refine q_et M ?_ | refine q_eo M (by assumption) (by assumption) (by assumption) ?_) | (first | ((first | refine q_setc M (by rfl) (by rfl) ?_ | refine q_set M (by rfl) (by rfl) ?_ | refine q_put M (by rfl) (by rfl) (by rfl) ?_ | refine q_in M (by rfl) (by rfl) (by rfl) ?_); clear M; intro w M; (try simp only [List.set_cons_zero, List.set_cons_succ, laid, opdC, cndC, tokC, List.take_succ_cons, List.take_zero, List.drop_succ_cons, List.drop_zero, List.length_cons, List.length_nil, List.cons_append, List.nil_append, Nat.reduceAdd, Nat.zero_add] at M)) | (refine q_eadv M ?_; clear M; intro w M) | (refine q_eset M ?_; clear M; intro w M)) | (refine q_var M ?_; clear M; intro z w M) | (refine q_row M (by rfl) ?_; clear M; intro q w M)); refine hK _ _ ?_; clear hK K) | ((with_reducible refine o_listg fun K hK => ?_); (first | (first | refine q_all M (by rfl) ?_ | refine q_get M (by exact rfl) ?_ | refine q_part M (by rfl) (by simp only [laid, opdC, List.take_succ_cons, List.take_zero, List.drop_succ_cons, List.drop_zero, List.length_cons, List.length_nil, List.cons_append, List.nil_append, Nat.reduceAdd] <;> rfl) ?_ | refine q_ep M ?_ | refine q_ee M ?_ | refine q_et M ?_ | refine q_eo M (by assumption) (by assumption) (by assumption) ?_)); refine hK _ _ ?_; clear hK K) | (with_reducible refine o_skipT ?_) | (with_reducible refine o_skipF ?_)) | (go_at_call 30; refine (M.next HE.out).mono ?_; clear M; rintro e w ⟨rfl, M⟩) | ((go_at_call 11); refine (M.isF HE.out _ (by decide) _ (by exact Dec.out (by assumption))).mono ?_; clear M; rintro e w ⟨rfl, M⟩) | ((go_at_call 57); refine (test_any M HE.out).mono ?_; clear M; rintro e w ⟨c, ao1, n1, cap1, rfl, M, hc⟩; have HC := Lib.hid hc; clear hc))
    rw [notS_flat 0 SN.out SP.out]
    exact ⟨c, ao1, n1, cap1, rfl, M.skip.skip, HC.out⟩
  · have k1 : ((nxtK T s).kind == 1) = false := by rw [h1]; rfl
    have k4 : ((nxtK T s).kind == 4) = true := by rw [h1]; rfl
    have x4 : ((nxtK T s).text.toList == [40]) = false := by simpa using h2
    have SN : Dec (seesB T 1 wNot s = false) := by show _ = _; unfold wNot; rw [sees_iff (by decide) [110, 111, 116]]; simp [h1, h2]
    have SP : Dec (seesB T 4 mOpen s = false) := by show _ = _; unfold mOpen; rw [sees_iff (by decide) [40]]; simp [h1, h2]
    clear hE h1 h2
    go_enter Tryd.func50, Tryd.ntmps50
    go_wp2_with (first | ((with_reducible refine body_id ?_); (refine q_ret M Tryd.results50 (by rfl) ?_)) | (first | ((with_reducible refine o_list rfl fun K hK => ?_); (first | (first | refine q_all M (by rfl) ?_ | refine q_get M (by exact rfl) ?_ | refine q_part M (by rfl) (by simp only [laid, opdC, List.take_succ_cons, List.take_zero, List.drop_succ_cons, List.drop_zero, List.length_cons, List.length_nil, List.cons_append, List.nil_append, Nat.reduceAdd] <;> rfl) ?_ | refine q_ep M ?_ | refine q_ee M ?_ | refine q_et M ?_ | refine q_eo M (by assumption) (by assumption) (by assumption) ?_) | (first | ((first | refine q_setc M (by rfl) (by rfl) ?_ | refine q_set M (by rfl) (by rfl) ?_ | refine q_put M (by rfl) (by rfl) (by rfl) ?_ | refine q_in M (by rfl) (by rfl) (by rfl) ?_); clear M; intro w M; (try simp only [List.set_cons_zero, List.set_cons_succ, laid, opdC, cndC, tokC, List.take_succ_cons, List.take_zero, List.drop_succ_cons, List.drop_zero, List.length_cons, List.length_nil, List.cons_append, List.nil_append, Nat.reduceAdd, Nat.zero_add] at M)) | (refine q_eadv M ?_; clear M; intro w M) | (refine q_eset M ?_; clear M; intro w M)) | (refine q_var M ?_; clear M; intro z w M) | (refine q_row M (by rfl) ?_; clear M; intro q w M)); refine hK _ _ ?_; clear hK K) | ((with_reducible refine o_listg fun K hK => ?_); (first | (first | refine q_all M (by rfl) ?_ | refine q_get M (by exact rfl) ?_ | refine q_part M (by rfl) (by simp only [laid, opdC, List.take_succ_cons, List.take_zero, List.drop_succ_cons, List.drop_zero, List.length_cons, List.length_nil, List.cons_append, List.nil_append, Nat.reduceAdd] <;> rfl) ?_ | refine q_ep M ?_ | refine q_ee M ?_ | refine q_et M ?_ | refine q_eo M (by assumption) (by assumption) (by assumption) ?_)); refine hK _ _ ?_; clear hK K) | (with_reducible refine o_skipT ?_) | (with_reducible refine o_skipF ?_)) | (go_at_call 30; refine (M.next HE.out).mono ?_; clear M; rintro e w ⟨rfl, M⟩) | ((go_at_call 11); refine (M.isF HE.out _ (by decide) _ (by exact Dec.out (by assumption))).mono ?_; clear M; rintro e w ⟨rfl, M⟩) | ((go_at_call 57); refine (test_any M HE.out).mono ?_; clear M; rintro e w ⟨c, ao1, n1, cap1, rfl, M, hc⟩; have HC := Lib.hid hc; clear hc))
    rw [notS_flat 0 SN.out SP.out]
    exact ⟨c, ao1, n1, cap1, rfl, M.skip.skip, HC.out⟩
  · have k1 : ((nxtK T s).kind == 1) = false := by simpa using h1
    have k4 : ((nxtK T s).kind == 4) = false := by simpa using h2
    have SN : Dec (seesB T 1 wNot s = false) := by show _ = _; unfold wNot; rw [sees_iff (by decide) [110, 111, 116]]; simp [h1, h2]
    have SP : Dec (seesB T 4 mOpen s = false) := by show _ = _; unfold mOpen; rw [sees_iff (by decide) [40]]; simp [h1, h2]
    clear hE h1 h2
    go_enter Tryd.func50, Tryd.ntmps50
    go_wp2_with (first | ((with_reducible refine body_id ?_); (refine q_ret M Tryd.results50 (by rfl) ?_)) | (first | ((with_reducible refine o_list rfl fun K hK => ?_); (first | (first | refine q_all M (by rfl) ?_ | refine q_get M (by exact rfl) ?_ | refine q_part M (by rfl) (by simp only [laid, opdC, List.take_succ_cons, List.take_zero, List.drop_succ_cons, List.drop_zero, List.length_cons, List.length_nil, List.cons_append, List.nil_append, Nat.reduceAdd] <;> rfl) ?_ | refine q_ep M ?_ | refine q_ee M ?_ | refine q_et M ?_ | refine q_eo M (by assumption) (by assumption) (by assumption) ?_) | (first | ((first | refine q_setc M (by rfl) (by rfl) ?_ | refine q_set M (by rfl) (by rfl) ?_ | refine q_put M (by rfl) (by rfl) (by rfl) ?_ | refine q_in M (by rfl) (by rfl) (by rfl) ?_); clear M; intro w M; (try simp only [List.set_cons_zero, List.set_cons_succ, laid, opdC, cndC, tokC, List.take_succ_cons, List.take_zero, List.drop_succ_cons, List.drop_zero, List.length_cons, List.length_nil, List.cons_append, List.nil_append, Nat.reduceAdd, Nat.zero_add] at M)) | (refine q_eadv M ?_; clear M; intro w M) | (refine q_eset M ?_; clear M; intro w M)) | (refine q_var M ?_; clear M; intro z w M) | (refine q_row M (by rfl) ?_; clear M; intro q w M)); refine hK _ _ ?_; clear hK K) | ((with_reducible refine o_listg fun K hK => ?_); (first | (first | refine q_all M (by rfl) ?_ | refine q_get M (by exact rfl) ?_ | refine q_part M (by rfl) (by simp only [laid, opdC, List.take_succ_cons, List.take_zero, List.drop_succ_cons, List.drop_zero, List.length_cons, List.length_nil, List.cons_append, List.nil_append, Nat.reduceAdd] <;> rfl) ?_ | refine q_ep M ?_ | refine q_ee M ?_ | refine q_et M ?_ | refine q_eo M (by assumption) (by assumption) (by assumption) ?_)); refine hK _ _ ?_; clear hK K) | (with_reducible refine o_skipT ?_) | (with_reducible refine o_skipF ?_)) | (go_at_call 30; refine (M.next HE.out).mono ?_; clear M; rintro e w ⟨rfl, M⟩) | ((go_at_call 11); refine (M.isF HE.out _ (by decide) _ (by exact Dec.out (by assumption))).mono ?_; clear M; rintro e w ⟨rfl, M⟩) | ((go_at_call 57); refine (test_any M HE.out).mono ?_; clear M; rintro e w ⟨c, ao1, n1, cap1, rfl, M, hc⟩; have HC := Lib.hid hc; clear hc))
    rw [notS_flat 0 SN.out SP.out]
    exact ⟨c, ao1, n1, cap1, rfl, M.skip.skip, HC.out⟩
set_option maxRecDepth 8000 in
set_option maxHeartbeats 2000000 in
theorem tests_succ (hE : Env T b ao n cap u) (depth : Int) (h1d : 1 ≤ depth) (h8 : depth < 8) (d : Nat) (hN : TstFn T b ao n cap u 2 (depth + 1) (notS T d)) (hO : TstFn T b ao n cap u 0 (depth + 1) (orS T d)) : TstFn T b ao n cap u 2 depth (notS T (d + 1)) := by
  intro L w s M
  have HE := Lib.hid hE
  have HN := Lib.hid hN
  have HO := Lib.hid hO
  have h8b : decide (8 ≤ depth) = false := by simp; omega
  clear hN hO
  rcases opens_cases T s with ⟨h1, h2⟩ | ⟨h1, h2⟩ | ⟨h1, h2⟩ | ⟨h1, h2⟩ | ⟨h1, h2⟩
  · have k1 : ((nxtK T s).kind == 1) = true := by rw [h1]; rfl
    have x1 : ((nxtK T s).text.toList == [110, 111, 116]) = true := by rw [h2]; rfl
    have SN : Dec (seesB T 1 wNot s = true) := by show _ = _; unfold wNot; rw [sees_iff (by decide) [110, 111, 116]]; simp [h1, h2]
    have SP : Dec (seesB T 4 mOpen s = false) := by show _ = _; unfold mOpen; rw [sees_iff (by decide) [40]]; simp [h1, h2]
    clear hE h1 h2
    go_enter Tryd.func50, Tryd.ntmps50
    go_wp2_with (first | ((with_reducible refine body_id ?_); (refine q_ret M Tryd.results50 (by rfl) ?_)) | (first | ((with_reducible refine o_list rfl fun K hK => ?_); (first | (first | refine q_all M (by rfl) ?_ | refine q_get M (by exact rfl) ?_ | refine q_part M (by rfl) (by simp only [laid, opdC, List.take_succ_cons, List.take_zero, List.drop_succ_cons, List.drop_zero, List.length_cons, List.length_nil, List.cons_append, List.nil_append, Nat.reduceAdd] <;> rfl) ?_ | refine q_ep M ?_ | refine q_ee M ?_ | refine q_et M ?_ | refine q_eo M (by assumption) (by assumption) (by assumption) ?_) | (first | ((first | refine q_setc M (by rfl) (by rfl) ?_ | refine q_set M (by rfl) (by rfl) ?_ | refine q_put M (by rfl) (by rfl) (by rfl) ?_ | refine q_in M (by rfl) (by rfl) (by rfl) ?_); clear M; intro w M; (try simp only [List.set_cons_zero, List.set_cons_succ, laid, opdC, cndC, tokC, List.take_succ_cons, List.take_zero, List.drop_succ_cons, List.drop_zero, List.length_cons, List.length_nil, List.cons_append, List.nil_append, Nat.reduceAdd, Nat.zero_add] at M)) | (refine q_eadv M ?_; clear M; intro w M) | (refine q_eset M ?_; clear M; intro w M)) | (refine q_var M ?_; clear M; intro z w M) | (refine q_row M (by rfl) ?_; clear M; intro q w M)); refine hK _ _ ?_; clear hK K) | ((with_reducible refine o_listg fun K hK => ?_); (first | (first | refine q_all M (by rfl) ?_ | refine q_get M (by exact rfl) ?_ | refine q_part M (by rfl) (by simp only [laid, opdC, List.take_succ_cons, List.take_zero, List.drop_succ_cons, List.drop_zero, List.length_cons, List.length_nil, List.cons_append, List.nil_append, Nat.reduceAdd] <;> rfl) ?_ | refine q_ep M ?_ | refine q_ee M ?_ | refine q_et M ?_ | refine q_eo M (by assumption) (by assumption) (by assumption) ?_)); refine hK _ _ ?_; clear hK K) | (with_reducible refine o_skipT ?_) | (with_reducible refine o_skipF ?_)) | (go_at_call 30; refine (M.next HE.out).mono ?_; clear M; rintro e w ⟨rfl, M⟩) | ((go_at_call 11); refine (M.isT HE.out _ (by decide) _ (by exact Dec.out (by assumption))).mono ?_; clear M; rintro e w ⟨rfl, M⟩) | ((go_at_call 50); refine (HN.out _ _ _ M).mono ?_; clear M; rintro e w ⟨c, ao1, n1, cap1, rfl, M, hc⟩; have HC := Lib.hid hc; clear hc))
    rw [notS_not d SN.out]
    replace M := (M.one (R := CondF) (k := 14) condF_firm (by omega) (by omega) c (cndF_of (M.dat_ (i := 2) rfl)) rfl).skip.skip.skip.skip
    obtain ⟨ao2, cap2, e2, M⟩ := M.done condF_firm (by omega)
    injection e2 with e2 e3 e4
    subst e2 e4
    exact ⟨.mk 3 [c] opd0 opd0, _, 1, 1, rfl, M, fun h => by rw [HC.out h]⟩
  · have k1 : ((nxtK T s).kind == 1) = false := by rw [h1]; rfl
    have k4 : ((nxtK T s).kind == 4) = true := by rw [h1]; rfl
    have x4 : ((nxtK T s).text.toList == [40]) = true := by rw [h2]; rfl
    have SN : Dec (seesB T 1 wNot s = false) := by show _ = _; unfold wNot; rw [sees_iff (by decide) [110, 111, 116]]; simp [h1, h2]
    have SP : Dec (seesB T 4 mOpen s = true) := by show _ = _; unfold mOpen; rw [sees_iff (by decide) [40]]; simp [h1, h2]
    clear hE h1 h2
    go_enter Tryd.func50, Tryd.ntmps50
    go_wp2_with (first | ((with_reducible refine body_id ?_); (refine q_ret M Tryd.results50 (by rfl) ?_)) | (first | ((with_reducible refine o_list rfl fun K hK => ?_); (first | (first | refine q_all M (by rfl) ?_ | refine q_get M (by exact rfl) ?_ | refine q_part M (by rfl) (by simp only [laid, opdC, List.take_succ_cons, List.take_zero, List.drop_succ_cons, List.drop_zero, List.length_cons, List.length_nil, List.cons_append, List.nil_append, Nat.reduceAdd] <;> rfl) ?_ | refine q_ep M ?_ | refine q_ee M ?_ | refine q_et M ?_ | refine q_eo M (by assumption) (by assumption) (by assumption) ?_) | (first | ((first | refine q_setc M (by rfl) (by rfl) ?_ | refine q_set M (by rfl) (by rfl) ?_ | refine q_put M (by rfl) (by rfl) (by rfl) ?_ | refine q_in M (by rfl) (by rfl) (by rfl) ?_); clear M; intro w M; (try simp only [List.set_cons_zero, List.set_cons_succ, laid, opdC, cndC, tokC, List.take_succ_cons, List.take_zero, List.drop_succ_cons, List.drop_zero, List.length_cons, List.length_nil, List.cons_append, List.nil_append, Nat.reduceAdd, Nat.zero_add] at M)) | (refine q_eadv M ?_; clear M; intro w M) | (refine q_eset M ?_; clear M; intro w M)) | (refine q_var M ?_; clear M; intro z w M) | (refine q_row M (by rfl) ?_; clear M; intro q w M)); refine hK _ _ ?_; clear hK K) | ((with_reducible refine o_listg fun K hK => ?_); (first | (first | refine q_all M (by rfl) ?_ | refine q_get M (by exact rfl) ?_ | refine q_part M (by rfl) (by simp only [laid, opdC, List.take_succ_cons, List.take_zero, List.drop_succ_cons, List.drop_zero, List.length_cons, List.length_nil, List.cons_append, List.nil_append, Nat.reduceAdd] <;> rfl) ?_ | refine q_ep M ?_ | refine q_ee M ?_ | refine q_et M ?_ | refine q_eo M (by assumption) (by assumption) (by assumption) ?_)); refine hK _ _ ?_; clear hK K) | (with_reducible refine o_skipT ?_) | (with_reducible refine o_skipF ?_)) | (go_at_call 30; refine (M.next HE.out).mono ?_; clear M; rintro e w ⟨rfl, M⟩) | ((go_at_call 11); refine (M.isF HE.out _ (by decide) _ (by exact Dec.out (by assumption))).mono ?_; clear M; rintro e w ⟨rfl, M⟩) | ((go_at_call 11); refine (M.isT HE.out _ (by decide) _ (by exact Dec.out (by assumption))).mono ?_; clear M; rintro e w ⟨rfl, M⟩) | ((go_at_call 50); refine (HO.out _ _ _ M).mono ?_; clear M; rintro e w ⟨c, ao1, n1, cap1, rfl, M, hc⟩; have HC := Lib.hid hc; clear hc) | (go_at_call 13; refine (M.want HE.out _ (by decide) _).mono ?_; clear M; rintro e w ⟨rfl, M⟩))
    rw [notS_open d SN.out SP.out]
    exact ⟨c, ao1, n1, cap1, rfl, M.drop.skip.skip, fun h => HC.out (must_ok h)⟩
  · have k1 : ((nxtK T s).kind == 1) = true := by rw [h1]; rfl
    have x1 : ((nxtK T s).text.toList == [110, 111, 116]) = false := by simpa using h2
    have k4 : ((nxtK T s).kind == 4) = false := by rw [h1]; rfl
    have SN : Dec (seesB T 1 wNot s = false) := by show _ = _; unfold wNot; rw [sees_iff (by decide) [110, 111, 116]]; simp [h1, h2]
    have SP : Dec (seesB T 4 mOpen s = false) := by show _ = _; unfold mOpen; rw [sees_iff (by decide) [40]]; simp [h1, h2]
    clear hE h1 h2
    go_enter Tryd.func50, Tryd.ntmps50
    go_wp2_with (first | ((with_reducible refine body_id ?_); (refine q_ret M Tryd.results50 (by rfl) ?_)) | (first | ((with_reducible refine o_list rfl fun K hK => ?_); (first | (first | refine q_all M (by rfl) ?_ | refine q_get M (by exact rfl) ?_ | refine q_part M (by rfl) (by simp only [laid, opdC, List.take_succ_cons, List.take_zero, List.drop_succ_cons, List.drop_zero, List.length_cons, List.length_nil, List.cons_append, List.nil_append, Nat.reduceAdd] <;> rfl) ?_ | refine q_ep M ?_ | refine q_ee M ?_ | refine q_et M ?_ | refine q_eo M (by assumption) (by assumption) (by assumption) ?_) | (first | ((first | refine q_setc M (by rfl) (by rfl) ?_ | refine q_set M (by rfl) (by rfl) ?_ | refine q_put M (by rfl) (by rfl) (by rfl) ?_ | refine q_in M (by rfl) (by rfl) (by rfl) ?_); clear M; intro w M; (try simp only [List.set_cons_zero, List.set_cons_succ, laid, opdC, cndC, tokC, List.take_succ_cons, List.take_zero, List.drop_succ_cons, List.drop_zero, List.length_cons, List.length_nil, List.cons_append, List.nil_append, Nat.reduceAdd, Nat.zero_add] at M)) | (refine q_eadv M ?_; clear M; intro w M) | (refine q_eset M ?_; clear M; intro w M)) | (refine q_var M ?_; clear M; intro z w M) | (refine q_row M (by rfl) ?_; clear M; intro q w M)); refine hK _ _ ?_; clear hK K) | ((with_reducible refine o_listg fun K hK => ?_); (first | (first | refine q_all M (by rfl) ?_ | refine q_get M (by exact rfl) ?_ | refine q_part M (by rfl) (by simp only [laid, opdC, List.take_succ_cons, List.take_zero, List.drop_succ_cons, List.drop_zero, List.length_cons, List.length_nil, List.cons_append, List.nil_append, Nat.reduceAdd] <;> rfl) ?_ | refine q_ep M ?_ | refine q_ee M ?_ | refine q_et M ?_ | refine q_eo M (by assumption) (by assumption) (by assumption) ?_)); refine hK _ _ ?_; clear hK K) | (with_reducible refine o_skipT ?_) | (with_reducible refine o_skipF ?_)) | (go_at_call 30; refine (M.next HE.out).mono ?_; clear M; rintro e w ⟨rfl, M⟩) | ((go_at_call 11); refine (M.isF HE.out _ (by decide) _ (by exact Dec.out (by assumption))).mono ?_; clear M; rintro e w ⟨rfl, M⟩) | ((go_at_call 57); refine (test_any M HE.out).mono ?_; clear M; rintro e w ⟨c, ao1, n1, cap1, rfl, M, hc⟩; have HC := Lib.hid hc; clear hc))
    rw [notS_flat (d + 1) SN.out SP.out]
    exact ⟨c, ao1, n1, cap1, rfl, M.skip.skip, HC.out⟩
  · have k1 : ((nxtK T s).kind == 1) = false := by rw [h1]; rfl
    have k4 : ((nxtK T s).kind == 4) = true := by rw [h1]; rfl
    have x4 : ((nxtK T s).text.toList == [40]) = false := by simpa using h2
    have SN : Dec (seesB T 1 wNot s = false) := by show _ = _; unfold wNot; rw [sees_iff (by decide) [110, 111, 116]]; simp [h1, h2]
    have SP : Dec (seesB T 4 mOpen s = false) := by show _ = _; unfold mOpen; rw [sees_iff (by decide) [40]]; simp [h1, h2]
    clear hE h1 h2
    go_enter Tryd.func50, Tryd.ntmps50
    go_wp2_with (first | ((with_reducible refine body_id ?_); (refine q_ret M Tryd.results50 (by rfl) ?_)) | (first | ((with_reducible refine o_list rfl fun K hK => ?_); (first | (first | refine q_all M (by rfl) ?_ | refine q_get M (by exact rfl) ?_ | refine q_part M (by rfl) (by simp only [laid, opdC, List.take_succ_cons, List.take_zero, List.drop_succ_cons, List.drop_zero, List.length_cons, List.length_nil, List.cons_append, List.nil_append, Nat.reduceAdd] <;> rfl) ?_ | refine q_ep M ?_ | refine q_ee M ?_ | refine q_et M ?_ | refine q_eo M (by assumption) (by assumption) (by assumption) ?_) | (first | ((first | refine q_setc M (by rfl) (by rfl) ?_ | refine q_set M (by rfl) (by rfl) ?_ | refine q_put M (by rfl) (by rfl) (by rfl) ?_ | refine q_in M (by rfl) (by rfl) (by rfl) ?_); clear M; intro w M; (try simp only [List.set_cons_zero, List.set_cons_succ, laid, opdC, cndC, tokC, List.take_succ_cons, List.take_zero, List.drop_succ_cons, List.drop_zero, List.length_cons, List.length_nil, List.cons_append, List.nil_append, Nat.reduceAdd, Nat.zero_add] at M)) | (refine q_eadv M ?_; clear M; intro w M) | (refine q_eset M ?_; clear M; intro w M)) | (refine q_var M ?_; clear M; intro z w M) | (refine q_row M (by rfl) ?_; clear M; intro q w M)); refine hK _ _ ?_; clear hK K) | ((with_reducible refine o_listg fun K hK => ?_); (first | (first | refine q_all M (by rfl) ?_ | refine q_get M (by exact rfl) ?_ | refine q_part M (by rfl) (by simp only [laid, opdC, List.take_succ_cons, List.take_zero, List.drop_succ_cons, List.drop_zero, List.length_cons, List.length_nil, List.cons_append, List.nil_append, Nat.reduceAdd] <;> rfl) ?_ | refine q_ep M ?_ | refine q_ee M ?_ | refine q_et M ?_ | refine q_eo M (by assumption) (by assumption) (by assumption) ?_)); refine hK _ _ ?_; clear hK K) | (with_reducible refine o_skipT ?_) | (with_reducible refine o_skipF ?_)) | (go_at_call 30; refine (M.next HE.out).mono ?_; clear M; rintro e w ⟨rfl, M⟩) | ((go_at_call 11); refine (M.isF HE.out _ (by decide) _ (by exact Dec.out (by assumption))).mono ?_; clear M; rintro e w ⟨rfl, M⟩) | ((go_at_call 57); refine (test_any M HE.out).mono ?_; clear M; rintro e w ⟨c, ao1, n1, cap1, rfl, M, hc⟩; have HC := Lib.hid hc; clear hc))
    rw [notS_flat (d + 1) SN.out SP.out]
    exact ⟨c, ao1, n1, cap1, rfl, M.skip.skip, HC.out⟩
  · have k1 : ((nxtK T s).kind == 1) = false := by simpa using h1
    have k4 : ((nxtK T s).kind == 4) = false := by simpa using h2
    have SN : Dec (seesB T 1 wNot s = false) := by show _ = _; unfold wNot; rw [sees_iff (by decide) [110, 111, 116]]; simp [h1, h2]
    have SP : Dec (seesB T 4 mOpen s = false) := by show _ = _; unfold mOpen; rw [sees_iff (by decide) [40]]; simp [h1, h2]
    clear hE h1 h2
    go_enter Tryd.func50, Tryd.ntmps50
    go_wp2_with (first | ((with_reducible refine body_id ?_); (refine q_ret M Tryd.results50 (by rfl) ?_)) | (first | ((with_reducible refine o_list rfl fun K hK => ?_); (first | (first | refine q_all M (by rfl) ?_ | refine q_get M (by exact rfl) ?_ | refine q_part M (by rfl) (by simp only [laid, opdC, List.take_succ_cons, List.take_zero, List.drop_succ_cons, List.drop_zero, List.length_cons, List.length_nil, List.cons_append, List.nil_append, Nat.reduceAdd] <;> rfl) ?_ | refine q_ep M ?_ | refine q_ee M ?_ | refine q_et M ?_ | refine q_eo M (by assumption) (by assumption) (by assumption) ?_) | (first | ((first | refine q_setc M (by rfl) (by rfl) ?_ | refine q_set M (by rfl) (by rfl) ?_ | refine q_put M (by rfl) (by rfl) (by rfl) ?_ | refine q_in M (by rfl) (by rfl) (by rfl) ?_); clear M; intro w M; (try simp only [List.set_cons_zero, List.set_cons_succ, laid, opdC, cndC, tokC, List.take_succ_cons, List.take_zero, List.drop_succ_cons, List.drop_zero, List.length_cons, List.length_nil, List.cons_append, List.nil_append, Nat.reduceAdd, Nat.zero_add] at M)) | (refine q_eadv M ?_; clear M; intro w M) | (refine q_eset M ?_; clear M; intro w M)) | (refine q_var M ?_; clear M; intro z w M) | (refine q_row M (by rfl) ?_; clear M; intro q w M)); refine hK _ _ ?_; clear hK K) | ((with_reducible refine o_listg fun K hK => ?_); (first | (first | refine q_all M (by rfl) ?_ | refine q_get M (by exact rfl) ?_ | refine q_part M (by rfl) (by simp only [laid, opdC, List.take_succ_cons, List.take_zero, List.drop_succ_cons, List.drop_zero, List.length_cons, List.length_nil, List.cons_append, List.nil_append, Nat.reduceAdd] <;> rfl) ?_ | refine q_ep M ?_ | refine q_ee M ?_ | refine q_et M ?_ | refine q_eo M (by assumption) (by assumption) (by assumption) ?_)); refine hK _ _ ?_; clear hK K) | (with_reducible refine o_skipT ?_) | (with_reducible refine o_skipF ?_)) | (go_at_call 30; refine (M.next HE.out).mono ?_; clear M; rintro e w ⟨rfl, M⟩) | ((go_at_call 11); refine (M.isF HE.out _ (by decide) _ (by exact Dec.out (by assumption))).mono ?_; clear M; rintro e w ⟨rfl, M⟩) | ((go_at_call 57); refine (test_any M HE.out).mono ?_; clear M; rintro e w ⟨c, ao1, n1, cap1, rfl, M, hc⟩; have HC := Lib.hid hc; clear hc))
    rw [notS_flat (d + 1) SN.out SP.out]
    exact ⟨c, ao1, n1, cap1, rfl, M.skip.skip, HC.out⟩
theorem snoc_len {xs : List Cond} {c : Cond} {ra : Option Addr} {rc : Nat} {K : List Ent} (M : Mem At b u w s (slc u.heap.size 81 14 CondF (.slice ra (xs.length + 1) rc) (xs ++ [c]) :: K)) : Mem At b u w s (slc u.heap.size 81 14 CondF (.slice ra (xs ++ [c]).length rc) (xs ++ [c]) :: K) := by
  have e : (xs ++ [c]).length = xs.length + 1 := by simp
  rw [e]; exact M
/-- Behind a round of conditions. -/
def TstRel (b : Nat) (ao : Option Addr) (n cap : Nat) (T : List Tok) (next : PS → Cond × PS) (word : ByteArray) (u : World) (L : List Ent) (zc : Nat) (R : List Cond × PS) (f : Nat) (v : Value) (w : World) : Prop :=
  ∃ (xs' xs : List Cond) (s : PS) (ra : Option Addr) (rc : Nat) (c0 : Cond) (ao0 : Option Addr) (n0 cap0 : Nat), v = .slice ra xs'.length rc ∧ Mem (EyAt b ao n cap) b u w s (slc u.heap.size 81 14 CondF (.slice ra xs'.length rc) xs' :: own zc (cndC c0 ao0 n0 cap0) 81 :: L) ∧
    chainL T next word f xs s = R ∧ T.length + 1 ≤ f + s.pos ∧ xs'.length = xs.length ∧ xs.length + f = T.length + 2 ∧ 0 < xs.length ∧ (s.e = 0 → xs' = xs)
set_option maxRecDepth 8000 in
set_option maxHeartbeats 2000000 in
theorem tests_chain (hE : Env T b ao n cap u) (level depth : Int) (hl0 : 0 ≤ level) (hl1 : level ≤ 1) (kind : Int) (word : ByteArray) (hlk : (level = 0 ∧ kind = 2 ∧ word = wOr) ∨ (level = 1 ∧ kind = 1 ∧ word = wAnd)) (next : PS → Cond × PS) (hfine : Fine next)
    (hN : TstFn T b ao n cap u (level + 1) depth next) : TstFn T b ao n cap u level depth (chainS T kind word next) := by
  intro L w s M
  have HE := Lib.hid hE
  have HN := Lib.hid hN
  have l4 : T.length ≤ 700 := hE.len.2.2.2
  have HL := Lib.hid l4
  clear hE hN l4
  have hb2 : (level == 2) = false := by simp; omega
  rcases hlk with ⟨rfl, rfl, rfl⟩ | ⟨rfl, rfl, rfl⟩
  all_goals
    clear hl0 hl1
    go_enter Tryd.func50, Tryd.ntmps50
    go_wp2_with (first | (first | ((with_reducible refine o_list rfl fun K hK => ?_); (first | (first | refine q_all M (by rfl) ?_ | refine q_get M (by exact rfl) ?_ | refine q_part M (by rfl) (by simp only [laid, opdC, List.take_succ_cons, List.take_zero, List.drop_succ_cons, List.drop_zero, List.length_cons, List.length_nil, List.cons_append, List.nil_append, Nat.reduceAdd] <;> rfl) ?_ | refine q_ep M ?_ | refine q_ee M ?_ | refine q_et M ?_ | refine q_eo M (by assumption) (by assumption) (by assumption) ?_) | (first | ((first | refine q_setc M (by rfl) (by rfl) ?_ | refine q_set M (by rfl) (by rfl) ?_ | refine q_put M (by rfl) (by rfl) (by rfl) ?_ | refine q_in M (by rfl) (by rfl) (by rfl) ?_); clear M; intro w M; (try simp only [List.set_cons_zero, List.set_cons_succ, laid, opdC, cndC, tokC, List.take_succ_cons, List.take_zero, List.drop_succ_cons, List.drop_zero, List.length_cons, List.length_nil, List.cons_append, List.nil_append, Nat.reduceAdd, Nat.zero_add] at M)) | (refine q_eadv M ?_; clear M; intro w M) | (refine q_eset M ?_; clear M; intro w M)) | (refine q_var M ?_; clear M; intro z w M) | (refine q_row M (by rfl) ?_; clear M; intro q w M)); refine hK _ _ ?_; clear hK K) | ((with_reducible refine o_listg fun K hK => ?_); (first | (first | refine q_all M (by rfl) ?_ | refine q_get M (by exact rfl) ?_ | refine q_part M (by rfl) (by simp only [laid, opdC, List.take_succ_cons, List.take_zero, List.drop_succ_cons, List.drop_zero, List.length_cons, List.length_nil, List.cons_append, List.nil_append, Nat.reduceAdd] <;> rfl) ?_ | refine q_ep M ?_ | refine q_ee M ?_ | refine q_et M ?_ | refine q_eo M (by assumption) (by assumption) (by assumption) ?_)); refine hK _ _ ?_; clear hK K) | (with_reducible refine o_skipT ?_) | (with_reducible refine o_skipF ?_)) | ((go_at_call 50); refine (HN.out _ _ _ M).mono ?_; clear M; rintro e w ⟨c, ao1, n1, cap1, rfl, M, hc⟩; have HC := Lib.hid hc; clear hc))
  · generalize hL2 : (_ :: L : List Ent) = L2 at M
    replace M := Mem.cut [_, _] (M.one (R := CondF) (k := 14) condF_firm (by omega) (by omega) c (cndF_of (M.dat_ (i := 2) rfl)) rfl)
    have HL2 := Lib.hid hL2
    clear hL2
    have R0 : TstRel b ao n cap T next wOr u L2 z (chainL T next wOr (T.length + 1) [(next s).1] (next s).2) (T.length + 1) (.slice (some ⟨q, 0, none⟩) 1 1) w :=
      ⟨[c], [(next s).1], (next s).2, _, 1, c, ao1, n1, cap1, rfl, M, rfl, by omega, rfl, by simp; omega, by simp, fun h => by rw [HC.out h]⟩
    generalize hRR : chainL T next wOr (T.length + 1) [(next s).1] (next s).2 = RR at R0
    have HRR := Lib.hid hRR
    clear M HC hRR
    go_loopg [14] (T.length + 1) (fun f v wr => TstRel b ao n cap T next wOr u L2 z RR f v wr)
    case atStart => exact R0
    case round =>
      obtain ⟨xs', xs, s', ra, rc, c0, ao0, n0, cap0, rfl, M, hR, hf, hl, hm, h0, hx⟩ := hrel
      have HR := Lib.hid hR
      have HX := Lib.hid hx
      have HF := Lib.hid (And.intro hf (And.intro hl (And.intro hm h0)))
      clear hR hx hf hl hm h0 R0
      go_wp2_with fail
      refine M.is HE.out _ (by decide) _ ?_ ?_ <;> (clear M; intro w hs M)
      · go_wp2_with (first | (first | ((with_reducible refine o_list rfl fun K hK => ?_); (first | (first | refine q_all M (by rfl) ?_ | refine q_get M (by exact rfl) ?_ | refine q_part M (by rfl) (by simp only [laid, opdC, List.take_succ_cons, List.take_zero, List.drop_succ_cons, List.drop_zero, List.length_cons, List.length_nil, List.cons_append, List.nil_append, Nat.reduceAdd] <;> rfl) ?_ | refine q_ep M ?_ | refine q_ee M ?_ | refine q_et M ?_ | refine q_eo M (by assumption) (by assumption) (by assumption) ?_) | (first | ((first | refine q_setc M (by rfl) (by rfl) ?_ | refine q_set M (by rfl) (by rfl) ?_ | refine q_put M (by rfl) (by rfl) (by rfl) ?_ | refine q_in M (by rfl) (by rfl) (by rfl) ?_); clear M; intro w M; (try simp only [List.set_cons_zero, List.set_cons_succ, laid, opdC, cndC, tokC, List.take_succ_cons, List.take_zero, List.drop_succ_cons, List.drop_zero, List.length_cons, List.length_nil, List.cons_append, List.nil_append, Nat.reduceAdd, Nat.zero_add] at M)) | (refine q_eadv M ?_; clear M; intro w M) | (refine q_eset M ?_; clear M; intro w M)) | (refine q_var M ?_; clear M; intro z w M) | (refine q_row M (by rfl) ?_; clear M; intro q w M)); refine hK _ _ ?_; clear hK K) | ((with_reducible refine o_listg fun K hK => ?_); (first | (first | refine q_all M (by rfl) ?_ | refine q_get M (by exact rfl) ?_ | refine q_part M (by rfl) (by simp only [laid, opdC, List.take_succ_cons, List.take_zero, List.drop_succ_cons, List.drop_zero, List.length_cons, List.length_nil, List.cons_append, List.nil_append, Nat.reduceAdd] <;> rfl) ?_ | refine q_ep M ?_ | refine q_ee M ?_ | refine q_et M ?_ | refine q_eo M (by assumption) (by assumption) (by assumption) ?_)); refine hK _ _ ?_; clear hK K) | (with_reducible refine o_skipT ?_) | (with_reducible refine o_skipF ?_)) | ((go_at_call 50); refine (HN.out _ _ _ M).mono ?_; clear M; rintro e w ⟨c, ao1, n1, cap1, rfl, M, hc⟩; have HC := Lib.hid hc; clear hc) | ((with_reducible refine o_list rfl fun K hK => ?_); (refine q_app (R := CondF) condF_firm M 2 rfl c (cndF_of (M.dat_ (i := 1) rfl)) (by rfl) (by rfl) (by have := HF.out; have := HL.out; omega) ?_; clear M; intro ra2 rc2 w M); refine hK _ _ ?_; clear hK K))
        replace M := M.drop.drop
        obtain ⟨hf, hl, hm, h0⟩ := HF.out
        obtain ⟨f', e1, e2, e3⟩ := chainL_more hfine wOr gk xs s' hf hs.out
        have E2 := Lib.hid e2
        have E3 := Lib.hid e3
        clear e2 e3
        go_roundg f'
        case measure => omega
        case rel => exact ⟨xs' ++ [c], xs ++ [(next (adv s')).1], (next (adv s')).2, ra2, rc2, c, ao1, n1, cap1, by simp [hl], snoc_len M, by rw [← E3.out]; exact HR.out, E2.out, by simp; omega, by simp; omega, by simp, fun h => by rw [HX.out (sees_ok hs.out).1, HC.out h]⟩
      · obtain ⟨hf, hl, hm, h0⟩ := HF.out
        have HE2 := Lib.hid (HRR.out.trans (HR.out.symm.trans (chainL_end (next := next) wOr gk xs s' hs.out)))
        obtain rfl := HL2.out
        clear hf hm h0 HR HF HRR HL2
        by_cases h1 : xs'.length = 1
        · obtain ⟨y, rfl⟩ : ∃ y, xs' = [y] := List.length_eq_one_iff.1 h1
          obtain ⟨q2, p2, row, rfl, hlr, hr, M⟩ := M.first condF_firm (by omega)
          obtain ⟨ao2, n2, cap2, hrow, _⟩ := (show CondF _ _ row y from M.dat_ (i := 0) rfl).open
          subst hrow
          clear hlr hl h1
          go_wp2_with (first | ((with_reducible refine body_id ?_); (refine q_ret M Tryd.results50 (by rfl) ?_)) | (first | ((with_reducible refine o_list rfl fun K hK => ?_); (first | (first | refine q_all M (by rfl) ?_ | refine q_get M (by exact rfl) ?_ | refine q_part M (by rfl) (by simp only [laid, opdC, List.take_succ_cons, List.take_zero, List.drop_succ_cons, List.drop_zero, List.length_cons, List.length_nil, List.cons_append, List.nil_append, Nat.reduceAdd] <;> rfl) ?_ | refine q_ep M ?_ | refine q_ee M ?_ | refine q_et M ?_ | refine q_eo M (by assumption) (by assumption) (by assumption) ?_) | (first | ((first | refine q_setc M (by rfl) (by rfl) ?_ | refine q_set M (by rfl) (by rfl) ?_ | refine q_put M (by rfl) (by rfl) (by rfl) ?_ | refine q_in M (by rfl) (by rfl) (by rfl) ?_); clear M; intro w M; (try simp only [List.set_cons_zero, List.set_cons_succ, laid, opdC, cndC, tokC, List.take_succ_cons, List.take_zero, List.drop_succ_cons, List.drop_zero, List.length_cons, List.length_nil, List.cons_append, List.nil_append, Nat.reduceAdd, Nat.zero_add] at M)) | (refine q_eadv M ?_; clear M; intro w M) | (refine q_eset M ?_; clear M; intro w M)) | (refine q_var M ?_; clear M; intro z w M) | (refine q_row M (by rfl) ?_; clear M; intro q w M)); refine hK _ _ ?_; clear hK K) | ((with_reducible refine o_listg fun K hK => ?_); (first | (first | refine q_all M (by rfl) ?_ | refine q_get M (by exact rfl) ?_ | refine q_part M (by rfl) (by simp only [laid, opdC, List.take_succ_cons, List.take_zero, List.drop_succ_cons, List.drop_zero, List.length_cons, List.length_nil, List.cons_append, List.nil_append, Nat.reduceAdd] <;> rfl) ?_ | refine q_ep M ?_ | refine q_ee M ?_ | refine q_et M ?_ | refine q_eo M (by assumption) (by assumption) (by assumption) ?_)); refine hK _ _ ?_; clear hK K) | (with_reducible refine o_skipT ?_) | (with_reducible refine o_skipF ?_)) | ((with_reducible refine o_list rfl fun K hK => ?_); refine q_at hr (by rfl) ?_; refine hK _ _ ?_; clear hK K))
          refine ⟨y, ao2, n2, cap2, rfl, ?_, fun h => ?_⟩
          · rw [chainS_end _ HE2.out]
            exact M.skip.skip.turn _ (dat_firm fun F F' w w' hs h => SlF.same h condF_firm hs) (fun z hz => by cases hz) (fun F G h1 _ hF => SlF.same (CondF.sub hF) condF_firm (Same.wide fun k hk _ => h1 k hk))
          · rw [chainS_end _ HE2.out] at h ⊢
            rw [← HX.out h]
            rfl
        · have h1b : ((xs'.length : Int) == 1) = false := by simp; omega
          clear h1 hl
          go_wp2_with (first | ((with_reducible refine body_id ?_); (refine q_ret M Tryd.results50 (by rfl) ?_)) | (first | ((with_reducible refine o_list rfl fun K hK => ?_); (first | (first | refine q_all M (by rfl) ?_ | refine q_get M (by exact rfl) ?_ | refine q_part M (by rfl) (by simp only [laid, opdC, List.take_succ_cons, List.take_zero, List.drop_succ_cons, List.drop_zero, List.length_cons, List.length_nil, List.cons_append, List.nil_append, Nat.reduceAdd] <;> rfl) ?_ | refine q_ep M ?_ | refine q_ee M ?_ | refine q_et M ?_ | refine q_eo M (by assumption) (by assumption) (by assumption) ?_) | (first | ((first | refine q_setc M (by rfl) (by rfl) ?_ | refine q_set M (by rfl) (by rfl) ?_ | refine q_put M (by rfl) (by rfl) (by rfl) ?_ | refine q_in M (by rfl) (by rfl) (by rfl) ?_); clear M; intro w M; (try simp only [List.set_cons_zero, List.set_cons_succ, laid, opdC, cndC, tokC, List.take_succ_cons, List.take_zero, List.drop_succ_cons, List.drop_zero, List.length_cons, List.length_nil, List.cons_append, List.nil_append, Nat.reduceAdd, Nat.zero_add] at M)) | (refine q_eadv M ?_; clear M; intro w M) | (refine q_eset M ?_; clear M; intro w M)) | (refine q_var M ?_; clear M; intro z w M) | (refine q_row M (by rfl) ?_; clear M; intro q w M)); refine hK _ _ ?_; clear hK K) | ((with_reducible refine o_listg fun K hK => ?_); (first | (first | refine q_all M (by rfl) ?_ | refine q_get M (by exact rfl) ?_ | refine q_part M (by rfl) (by simp only [laid, opdC, List.take_succ_cons, List.take_zero, List.drop_succ_cons, List.drop_zero, List.length_cons, List.length_nil, List.cons_append, List.nil_append, Nat.reduceAdd] <;> rfl) ?_ | refine q_ep M ?_ | refine q_ee M ?_ | refine q_et M ?_ | refine q_eo M (by assumption) (by assumption) (by assumption) ?_)); refine hK _ _ ?_; clear hK K) | (with_reducible refine o_skipT ?_) | (with_reducible refine o_skipF ?_)))
          obtain ⟨ao2, cap2, e2, M⟩ := M.skip.skip.done condF_firm (by omega)
          injection e2 with e2 e3 e4
          subst e2 e4
          refine ⟨.mk _ xs' opd0 opd0, ra, xs'.length, rc, rfl, ?_, fun h => ?_⟩
          · rw [chainS_end _ HE2.out]
            exact M
          · rw [chainS_end _ HE2.out] at h ⊢
            rw [← HX.out h]
            show _ = chainE _ xs'
            unfold chainE
            rw [if_neg (by intro h; simp [h] at h1b)]
  · generalize hL2 : (_ :: L : List Ent) = L2 at M
    replace M := Mem.cut [_, _] (M.one (R := CondF) (k := 14) condF_firm (by omega) (by omega) c (cndF_of (M.dat_ (i := 2) rfl)) rfl)
    have HL2 := Lib.hid hL2
    clear hL2
    have R0 : TstRel b ao n cap T next wAnd u L2 z (chainL T next wAnd (T.length + 1) [(next s).1] (next s).2) (T.length + 1) (.slice (some ⟨q, 0, none⟩) 1 1) w :=
      ⟨[c], [(next s).1], (next s).2, _, 1, c, ao1, n1, cap1, rfl, M, rfl, by omega, rfl, by simp; omega, by simp, fun h => by rw [HC.out h]⟩
    generalize hRR : chainL T next wAnd (T.length + 1) [(next s).1] (next s).2 = RR at R0
    have HRR := Lib.hid hRR
    clear M HC hRR
    go_loopg [14] (T.length + 1) (fun f v wr => TstRel b ao n cap T next wAnd u L2 z RR f v wr)
    case atStart => exact R0
    case round =>
      obtain ⟨xs', xs, s', ra, rc, c0, ao0, n0, cap0, rfl, M, hR, hf, hl, hm, h0, hx⟩ := hrel
      have HR := Lib.hid hR
      have HX := Lib.hid hx
      have HF := Lib.hid (And.intro hf (And.intro hl (And.intro hm h0)))
      clear hR hx hf hl hm h0 R0
      go_wp2_with fail
      refine M.is HE.out _ (by decide) _ ?_ ?_ <;> (clear M; intro w hs M)
      · go_wp2_with (first | (first | ((with_reducible refine o_list rfl fun K hK => ?_); (first | (first | refine q_all M (by rfl) ?_ | refine q_get M (by exact rfl) ?_ | refine q_part M (by rfl) (by simp only [laid, opdC, List.take_succ_cons, List.take_zero, List.drop_succ_cons, List.drop_zero, List.length_cons, List.length_nil, List.cons_append, List.nil_append, Nat.reduceAdd] <;> rfl) ?_ | refine q_ep M ?_ | refine q_ee M ?_ | refine q_et M ?_ | refine q_eo M (by assumption) (by assumption) (by assumption) ?_) | (first | ((first | refine q_setc M (by rfl) (by rfl) ?_ | refine q_set M (by rfl) (by rfl) ?_ | refine q_put M (by rfl) (by rfl) (by rfl) ?_ | refine q_in M (by rfl) (by rfl) (by rfl) ?_); clear M; intro w M; (try simp only [List.set_cons_zero, List.set_cons_succ, laid, opdC, cndC, tokC, List.take_succ_cons, List.take_zero, List.drop_succ_cons, List.drop_zero, List.length_cons, List.length_nil, List.cons_append, List.nil_append, Nat.reduceAdd, Nat.zero_add] at M)) | (refine q_eadv M ?_; clear M; intro w M) | (refine q_eset M ?_; clear M; intro w M)) | (refine q_var M ?_; clear M; intro z w M) | (refine q_row M (by rfl) ?_; clear M; intro q w M)); refine hK _ _ ?_; clear hK K) | ((with_reducible refine o_listg fun K hK => ?_); (first | (first | refine q_all M (by rfl) ?_ | refine q_get M (by exact rfl) ?_ | refine q_part M (by rfl) (by simp only [laid, opdC, List.take_succ_cons, List.take_zero, List.drop_succ_cons, List.drop_zero, List.length_cons, List.length_nil, List.cons_append, List.nil_append, Nat.reduceAdd] <;> rfl) ?_ | refine q_ep M ?_ | refine q_ee M ?_ | refine q_et M ?_ | refine q_eo M (by assumption) (by assumption) (by assumption) ?_)); refine hK _ _ ?_; clear hK K) | (with_reducible refine o_skipT ?_) | (with_reducible refine o_skipF ?_)) | ((go_at_call 50); refine (HN.out _ _ _ M).mono ?_; clear M; rintro e w ⟨c, ao1, n1, cap1, rfl, M, hc⟩; have HC := Lib.hid hc; clear hc) | ((with_reducible refine o_list rfl fun K hK => ?_); (refine q_app (R := CondF) condF_firm M 2 rfl c (cndF_of (M.dat_ (i := 1) rfl)) (by rfl) (by rfl) (by have := HF.out; have := HL.out; omega) ?_; clear M; intro ra2 rc2 w M); refine hK _ _ ?_; clear hK K))
        replace M := M.drop.drop
        obtain ⟨hf, hl, hm, h0⟩ := HF.out
        obtain ⟨f', e1, e2, e3⟩ := chainL_more hfine wAnd gk xs s' hf hs.out
        have E2 := Lib.hid e2
        have E3 := Lib.hid e3
        clear e2 e3
        go_roundg f'
        case measure => omega
        case rel => exact ⟨xs' ++ [c], xs ++ [(next (adv s')).1], (next (adv s')).2, ra2, rc2, c, ao1, n1, cap1, by simp [hl], snoc_len M, by rw [← E3.out]; exact HR.out, E2.out, by simp; omega, by simp; omega, by simp, fun h => by rw [HX.out (sees_ok hs.out).1, HC.out h]⟩
      · obtain ⟨hf, hl, hm, h0⟩ := HF.out
        have HE2 := Lib.hid (HRR.out.trans (HR.out.symm.trans (chainL_end (next := next) wAnd gk xs s' hs.out)))
        obtain rfl := HL2.out
        clear hf hm h0 HR HF HRR HL2
        by_cases h1 : xs'.length = 1
        · obtain ⟨y, rfl⟩ : ∃ y, xs' = [y] := List.length_eq_one_iff.1 h1
          obtain ⟨q2, p2, row, rfl, hlr, hr, M⟩ := M.first condF_firm (by omega)
          obtain ⟨ao2, n2, cap2, hrow, _⟩ := (show CondF _ _ row y from M.dat_ (i := 0) rfl).open
          subst hrow
          clear hlr hl h1
          go_wp2_with (first | ((with_reducible refine body_id ?_); (refine q_ret M Tryd.results50 (by rfl) ?_)) | (first | ((with_reducible refine o_list rfl fun K hK => ?_); (first | (first | refine q_all M (by rfl) ?_ | refine q_get M (by exact rfl) ?_ | refine q_part M (by rfl) (by simp only [laid, opdC, List.take_succ_cons, List.take_zero, List.drop_succ_cons, List.drop_zero, List.length_cons, List.length_nil, List.cons_append, List.nil_append, Nat.reduceAdd] <;> rfl) ?_ | refine q_ep M ?_ | refine q_ee M ?_ | refine q_et M ?_ | refine q_eo M (by assumption) (by assumption) (by assumption) ?_) | (first | ((first | refine q_setc M (by rfl) (by rfl) ?_ | refine q_set M (by rfl) (by rfl) ?_ | refine q_put M (by rfl) (by rfl) (by rfl) ?_ | refine q_in M (by rfl) (by rfl) (by rfl) ?_); clear M; intro w M; (try simp only [List.set_cons_zero, List.set_cons_succ, laid, opdC, cndC, tokC, List.take_succ_cons, List.take_zero, List.drop_succ_cons, List.drop_zero, List.length_cons, List.length_nil, List.cons_append, List.nil_append, Nat.reduceAdd, Nat.zero_add] at M)) | (refine q_eadv M ?_; clear M; intro w M) | (refine q_eset M ?_; clear M; intro w M)) | (refine q_var M ?_; clear M; intro z w M) | (refine q_row M (by rfl) ?_; clear M; intro q w M)); refine hK _ _ ?_; clear hK K) | ((with_reducible refine o_listg fun K hK => ?_); (first | (first | refine q_all M (by rfl) ?_ | refine q_get M (by exact rfl) ?_ | refine q_part M (by rfl) (by simp only [laid, opdC, List.take_succ_cons, List.take_zero, List.drop_succ_cons, List.drop_zero, List.length_cons, List.length_nil, List.cons_append, List.nil_append, Nat.reduceAdd] <;> rfl) ?_ | refine q_ep M ?_ | refine q_ee M ?_ | refine q_et M ?_ | refine q_eo M (by assumption) (by assumption) (by assumption) ?_)); refine hK _ _ ?_; clear hK K) | (with_reducible refine o_skipT ?_) | (with_reducible refine o_skipF ?_)) | ((with_reducible refine o_list rfl fun K hK => ?_); refine q_at hr (by rfl) ?_; refine hK _ _ ?_; clear hK K))
          refine ⟨y, ao2, n2, cap2, rfl, ?_, fun h => ?_⟩
          · rw [chainS_end _ HE2.out]
            exact M.skip.skip.turn _ (dat_firm fun F F' w w' hs h => SlF.same h condF_firm hs) (fun z hz => by cases hz) (fun F G h1 _ hF => SlF.same (CondF.sub hF) condF_firm (Same.wide fun k hk _ => h1 k hk))
          · rw [chainS_end _ HE2.out] at h ⊢
            rw [← HX.out h]
            rfl
        · have h1b : ((xs'.length : Int) == 1) = false := by simp; omega
          clear h1 hl
          go_wp2_with (first | ((with_reducible refine body_id ?_); (refine q_ret M Tryd.results50 (by rfl) ?_)) | (first | ((with_reducible refine o_list rfl fun K hK => ?_); (first | (first | refine q_all M (by rfl) ?_ | refine q_get M (by exact rfl) ?_ | refine q_part M (by rfl) (by simp only [laid, opdC, List.take_succ_cons, List.take_zero, List.drop_succ_cons, List.drop_zero, List.length_cons, List.length_nil, List.cons_append, List.nil_append, Nat.reduceAdd] <;> rfl) ?_ | refine q_ep M ?_ | refine q_ee M ?_ | refine q_et M ?_ | refine q_eo M (by assumption) (by assumption) (by assumption) ?_) | (first | ((first | refine q_setc M (by rfl) (by rfl) ?_ | refine q_set M (by rfl) (by rfl) ?_ | refine q_put M (by rfl) (by rfl) (by rfl) ?_ | refine q_in M (by rfl) (by rfl) (by rfl) ?_); clear M; intro w M; (try simp only [List.set_cons_zero, List.set_cons_succ, laid, opdC, cndC, tokC, List.take_succ_cons, List.take_zero, List.drop_succ_cons, List.drop_zero, List.length_cons, List.length_nil, List.cons_append, List.nil_append, Nat.reduceAdd, Nat.zero_add] at M)) | (refine q_eadv M ?_; clear M; intro w M) | (refine q_eset M ?_; clear M; intro w M)) | (refine q_var M ?_; clear M; intro z w M) | (refine q_row M (by rfl) ?_; clear M; intro q w M)); refine hK _ _ ?_; clear hK K) | ((with_reducible refine o_listg fun K hK => ?_); (first | (first | refine q_all M (by rfl) ?_ | refine q_get M (by exact rfl) ?_ | refine q_part M (by rfl) (by simp only [laid, opdC, List.take_succ_cons, List.take_zero, List.drop_succ_cons, List.drop_zero, List.length_cons, List.length_nil, List.cons_append, List.nil_append, Nat.reduceAdd] <;> rfl) ?_ | refine q_ep M ?_ | refine q_ee M ?_ | refine q_et M ?_ | refine q_eo M (by assumption) (by assumption) (by assumption) ?_)); refine hK _ _ ?_; clear hK K) | (with_reducible refine o_skipT ?_) | (with_reducible refine o_skipF ?_)))
          obtain ⟨ao2, cap2, e2, M⟩ := M.skip.skip.done condF_firm (by omega)
          injection e2 with e2 e3 e4
          subst e2 e4
          refine ⟨.mk _ xs' opd0 opd0, ra, xs'.length, rc, rfl, ?_, fun h => ?_⟩
          · rw [chainS_end _ HE2.out]
            exact M
          · rw [chainS_end _ HE2.out] at h ⊢
            rw [← HX.out h]
            show _ = chainE _ xs'
            unfold chainE
            rw [if_neg (by intro h; simp [h] at h1b)]
/-- Conditions at each depth. -/
theorem tests_all (hE : Env T b ao n cap u) : ∀ d : Nat, d ≤ 7 → TstFn T b ao n cap u 2 (8 - d) (notS T d) ∧ TstFn T b ao n cap u 0 (8 - d) (orS T d)
  | 0, _ => ⟨tests_zero hE, tests_chain hE 0 8 (by omega) (by omega) 2 wOr (.inl ⟨rfl, rfl, rfl⟩) _ (andS_fine 0) (tests_chain hE 1 8 (by omega) (by omega) 1 wAnd (.inr ⟨rfl, rfl, rfl⟩) _ (notS_fine 0) (tests_zero hE))⟩
  | d + 1, hd => by
    obtain ⟨h1, h2⟩ := tests_all hE d (by omega)
    have e : (8 - (d : Int)) = 8 - ((d + 1 : Nat) : Int) + 1 := by omega
    rw [e] at h1 h2
    have h3 := tests_succ hE (8 - ((d + 1 : Nat) : Int)) (by omega) (by omega) d h1 h2
    exact ⟨h3, tests_chain hE 0 _ (by omega) (by omega) 2 wOr (.inl ⟨rfl, rfl, rfl⟩) _ (andS_fine (d + 1)) (tests_chain hE 1 _ (by omega) (by omega) 1 wAnd (.inr ⟨rfl, rfl, rfl⟩) _ (notS_fine (d + 1)) h3)⟩
theorem ors_any (hE : Env T b ao n cap u) : TstFn T b ao n cap u 0 1 (orS T 7) := (tests_all hE 7 (Nat.le_refl _)).2
end
end Go.Proofs.YtobnaokknkmlcaaDoor
