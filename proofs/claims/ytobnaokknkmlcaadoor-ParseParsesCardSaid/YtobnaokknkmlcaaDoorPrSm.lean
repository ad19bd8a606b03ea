/-
  One's own blocks in memory, in walks: a variable's block made, stored, loaded as a whole or by a cell, the world behind it a letter. For every program. No condition.
-/
import Derived.Test.YtobnaokknkmlcaaDoorPrRm
import Derived.Laws.Rows
import Derived.Deep.MidRow
namespace Go.Proofs.YtobnaokknkmlcaaDoor
open Go.RowKit
set_option linter.unusedVariables false
set_option linter.unusedSimpArgs false

/-- A block holds just these cells. -/
def Own (z : Nat) (cs : List Value) (t : TypeId) (w : World) : Prop := w.heap[z]? = some (.cells cs.toArray t (0, 0))
theorem Own.lt {z : Nat} {cs : List Value} {t : TypeId} {w : World} (h : Own z cs t w) : z < w.heap.size := (Array.getElem?_eq_some_iff.1 h).1
theorem Own.cell {z : Nat} {cs : List Value} {t : TypeId} {w : World} (h : Own z cs t w) (i : Nat) : w.cell? ⟨z, i, none⟩ = cs[i]? := by
  rw [Lib.cell_of_heap h]; simp
theorem Own.frozen {z : Nat} {cs : List Value} {t : TypeId} {w : World} (h : Own z cs t w) (i : Nat) : w.frozen? ⟨z, i, none⟩ = false := Lib.frozen_of_heap h i
theorem Own.but {z : Nat} {cs : List Value} {t : TypeId} {b : Nat} {w w' : World} (h : Own z cs t w) (hb : But b w w') (hz : z ≠ b) : Own z cs t w' := (hb.rest z h.lt hz).trans h
theorem Own.below {z : Nat} {cs : List Value} {t : TypeId} {w w' : World} (h : Own z cs t w) (hb : Below w.heap.size w w') : Own z cs t w' := (hb.block z h.lt).trans h
theorem Own.range {z : Nat} {cs : List Value} {t : TypeId} {w : World} (h : Own z cs t w) : w.rangeAt z 0 cs := fun j v hv => by rw [Nat.zero_add, h.cell]; exact hv
theorem Own.there {z : Nat} {cs : List Value} {t : TypeId} {w : World} (h : Own z cs t w) (o n : Nat) (hn : o + n ≤ cs.length) : w.there z o n := fun j hj => by
  rw [h.cell, h.frozen, List.getElem?_eq_getElem (by omega)]; exact ⟨rfl, rfl⟩

/-- Nothing but the block z has turned. -/
structure Put (z : Nat) (w w' : World) : Prop where
  os : w'.os = w.os
  tape : w'.tape = w.tape
  output : w'.output = w.output
  size : w'.heap.size = w.heap.size
  rest : ∀ k, k ≠ z → w'.heap[k]? = w.heap[k]?
theorem Put.setCells {z : Nat} : ∀ (vs : List Value) (o : Nat) (w : World), Put z w (w.setCells z o vs)
  | [], _, _ => ⟨rfl, rfl, rfl, rfl, fun _ _ => rfl⟩
  | v :: r, o, w => by
    have h := Put.setCells (z := z) r (o + 1) (w.setCell ⟨z, o, none⟩ v)
    exact ⟨h.os, h.tape, h.output, h.size.trans (by simp), fun k hk => (h.rest k hk).trans (Below.heap_setCell _ _ _ _ hk)⟩
theorem Put.below {z B : Nat} {w w' : World} (h : Put z w w') (hz : B ≤ z) : Below B w w' := ⟨h.os, h.tape, h.output, Nat.le_of_eq h.size.symm, fun k hk => h.rest k (by omega)⟩
theorem But.puts {b z : Nat} {u w w' : World} (h : But b u w) (p : Put z w w') (hz : u.heap.size ≤ z) (hb : b < u.heap.size) : But b u w' :=
  ⟨h.below.trans (p.below (by omega)), fun k hk hkb => (p.rest k (by omega)).trans (h.rest k hk hkb)⟩
theorem But.news {b : Nat} {u w w' : World} (h : But b u w) (p : Below w.heap.size w w') (hb : b < u.heap.size) : But b u w' := h.step p (by have := h.size; omega)
theorem RdAt.puts {b z : Nat} {ao : Option Addr} {n cap : Nat} {s : PS} {w w' : World} (h : RdAt b ao n cap s w) (p : Put z w w') (hz : z ≠ b) : RdAt b ao n cap s w' := (p.rest b (Ne.symm hz)).trans h
theorem EyAt.puts {b z : Nat} {ao : Option Addr} {n cap : Nat} {s : PS} {w w' : World} (h : EyAt b ao n cap s w) (p : Put z w w') (hz : z ≠ b) : EyAt b ao n cap s w' := (p.rest b (Ne.symm hz)).trans h
theorem Own.puts {y z : Nat} {cs : List Value} {t : TypeId} {w w' : World} (h : Own y cs t w) (p : Put z w w') (hz : y ≠ z) : Own y cs t w' := (p.rest y hz).trans h

/-- The cells of a block with some of them laid anew from o on. -/
def laid (cs : List Value) (o : Nat) (vs : List Value) : List Value := cs.take o ++ vs ++ cs.drop (o + vs.length)
theorem Own.setCells {z : Nat} {t : TypeId} : ∀ (vs : List Value) (o : Nat) (cs : List Value) (w : World), Own z cs t w → o + vs.length ≤ cs.length → Own z (laid cs o vs) t (w.setCells z o vs)
  | [], o, cs, w, h, _ => by
    have e : laid cs o [] = cs := by simp [laid]
    rw [e]; exact h
  | v :: r, o, cs, w, h, hl => by
    simp only [List.length_cons] at hl
    have h1 : Own z (cs.set o v) t (w.setCell ⟨z, o, none⟩ v) := by
      unfold Own at *
      simp [World.setCell, Array.getElem?_modify, h]
    have h2 := Own.setCells r (o + 1) (cs.set o v) _ h1 (by simp; omega)
    have e : laid (cs.set o v) (o + 1) r = laid cs o (v :: r) := by
      have ho : o < cs.length := by omega
      unfold laid
      apply List.ext_getElem?
      intro i
      simp only [List.getElem?_append, List.length_append, List.length_take, List.length_set, List.length_cons, List.getElem?_take, List.getElem?_drop, List.getElem?_set]
      have m1 : min (o + 1) cs.length = o + 1 := by omega
      have m2 : min o cs.length = o := by omega
      rw [m1, m2]
      by_cases c1 : i < o
      · simp [c1, show i < o + 1 by omega, show i < o + 1 + r.length by omega, show i < o + (r.length + 1) by omega, show ¬ o = i by omega]
      · by_cases c2 : i = o
        · subst c2
          simp [show i < i + 1 + r.length by omega, ho]
        · by_cases c3 : i < o + 1 + r.length
          · obtain ⟨d, rfl⟩ : ∃ d, i = o + 1 + d := ⟨i - (o + 1), by omega⟩
            simp [c3, show o + 1 + d < o + (r.length + 1) by omega, show ¬ (o + 1 + d < o) by omega, show o + 1 + d - (o + 1) = d by omega, show o + 1 + d - o = d + 1 by omega, show ¬ (o + 1 + d < o + 1) by omega]
          · simp [c3, c1, show ¬ (i < o + (r.length + 1)) by omega, show ¬ (i < o + 1) by omega]
            rw [if_neg (by omega)]
            congr 1
            omega
    rw [e] at h2
    exact h2
theorem laid_all (cs vs : List Value) (h : vs.length = cs.length) : laid cs 0 vs = vs := by unfold laid; simp [h]

section
variable {P : Program} {ops : Array Oper} {rest : List Oper} {o : Oper} {a : Act} {w : World} {Q : Exit → Act → World → Prop}
/-- A variable made. -/
theorem wpList_var (hgd : o.guard = none) (t : TypeId) (ho : o.op = .alloc t) (cs : List Value) (v : Value) (hv : v.cells = cs.toArray) (hi : (P.info? t).map (·.zero) = some (some v))
    (h : ∀ z w', z = w.heap.size → w'.heap.size = w.heap.size + 1 → Own z cs t w' → Below w.heap.size w w' → wpList P ops Q rest (a.put o.dst (.pointer (some ⟨z, 0, none⟩))) w') : wpList P ops Q (o :: rest) a w :=
  wpList_plain hgd fun K hK => by
    have hz : ∀ u, (zeroValue t).run P u = .ok v u := fun u => by
      cases hq : P.info? t with
      | none => simp [hq] at hi
      | some i => simp [hq] at hi; simp [zeroValue, typeInfo, hq, hi]
    unfold Oper.wp execOp
    simp only [ho, Instr.alloc, Sem.run_bind, hz, newVar, newRow, newObj, hv]
    have key := h w.heap.size (w.alloc (.cells cs.toArray t)) rfl (by simp) (heap_alloc_new w _) (Joins.below_alloc1 w _)
    rw [← hv] at key
    exact hK _ _ key
/-- A whole struct loaded out of a block, from cell p on. -/
theorem wpList_out (hgd : o.guard = none) (ty : TypeId) (x : Operand) (ho : o.op = .load ty x) (z p : Nat) (hx : a.eval x = .pointer (some ⟨z, p, none⟩)) {cs : List Value} {t : TypeId} (hz : Own z cs t w) (vs : List Value) (hvs : (cs.drop p).take vs.length = vs)
    (d : TypeDesc) (hu : P.underlying ty = some d) (hd : d.isRow = true) (hi : (P.info? ty).map (·.size) = some vs.length)
    (h : wpList P ops Q rest (a.put o.dst (.agg vs.toArray)) w) : wpList P ops Q (o :: rest) a w :=
  wpList_load_mid hgd ty x ho z p hx vs d (fun j v hj => by
    rw [hz.cell]
    have hl : j < vs.length := (List.getElem?_eq_some_iff.1 hj).1
    rw [← hvs, List.getElem?_take, if_pos hl, List.getElem?_drop] at hj
    exact hj) hu hd hi h
/-- A whole struct stored. -/
theorem wpList_in (hgd : o.guard = none) (ty : TypeId) (x y : Operand) (ho : o.op = .store ty x y) (z p : Nat) (vs : List Value) (hx : a.eval x = .pointer (some ⟨z, p, none⟩)) (hy : a.eval y = .agg vs.toArray) {cs : List Value} {t : TypeId} (hz : Own z cs t w)
    (hl : p + vs.length ≤ cs.length) (hi : (P.info? ty).map (·.size) = some vs.length) (h1 : ∀ v ∈ vs, v.oneCell' = true) (cs' : List Value) (hcs : laid cs p vs = cs')
    (h : ∀ w', Own z cs' t w' → Put z w w' → wpList P ops Q rest (a.put o.dst undef) w') : wpList P ops Q (o :: rest) a w :=
  wpList_store_mid hgd ty x y ho z p vs.toArray hx hy (by simpa using hz.there p vs.length hl) (by simpa using hi) (all_oneCell_toArray h1)
    (h _ (hcs ▸ Own.setCells vs p cs w hz hl) (Put.setCells vs p w))
/-- One cell stored. -/
theorem wpList_in1 (hgd : o.guard = none) (ty : TypeId) (x y : Operand) (ho : o.op = .store ty x y) (z p : Nat) (v : Value) (hx : a.eval x = .pointer (some ⟨z, p, none⟩)) (hy : a.eval y = v) {cs : List Value} {t : TypeId} (hz : Own z cs t w)
    (hl : p < cs.length) (hi : (P.info? ty).map (·.size) = some 1) (h1 : v.oneCell' = true) (cs' : List Value) (hcs : laid cs p [v] = cs')
    (h : ∀ w', Own z cs' t w' → Put z w w' → wpList P ops Q rest (a.put o.dst undef) w') : wpList P ops Q (o :: rest) a w :=
  wpList_plain hgd fun K hK => by
    have hc : (storeVar ty ⟨z, p, none⟩ v).run P w = .ok () (w.setCells z p [v]) := by
      have hh := run_storeCells_cells (P := P) z p [v] 0 w (fun j hj => (hz.there p 1 (by omega) j (by simpa using hj)).1) (fun j hj => (hz.there p 1 (by omega) j (by simpa using hj)).2) (fun u hu => by rw [List.mem_singleton.1 hu]; exact h1)
      have hcl : v.cells = #[v] := by cases v <;> first | rfl | (simp [Value.oneCell'] at h1)
      cases hq : P.info? ty with
      | none => simp [hq] at hi
      | some i =>
        have hs : i.size = 1 := by simpa [hq] using hi
        simp only [Nat.add_zero] at hh
        simp [storeVar, sizeOf, typeInfo, hq, hcl, hs, hh]
    unfold Oper.wp execOp
    simp only [ho, hx, hy, Instr.storeAt, Instr.sureAddr, Sem.run_bind, Sem.run_pure, Result.andThen_ok, hc]
    exact hK _ _ (h _ (hcs ▸ Own.setCells [v] p cs w hz hl) (Put.setCells [v] p w))
end
/-- What a function returns out of its result's block. -/
theorem ret_own {P : Program} {fn : Func} {R : Ending → World → Prop} {a : Act} {w : World} {p : Tmp} {ty : TypeId} {z : Nat} {cs : List Value} {t : TypeId} (hres : fn.results = #[.cell p ty]) (hp : a.tmps.getD p undef = .pointer (some ⟨z, 0, none⟩)) (hz : Own z cs t w)
    (d : TypeDesc) (hu : P.underlying ty = some d) (hd : (match d with | .struct _ | .array _ _ => true | _ => false) = true) (hi : (P.info? ty).map (·.size) = some cs.length) (hdf : a.defers = []) (hR : R (.returned (.agg cs.toArray)) w) : bodyPost P fn R .ret a w :=
  bodyPost_ret (results_cell_row hres a.tmps w z t cs.toArray (0, 0) d hp hz hu hd (by simpa using hi)) hdf hR

/-- Blocks from lo on, ahead of hi. -/
def rng (lo hi : Nat) : Nat → Prop := fun k => lo ≤ k ∧ k < hi
theorem Same.rng_but {lo hi b : Nat} {w w' : World} (h : But b w w') (hb : b < lo) : Same (rng lo hi) (rng lo hi) w w' := ⟨h.size, fun k hk hlt => ⟨hk, h.rest k hlt (by have := hk.1; omega)⟩⟩
theorem Same.rng_put {lo hi z : Nat} {w w' : World} (h : Put z w w') (hz : z < lo ∨ hi ≤ z) : Same (rng lo hi) (rng lo hi) w w' := ⟨Nat.le_of_eq h.size.symm, fun k hk hlt => ⟨hk, h.rest k (by rcases hk with ⟨h1, h2⟩; omega)⟩⟩
theorem Same.rng_wide {lo hi lo' hi' : Nat} {w : World} (h1 : lo' ≤ lo) (h2 : hi ≤ hi') : Same (rng lo hi) (rng lo' hi') w w := ⟨Nat.le_refl _, fun k hk _ => ⟨⟨by have := hk.1; omega, by have := hk.2; omega⟩, rfl⟩⟩
end Go.Proofs.YtobnaokknkmlcaaDoor
