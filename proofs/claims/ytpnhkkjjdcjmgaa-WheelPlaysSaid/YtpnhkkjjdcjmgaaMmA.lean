/-
  A function's own memory in walks. Printed by mklib.py out of the texts of src9.
-/
import Derived.Test.YtpnhkkjjdcjmgaaMmD
import Derived.Laws.Rows
import Derived.Deep.MidRow
import Derived.Great.BuildSlice
namespace Go.Proofs.Ytpnhkkjjdcjmgaa
open Go.RowKit
set_option linter.unusedVariables false
set_option linter.unusedSimpArgs false


/-- A block holds just these cells. -/
def Own (z : Nat) (cs : List Value) (t : TypeId) (w : World) : Prop := w.heap[z]? = some (.cells cs.toArray t (0, 0))
theorem Own.lt {z : Nat} {cs : List Value} {t : TypeId} {w : World} (h : Own z cs t w) : z < w.heap.size := (Array.getElem?_eq_some_iff.1 h).1
theorem Own.cell {z : Nat} {cs : List Value} {t : TypeId} {w : World} (h : Own z cs t w) (i : Nat) : w.cell? ⟨z, i, none⟩ = cs[i]? := by
  rw [Lib.cell_of_heap h]; simp
theorem Own.frozen {z : Nat} {cs : List Value} {t : TypeId} {w : World} (h : Own z cs t w) (i : Nat) : w.frozen? ⟨z, i, none⟩ = false := Lib.frozen_of_heap h i
theorem Own.but {z : Nat} {cs : List Value} {t : TypeId} {b : Nat} {w w' : World} (h : Own z cs t w) (hb : But b w w') (hz : z ≠ b) : Own z cs t w' := (hb.rest z h.lt hz).trans h
theorem Own.below {z : Nat} {cs : List Value} {t : TypeId} {w w' : World} (h : Own z cs t w) (hb : Below w.heap.size w w') : Own z cs t w' := (hb.block z h.lt).trans h
theorem Own.range {z : Nat} {cs : List Value} {t : TypeId} {w : World} (h : Own z cs t w) : w.rangeAt z 0 cs := fun j v hv => by rw [Nat.zero_add, h.cell]; exact hv
theorem Own.there {z : Nat} {cs : List Value} {t : TypeId} {w : World} (h : Own z cs t w) (o n : Nat) (hn : o + n ≤ cs.length) : w.there z o n := fun j hj => by
  rw [h.cell, h.frozen, List.getElem?_eq_getElem (by omega)]; exact ⟨rfl, rfl⟩

/-- Nothing but the block z has turned. -/
structure Put (z : Nat) (w w' : World) : Prop where
  os : w'.os = w.os
  tape : w'.tape = w.tape
  output : w'.output = w.output
  size : w'.heap.size = w.heap.size
  rest : ∀ k, k ≠ z → w'.heap[k]? = w.heap[k]?
theorem Put.setCells {z : Nat} : ∀ (vs : List Value) (o : Nat) (w : World), Put z w (w.setCells z o vs)
  | [], _, _ => ⟨rfl, rfl, rfl, rfl, fun _ _ => rfl⟩
  | v :: r, o, w => by
    have h := Put.setCells (z := z) r (o + 1) (w.setCell ⟨z, o, none⟩ v)
    exact ⟨h.os, h.tape, h.output, h.size.trans (by simp), fun k hk => (h.rest k hk).trans (Below.heap_setCell _ _ _ _ hk)⟩
theorem Put.below {z B : Nat} {w w' : World} (h : Put z w w') (hz : B ≤ z) : Below B w w' := ⟨h.os, h.tape, h.output, Nat.le_of_eq h.size.symm, fun k hk => h.rest k (by omega)⟩
theorem But.puts {b z : Nat} {u w w' : World} (h : But b u w) (p : Put z w w') (hz : u.heap.size ≤ z) (hb : b < u.heap.size) : But b u w' :=
  ⟨h.below.trans (p.below (by omega)), fun k hk hkb => (p.rest k (by omega)).trans (h.rest k hk hkb)⟩
theorem But.news {b : Nat} {u w w' : World} (h : But b u w) (p : Below w.heap.size w w') (hb : b < u.heap.size) : But b u w' := h.step p (by have := h.size; omega)
theorem Own.puts {y z : Nat} {cs : List Value} {t : TypeId} {w w' : World} (h : Own y cs t w) (p : Put z w w') (hz : y ≠ z) : Own y cs t w' := (p.rest y hz).trans h

/-- The cells of a block with some of them laid anew from o on. -/
def laid (cs : List Value) (o : Nat) (vs : List Value) : List Value := cs.take o ++ vs ++ cs.drop (o + vs.length)
theorem Own.setCells {z : Nat} {t : TypeId} : ∀ (vs : List Value) (o : Nat) (cs : List Value) (w : World), Own z cs t w → o + vs.length ≤ cs.length → Own z (laid cs o vs) t (w.setCells z o vs)
  | [], o, cs, w, h, _ => by
    have e : laid cs o [] = cs := by simp [laid]
    rw [e]; exact h
  | v :: r, o, cs, w, h, hl => by
    simp only [List.length_cons] at hl
    have h1 : Own z (cs.set o v) t (w.setCell ⟨z, o, none⟩ v) := by
      unfold Own at *
      simp [World.setCell, Array.getElem?_modify, h]
    have h2 := Own.setCells r (o + 1) (cs.set o v) _ h1 (by simp; omega)
    have e : laid (cs.set o v) (o + 1) r = laid cs o (v :: r) := by
      have ho : o < cs.length := by omega
      unfold laid
      apply List.ext_getElem?
      intro i
      simp only [List.getElem?_append, List.length_append, List.length_take, List.length_set, List.length_cons, List.getElem?_take, List.getElem?_drop, List.getElem?_set]
      have m1 : min (o + 1) cs.length = o + 1 := by omega
      have m2 : min o cs.length = o := by omega
      rw [m1, m2]
      by_cases c1 : i < o
      · simp [c1, show i < o + 1 by omega, show i < o + 1 + r.length by omega, show i < o + (r.length + 1) by omega, show ¬ o = i by omega]
      · by_cases c2 : i = o
        · subst c2
          simp [show i < i + 1 + r.length by omega, ho]
        · by_cases c3 : i < o + 1 + r.length
          · obtain ⟨d, rfl⟩ : ∃ d, i = o + 1 + d := ⟨i - (o + 1), by omega⟩
            simp [c3, show o + 1 + d < o + (r.length + 1) by omega, show ¬ (o + 1 + d < o) by omega, show o + 1 + d - (o + 1) = d by omega, show o + 1 + d - o = d + 1 by omega, show ¬ (o + 1 + d < o + 1) by omega]
          · simp [c3, c1, show ¬ (i < o + (r.length + 1)) by omega, show ¬ (i < o + 1) by omega]
            rw [if_neg (by omega)]
            congr 1
            omega
    rw [e] at h2
    exact h2
theorem laid_all (cs vs : List Value) (h : vs.length = cs.length) : laid cs 0 vs = vs := by unfold laid; simp [h]

section
variable {P : Program} {ops : Array Oper} {rest : List Oper} {o : Oper} {a : Act} {w : World} {Q : Exit → Act → World → Prop}
/-- A variable made. -/
theorem wpList_var (hgd : o.guard = none) (t : TypeId) (ho : o.op = .alloc t) (cs : List Value) (v : Value) (hv : v.cells = cs.toArray) (hi : (P.info? t).map (·.zero) = some (some v))
    (h : ∀ z w', z = w.heap.size → w'.heap.size = w.heap.size + 1 → Own z cs t w' → Below w.heap.size w w' → wpList P ops Q rest (a.put o.dst (.pointer (some ⟨z, 0, none⟩))) w') : wpList P ops Q (o :: rest) a w :=
  wpList_plain hgd fun K hK => by
    have hz : ∀ u, (zeroValue t).run P u = .ok v u := fun u => by
      cases hq : P.info? t with
      | none => simp [hq] at hi
      | some i => simp [hq] at hi; simp [zeroValue, typeInfo, hq, hi]
    unfold Oper.wp execOp
    simp only [ho, Instr.alloc, Sem.run_bind, hz, newVar, newRow, newObj, hv]
    have key := h w.heap.size (w.alloc (.cells cs.toArray t)) rfl (by simp) (heap_alloc_new w _) (Joins.below_alloc1 w _)
    rw [← hv] at key
    exact hK _ _ key
/-- A whole struct loaded out of a block, from cell p on. -/
theorem wpList_out (hgd : o.guard = none) (ty : TypeId) (x : Operand) (ho : o.op = .load ty x) (z p : Nat) (hx : a.eval x = .pointer (some ⟨z, p, none⟩)) {cs : List Value} {t : TypeId} (hz : Own z cs t w) (vs : List Value) (hvs : (cs.drop p).take vs.length = vs)
    (d : TypeDesc) (hu : P.underlying ty = some d) (hd : d.isRow = true) (hi : (P.info? ty).map (·.size) = some vs.length)
    (h : wpList P ops Q rest (a.put o.dst (.agg vs.toArray)) w) : wpList P ops Q (o :: rest) a w :=
  wpList_load_mid hgd ty x ho z p hx vs d (fun j v hj => by
    rw [hz.cell]
    have hl : j < vs.length := (List.getElem?_eq_some_iff.1 hj).1
    rw [← hvs, List.getElem?_take, if_pos hl, List.getElem?_drop] at hj
    exact hj) hu hd hi h
/-- A whole struct stored. -/
theorem wpList_in (hgd : o.guard = none) (ty : TypeId) (x y : Operand) (ho : o.op = .store ty x y) (z p : Nat) (vs : List Value) (hx : a.eval x = .pointer (some ⟨z, p, none⟩)) (hy : a.eval y = .agg vs.toArray) {cs : List Value} {t : TypeId} (hz : Own z cs t w)
    (hl : p + vs.length ≤ cs.length) (hi : (P.info? ty).map (·.size) = some vs.length) (h1 : ∀ v ∈ vs, v.oneCell' = true) (cs' : List Value) (hcs : laid cs p vs = cs')
    (h : ∀ w', Own z cs' t w' → Put z w w' → wpList P ops Q rest (a.put o.dst undef) w') : wpList P ops Q (o :: rest) a w :=
  wpList_store_mid hgd ty x y ho z p vs.toArray hx hy (by simpa using hz.there p vs.length hl) (by simpa using hi) (all_oneCell_toArray h1)
    (h _ (hcs ▸ Own.setCells vs p cs w hz hl) (Put.setCells vs p w))
/-- One cell stored. -/
theorem wpList_in1 (hgd : o.guard = none) (ty : TypeId) (x y : Operand) (ho : o.op = .store ty x y) (z p : Nat) (v : Value) (hx : a.eval x = .pointer (some ⟨z, p, none⟩)) (hy : a.eval y = v) {cs : List Value} {t : TypeId} (hz : Own z cs t w)
    (hl : p < cs.length) (hi : (P.info? ty).map (·.size) = some 1) (h1 : v.oneCell' = true) (cs' : List Value) (hcs : laid cs p [v] = cs')
    (h : ∀ w', Own z cs' t w' → Put z w w' → wpList P ops Q rest (a.put o.dst undef) w') : wpList P ops Q (o :: rest) a w :=
  wpList_plain hgd fun K hK => by
    have hc : (storeVar ty ⟨z, p, none⟩ v).run P w = .ok () (w.setCells z p [v]) := by
      have hh := run_storeCells_cells (P := P) z p [v] 0 w (fun j hj => (hz.there p 1 (by omega) j (by simpa using hj)).1) (fun j hj => (hz.there p 1 (by omega) j (by simpa using hj)).2) (fun u hu => by rw [List.mem_singleton.1 hu]; exact h1)
      have hcl : v.cells = #[v] := by cases v <;> first | rfl | (simp [Value.oneCell'] at h1)
      cases hq : P.info? ty with
      | none => simp [hq] at hi
      | some i =>
        have hs : i.size = 1 := by simpa [hq] using hi
        simp only [Nat.add_zero] at hh
        simp [storeVar, sizeOf, typeInfo, hq, hcl, hs, hh]
    unfold Oper.wp execOp
    simp only [ho, hx, hy, Instr.storeAt, Instr.sureAddr, Sem.run_bind, Sem.run_pure, Result.andThen_ok, hc]
    exact hK _ _ (h _ (hcs ▸ Own.setCells [v] p cs w hz hl) (Put.setCells [v] p w))
end
/-- What a function returns out of its result's block. -/
theorem ret_own {P : Program} {fn : Func} {R : Ending → World → Prop} {a : Act} {w : World} {p : Tmp} {ty : TypeId} {z : Nat} {cs : List Value} {t : TypeId} (hres : fn.results = #[.cell p ty]) (hp : a.tmps.getD p undef = .pointer (some ⟨z, 0, none⟩)) (hz : Own z cs t w)
    (d : TypeDesc) (hu : P.underlying ty = some d) (hd : (match d with | .struct _ | .array _ _ => true | _ => false) = true) (hi : (P.info? ty).map (·.size) = some cs.length) (hdf : a.defers = []) (hR : R (.returned (.agg cs.toArray)) w) : bodyPost P fn R .ret a w :=
  bodyPost_ret (results_cell_row hres a.tmps w z t cs.toArray (0, 0) d hp hz hu hd (by simpa using hi)) hdf hR

/-- Blocks from lo on, ahead of hi. -/
def rng (lo hi : Nat) : Nat → Prop := fun k => lo ≤ k ∧ k < hi
theorem Same.rng_but {lo hi b : Nat} {w w' : World} (h : But b w w') (hb : b < lo) : Same (rng lo hi) (rng lo hi) w w' := ⟨h.size, fun k hk hlt => ⟨hk, h.rest k hlt (by have := hk.1; omega)⟩⟩
theorem Same.rng_put {lo hi z : Nat} {w w' : World} (h : Put z w w') (hz : z < lo ∨ hi ≤ z) : Same (rng lo hi) (rng lo hi) w w' := ⟨Nat.le_of_eq h.size.symm, fun k hk hlt => ⟨hk, h.rest k (by rcases hk with ⟨h1, h2⟩; omega)⟩⟩
theorem Same.rng_wide {lo hi lo' hi' : Nat} {w : World} (h1 : lo' ≤ lo) (h2 : hi ≤ hi') : Same (rng lo hi) (rng lo' hi') w w := ⟨Nat.le_refl _, fun k hk _ => ⟨⟨by have := hk.1; omega, by have := hk.2; omega⟩, rfl⟩⟩


/-- What is owned: a block, if it is one; what is said of it, the data's blocks given. -/
structure Ent where
  blk : Nat → Prop
  say : (Nat → Prop) → World → Prop
def own (z : Nat) (cs : List Value) (t : TypeId) : Ent := ⟨fun y => some z = some y, fun _ w => Own z cs t w⟩
def slc {α : Type} (B : Nat) (e k : Nat) (R : (Nat → Prop) → World → List Value → α → Prop) (o : Value) (xs : List α) : Ent := ⟨fun y => o.ownBlock = some y, fun F w => OwnF F B w e k R o xs⟩
def dat (G : (Nat → Prop) → World → Prop) : Ent := ⟨fun y => (none : Option Nat) = some y, G⟩
def Ent.firm (e : Ent) : Prop := ∀ F G w w', w.heap.size ≤ w'.heap.size → (∀ k, k < w.heap.size → F k → G k ∧ w'.heap[k]? = w.heap[k]?) → (∀ z, e.blk z → z < w.heap.size → w'.heap[z]? = w.heap[z]?) → (∀ z, e.blk z → z < w.heap.size) → e.say F w → e.say G w'
def Ent.apart (e f : Ent) : Prop := ∀ z, e.blk z → ¬ f.blk z
theorem Ent.apart.symm {e f : Ent} (h : e.apart f) : f.apart e := fun z hf he => h z he hf
theorem own_firm (z : Nat) (cs : List Value) (t : TypeId) : (own z cs t).firm := fun F G w w' _ _ hz hlt h => (hz z rfl (hlt z rfl)).trans h
theorem slc_firm {α : Type} {B e k : Nat} {R : (Nat → Prop) → World → List Value → α → Prop} (hR : Firm R) (o : Value) (xs : List α) : (slc B e k R o xs).firm := fun F G w w' hsz hF hz hlt h => by
  obtain ⟨rs, h1, h2⟩ := h
  refine ⟨rs, owns_same h1 (fun g hg hlt => hz g hg hlt), fun i hi => ?_⟩
  obtain ⟨row, h3, h4, h5⟩ := h2 i hi
  exact ⟨row, h3, h4, hR _ _ _ _ _ _ ⟨hsz, fun k hk hkl => ⟨⟨(hF k hkl hk.1).1, hk.2⟩, (hF k hkl hk.1).2⟩⟩ h5⟩
/-- Data that stay where their blocks do not turn. -/
def FirmD (G : (Nat → Prop) → World → Prop) : Prop := ∀ F F' w w', Same F F' w w' → G F w → G F' w'
theorem dat_firm {G : (Nat → Prop) → World → Prop} (h : FirmD G) : (dat G).firm := fun F F' w w' hsz hF _ _ hG => h F F' w w' ⟨hsz, fun k hk hlt => hF k hlt hk⟩ hG

def free_ (u w : World) (L : List Ent) : Nat → Prop := fun k => u.heap.size ≤ k ∧ k < w.heap.size ∧ ∀ e ∈ L, ¬ e.blk k

/-- The reader (or eye) at block b; what is owned, all of it made since u. -/
structure Mem (At : PS → World → Prop) (b : Nat) (u w : World) (s : PS) (L : List Ent) : Prop where
  at_ : At s w
  stay : ∀ s w w', w'.heap[b]? = w.heap[b]? → At s w → At s w'
  but : But b u w
  lt : b < u.heap.size
  say : ∀ e ∈ L, e.say (free_ u w L) w
  firm : ∀ e ∈ L, e.firm
  low : ∀ e ∈ L, ∀ z, e.blk z → u.heap.size ≤ z ∧ z < w.heap.size
  apart : L.Pairwise Ent.apart

section
variable {At : PS → World → Prop} {b : Nat} {u w w' : World} {s s' : PS} {L : List Ent}
theorem Mem.perm {L' : List Ent} (M : Mem At b u w s L) (h : L.Perm L') : Mem At b u w s L' := by
  have hf : free_ u w L = free_ u w L' := by
    funext k; unfold free_
    exact propext ⟨fun ⟨h1, h2, h3⟩ => ⟨h1, h2, fun e he => h3 e (h.mem_iff.2 he)⟩, fun ⟨h1, h2, h3⟩ => ⟨h1, h2, fun e he => h3 e (h.mem_iff.1 he)⟩⟩
  exact ⟨M.at_, M.stay, M.but, M.lt, fun e he => hf ▸ M.say e (h.mem_iff.2 he), fun e he => M.firm e (h.mem_iff.2 he), fun e he => M.low e (h.mem_iff.2 he), (h.pairwise_iff (fun {x y} hxy => Ent.apart.symm hxy)).1 M.apart⟩
theorem Mem.frame {A A' K : List Ent} (M : Mem At b u w s (A ++ K)) (hat : At s' w') (hbut : But b u w') (hsz : w.heap.size ≤ w'.heap.size)
    (hK : ∀ k, k < w.heap.size → k ≠ b → (∀ e ∈ A, ¬ e.blk k) → w'.heap[k]? = w.heap[k]?)
    (hf : ∀ e ∈ A', e.firm) (hl : ∀ e ∈ A', ∀ z, e.blk z → u.heap.size ≤ z ∧ z < w'.heap.size) (hn : ∀ e ∈ A', ∀ z, e.blk z → w.heap.size ≤ z ∨ ∃ a ∈ A, a.blk z)
    (hp : A'.Pairwise Ent.apart) (hs : ∀ G : Nat → Prop, (∀ k, free_ u w (A ++ K) k → G k) → (∀ k, w.heap.size ≤ k → k < w'.heap.size → (∀ e ∈ A', ¬ e.blk k) → G k) → (∀ k, (∃ e ∈ A, e.blk k) → (∀ e ∈ A', ¬ e.blk k) → G k) → ∀ e ∈ A', e.say G w') : Mem At b u w' s' (A' ++ K) := by
  obtain ⟨pA, pK, pAK⟩ := List.pairwise_append.1 M.apart
  have hfree : ∀ k, free_ u w (A ++ K) k → free_ u w' (A' ++ K) k := fun k hk => by
    refine ⟨hk.1, Nat.lt_of_lt_of_le hk.2.1 hsz, fun e he hek => ?_⟩
    rcases List.mem_append.1 he with h | h
    · rcases hn e h k hek with h1 | ⟨a, ha, hak⟩
      · have := hk.2.1; omega
      · exact hk.2.2 a (List.mem_append_left _ ha) hak
    · exact hk.2.2 e (List.mem_append_right _ h) hek
  refine ⟨hat, M.stay, hbut, M.lt, fun e he => ?_, fun e he => ?_, fun e he z hz => ?_, ?_⟩
  · rcases List.mem_append.1 he with h | h
    · refine hs _ hfree (fun k h1 h2 h3 => ⟨Nat.le_trans M.but.size h1, h2, fun f hf' hfk => ?_⟩) (fun k ⟨a, ha, hak⟩ h3 => ?_) e h
      · rcases List.mem_append.1 hf' with g | g
        · exact h3 f g hfk
        · have := (M.low f (List.mem_append_right _ g) k hfk).2; omega
      · have hlo := M.low a (List.mem_append_left _ ha) k hak
        refine ⟨hlo.1, Nat.lt_of_lt_of_le hlo.2 hsz, fun f hf' hfk => ?_⟩
        rcases List.mem_append.1 hf' with g | g
        · exact h3 f g hfk
        · exact pAK a ha f g k hak hfk
    · refine M.firm e (List.mem_append_right _ h) _ _ w w' hsz (fun k hk hF => ⟨hfree k hF, hK k hk (by have := hF.1; have := M.lt; omega) (fun a ha => hF.2.2 a (List.mem_append_left _ ha))⟩)
        (fun z hz hlt => hK z hlt (by have := (M.low e (List.mem_append_right _ h) z hz).1; have := M.lt; omega) (fun a ha hak => pAK a ha e h z hak hz)) (fun z hz => (M.low e (List.mem_append_right _ h) z hz).2) (M.say e (List.mem_append_right _ h))
  · rcases List.mem_append.1 he with h | h
    · exact hf e h
    · exact M.firm e (List.mem_append_right _ h)
  · rcases List.mem_append.1 he with h | h
    · exact hl e h z hz
    · exact ⟨(M.low e (List.mem_append_right _ h) z hz).1, Nat.lt_of_lt_of_le (M.low e (List.mem_append_right _ h) z hz).2 hsz⟩
  · refine List.pairwise_append.2 ⟨hp, pK, fun e he f hf' z hz hfz => ?_⟩
    rcases hn e he z hz with h1 | ⟨a, ha, hak⟩
    · have := (M.low f (List.mem_append_right _ hf') z hfz).2; omega
    · exact pAK a ha f hf' z hak hfz
theorem Mem.own_ {z : Nat} {cs : List Value} {t : TypeId} (M : Mem At b u w s L) (h : own z cs t ∈ L) : Own z cs t w := M.say _ h
theorem Mem.of_get {i : Nat} {e : Ent} (h : L[i]? = some e) : e ∈ L := List.mem_of_getElem? h
theorem set_split {i : Nat} {e : Ent} (e' : Ent) (h : L[i]? = some e) : ∃ A K, L = A ++ e :: K ∧ L.set i e' = A ++ e' :: K := by
  have hi : i < L.length := (List.getElem?_eq_some_iff.1 h).1
  obtain ⟨A, K, h1, h2, h3⟩ := List.exists_of_set (a' := e') hi
  have he : L[i] = e := (List.getElem?_eq_some_iff.1 h).2
  rw [he] at h1
  exact ⟨A, K, h1, h3⟩
/-- One entry turned, the world behind. -/
theorem Mem.setAt {i : Nat} {e e' : Ent} (M : Mem At b u w s L) (hi : L[i]? = some e) (hat : At s' w') (hbut : But b u w') (hsz : w.heap.size ≤ w'.heap.size)
    (hK : ∀ k, k < w.heap.size → k ≠ b → ¬ e.blk k → w'.heap[k]? = w.heap[k]?)
    (hf : e'.firm) (hl : ∀ z, e'.blk z → u.heap.size ≤ z ∧ z < w'.heap.size) (hn : ∀ z, e'.blk z → w.heap.size ≤ z ∨ e.blk z)
    (hs : ∀ G : Nat → Prop, (∀ k, free_ u w L k → G k) → (∀ k, e.blk k → ¬ e'.blk k → G k) → e'.say G w') : Mem At b u w' s' (L.set i e') := by
  obtain ⟨A, K, h1, h2⟩ := set_split e' hi
  rw [h2]
  have M1 : Mem At b u w s ([e] ++ (A ++ K)) := M.perm (h1 ▸ List.perm_middle)
  have hfr : ∀ k, free_ u w L k → free_ u w ([e] ++ (A ++ K)) k := fun k hk => ⟨hk.1, hk.2.1, fun f hf' => hk.2.2 f (by rw [h1]; simp only [List.mem_append, List.mem_cons, List.not_mem_nil, or_false] at hf' ⊢; rcases hf' with h | h | h <;> simp [h])⟩
  have M2 : Mem At b u w' s' ([e'] ++ (A ++ K)) := M1.frame hat hbut hsz (fun k hk hkb hA => hK k hk hkb (hA e (List.mem_singleton.2 rfl)))
    (fun f hf' => by rw [List.mem_singleton.1 hf']; exact hf) (fun f hf' => by rw [List.mem_singleton.1 hf']; exact hl) (fun f hf' z hz => by
      rw [List.mem_singleton.1 hf'] at hz
      rcases hn z hz with h | h
      · exact .inl h
      · exact .inr ⟨e, List.mem_singleton.2 rfl, h⟩)
    (List.pairwise_singleton _ _) (fun G hG1 hG2 hG3 f hf' => by
      rw [List.mem_singleton.1 hf']
      refine hs G (fun k hk => hG1 k (hfr k hk)) (fun k hk hk' => hG3 k ⟨e, List.mem_singleton.2 rfl, hk⟩ (fun g hg => by rw [List.mem_singleton.1 hg]; exact hk')))
  have h4 : (e' :: (A ++ K)).Perm (A ++ e' :: K) := List.perm_middle.symm
  exact M2.perm h4
/-- A new entry. -/
theorem Mem.push {e : Ent} (M : Mem At b u w s L) (hb : Below w.heap.size w w') (hf : e.firm) (hl : ∀ z, e.blk z → w.heap.size ≤ z ∧ z < w'.heap.size)
    (hs : ∀ G : Nat → Prop, (∀ k, w.heap.size ≤ k → k < w'.heap.size → ¬ e.blk k → G k) → e.say G w') : Mem At b u w' s (e :: L) := by
  have hbl : b < w.heap.size := Nat.lt_of_lt_of_le M.lt M.but.size
  have M2 : Mem At b u w' s ([e] ++ L) := Mem.frame (A := []) (by simpa using M) (M.stay s w w' (hb.block b hbl) M.at_) (M.but.news hb M.lt) hb.size (fun k hk _ _ => hb.block k hk)
    (fun f hf' => by rw [List.mem_singleton.1 hf']; exact hf) (fun f hf' z hz => by rw [List.mem_singleton.1 hf'] at hz; exact ⟨Nat.le_trans M.but.size (hl z hz).1, (hl z hz).2⟩) (fun f hf' z hz => by rw [List.mem_singleton.1 hf'] at hz; exact .inl (hl z hz).1)
    (List.pairwise_singleton _ _) (fun G _ hG2 _ f hf' => by
      rw [List.mem_singleton.1 hf']
      exact hs G (fun k h1 h2 h3 => hG2 k h1 h2 (fun g hg => by rw [List.mem_singleton.1 hg]; exact h3)))
  exact M2
/-- Fewer entries. -/
theorem Mem.drop {e : Ent} (M : Mem At b u w s (e :: L)) : Mem At b u w s L :=
  Mem.frame (A := [e]) (A' := []) M M.at_ M.but (Nat.le_refl _) (fun _ _ _ _ => rfl) (fun f hf => by cases hf) (fun f hf => by cases hf) (fun f hf => by cases hf) List.Pairwise.nil (fun G _ _ _ f hf => by cases hf)
/-- The world behind, nothing owned turned. -/
theorem Mem.step (M : Mem At b u w s L) (hat : At s' w') (hb : But b w w') : Mem At b u w' s' L :=
  Mem.frame (A := []) (A' := []) M hat (M.but.trans hb) hb.size (fun k hk hkb _ => hb.rest k hk hkb) (fun f hf => by cases hf) (fun f hf => by cases hf) (fun f hf => by cases hf) List.Pairwise.nil (fun G _ _ _ f hf => by cases hf)
theorem Mem.below (M : Mem At b u w s L) (hb : Below w.heap.size w w') : Mem At b u w' s L :=
  M.step (M.stay s w w' (hb.block b (Nat.lt_of_lt_of_le M.lt M.but.size)) M.at_) (But.of_below hb (Nat.le_of_lt (Nat.lt_of_lt_of_le M.lt M.but.size)))
theorem Mem.drew (M : Mem At b u w s L) : Mem At b u w.drew s L := M.below (Joins.below_draws _ _ 1)
theorem Mem.draws (M : Mem At b u w s L) (n : Nat) : Mem At b u (w.drewN n) s L := M.below (Joins.below_draws _ _ n)
/-- An entry said otherwise, in the same world. -/
theorem Mem.alter {i : Nat} {e : Ent} (e' : Ent) (M : Mem At b u w s L) (hi : L[i]? = some e) (hf : e'.firm) (hn : ∀ z, e'.blk z → e.blk z)
    (hs : ∀ F G : Nat → Prop, (∀ k, F k → G k) → (∀ k, e.blk k → ¬ e'.blk k → G k) → e.say F w → e'.say G w) : Mem At b u w s (L.set i e') :=
  M.setAt hi M.at_ M.but (Nat.le_refl _) (fun _ _ _ _ => rfl) hf (fun z hz => M.low e (Mem.of_get hi) z (hn z hz)) (fun z hz => .inr (hn z hz)) (fun G h1 h2 => hs _ G h1 h2 (M.say e (Mem.of_get hi)))
theorem Mem.turn {e : Ent} (e' : Ent) (M : Mem At b u w s (e :: L)) (hf : e'.firm) (hn : ∀ z, e'.blk z → e.blk z)
    (hs : ∀ F G : Nat → Prop, (∀ k, F k → G k) → (∀ k, e.blk k → ¬ e'.blk k → G k) → e.say F w → e'.say G w) : Mem At b u w s (e' :: L) := M.alter (i := 0) e' rfl hf hn hs
/-- Something that needs no block. -/
theorem Mem.plain (M : Mem At b u w s L) {G : (Nat → Prop) → World → Prop} (hG : FirmD G) (h : ∀ F, G F w) : Mem At b u w s (dat G :: L) :=
  M.push (Below.refl _ _) (dat_firm hG) (fun z hz => by cases hz) (fun F _ => h F)
theorem Mem.empty (hat : At s u) (hst : ∀ s w w', w'.heap[b]? = w.heap[b]? → At s w → At s w') (hlt : b < u.heap.size) : Mem At b u u s [] :=
  ⟨hat, hst, But.refl _ _, hlt, fun e he => (by cases he), fun e he => (by cases he), fun e he => (by cases he), List.Pairwise.nil⟩
theorem Mem.size (M : Mem At b u w s L) : u.heap.size ≤ w.heap.size := M.but.size
theorem Mem.ne {z : Nat} {cs : List Value} {t : TypeId} (M : Mem At b u w s L) (h : own z cs t ∈ L) : u.heap.size ≤ z ∧ z ≠ b ∧ z < w.heap.size := by
  have h1 := M.low _ h z rfl
  have h2 := M.lt
  exact ⟨h1.1, by omega, h1.2⟩
/-- A store into an owned block. -/
theorem Mem.put {i z : Nat} {cs cs' : List Value} {t : TypeId} (M : Mem At b u w s L) (hi : L[i]? = some (own z cs t)) (hp : Put z w w') (ho : Own z cs' t w') : Mem At b u w' s (L.set i (own z cs' t)) := by
  have h1 := M.ne (Mem.of_get hi)
  refine M.setAt hi (M.stay s w w' (hp.rest b (Ne.symm h1.2.1)) M.at_) (M.but.puts hp h1.1 M.lt) (Nat.le_of_eq hp.size.symm) (fun k _ _ hk => hp.rest k (fun e => hk (by rw [e]; rfl))) (own_firm _ _ _) (fun y hy => ?_) (fun y hy => .inr hy) (fun G _ _ => ho)
  have : z = y := by injection hy
  subst this
  exact ⟨h1.1, by rw [hp.size]; exact h1.2.2⟩
end

section
variable {P : Program} {ops : Array Oper} {rest : List Oper} {o : Oper} {a : Act} {Q : Exit → Act → World → Prop} {K : Act → World → Prop}
variable {At : PS → World → Prop} {b : Nat} {u w : World} {s : PS} {L : List Ent}
/-- A variable made. -/
theorem op_var (M : Mem At b u w s L) (t : TypeId) (ho : o.op = .alloc t) (cs : List Value) (v : Value) (hv : v.cells = cs.toArray) (hi : (P.info? t).map (·.zero) = some (some v))
    (h : ∀ z w', Mem At b u w' s (own z cs t :: L) → K (a.put o.dst (.pointer (some ⟨z, 0, none⟩))) w') : o.wp P a w K Q := by
  have hz : ∀ u, (zeroValue t).run P u = .ok v u := fun u => by
    cases hq : P.info? t with
    | none => simp [hq] at hi
    | some i => simp [hq] at hi; simp [zeroValue, typeInfo, hq, hi]
  unfold Oper.wp execOp
  simp only [ho, Instr.alloc, Sem.run_bind, hz, newVar, newRow, newObj, hv]
  have hlow : ∀ y, (own w.heap.size cs t).blk y → w.heap.size ≤ y ∧ y < (w.alloc (.cells cs.toArray t)).heap.size := fun y hy => by
    have e : w.heap.size = y := by injection hy
    subst e
    simp
  have key := h w.heap.size (w.alloc (.cells cs.toArray t)) (M.push (Joins.below_alloc1 w _) (own_firm _ _ _) hlow (fun G _ => heap_alloc_new w _))
  rw [← hv] at key
  exact key
/-- A struct loaded as a whole. -/
theorem op_all (M : Mem At b u w s L) (ty : TypeId) (x : Operand) (ho : o.op = .load ty x) (z : Nat) (hx : a.eval x = .pointer (some ⟨z, 0, none⟩)) {cs : List Value} {t : TypeId} {i : Nat} (hz : L[i]? = some (own z cs t))
    (d : TypeDesc) (hu : P.underlying ty = some d) (hd : d.isRow = true) {m : Nat} (hi : (P.info? ty).map (·.size) = some m) (hl : cs.length = m)
    (h : K (a.put o.dst (.agg cs.toArray)) w) : o.wp P a w K Q :=
  wp_load_mid ty x ho z 0 hx cs d ((M.own_ (Mem.of_get hz)).range) hu hd (by rw [hl]; exact hi) h
/-- A part of a struct loaded. -/
theorem op_part (M : Mem At b u w s L) (ty : TypeId) (x : Operand) (ho : o.op = .load ty x) (z p : Nat) (hx : a.eval x = .pointer (some ⟨z, p, none⟩)) {cs : List Value} {t : TypeId} {i : Nat} (hz : L[i]? = some (own z cs t))
    (d : TypeDesc) (hu : P.underlying ty = some d) (hd : d.isRow = true) {m : Nat} (hi : (P.info? ty).map (·.size) = some m) (vs : List Value) (hl : vs.length = m) (hvs : (cs.drop p).take m = vs)
    (h : K (a.put o.dst (.agg vs.toArray)) w) : o.wp P a w K Q :=
  wp_load_mid ty x ho z p hx vs d (fun j v hj => by
    rw [(M.own_ (Mem.of_get hz)).cell]
    have hlt : j < vs.length := (List.getElem?_eq_some_iff.1 hj).1
    rw [← hvs, List.getElem?_take, if_pos (by omega), List.getElem?_drop] at hj
    exact hj) hu hd (by rw [hl]; exact hi) h
theorem run_load_one {ty : TypeId} {p : Addr} {v : Value} {d : TypeDesc} (hu : P.underlying ty = some d) (hd : d.isRow = false) (hc : w.cell? p = some v) : (loadVar ty p).run P w = .ok v w := by
  have hagg : (isAgg ty).run P w = .ok false w := by
    unfold isAgg
    rw [Sem.run_bind, run_underlying hu w]
    cases d <;> simp_all
  simp [loadVar, Sem.run_bind, hagg, hc]
/-- One cell loaded. -/
theorem op_get (M : Mem At b u w s L) (ty : TypeId) (x : Operand) (ho : o.op = .load ty x) (z p : Nat) (hx : a.eval x = .pointer (some ⟨z, p, none⟩)) {cs : List Value} {t : TypeId} {i : Nat} (hz : L[i]? = some (own z cs t))
    (d : TypeDesc) (hu : P.underlying ty = some d) (hd : d.isRow = false) (v : Value) (hv : cs[p]? = some v) (h : K (a.put o.dst v) w) : o.wp P a w K Q := by
  unfold Oper.wp execOp
  simp only [ho, hx, Instr.loadAt, Instr.sureAddr, Sem.run_bind, Sem.run_pure, Result.andThen_ok, run_load_one hu hd ((M.own_ (Mem.of_get hz)).cell p |>.trans hv)]
  exact h
/-- A part of a struct stored. -/
theorem op_in (M : Mem At b u w s L) (ty : TypeId) (x y : Operand) (ho : o.op = .store ty x y) (z p : Nat) (vs : List Value) (hx : a.eval x = .pointer (some ⟨z, p, none⟩)) (hy : a.eval y = .agg vs.toArray) {cs : List Value} {t : TypeId} {i : Nat} (hz : L[i]? = some (own z cs t))
    {m : Nat} (hi : (P.info? ty).map (·.size) = some m) (hm : vs.length = m) (hl : p + m ≤ cs.length) (h1 : ∀ v ∈ vs, v.oneCell' = true)
    (h : ∀ w', Mem At b u w' s (L.set i (own z (laid cs p vs) t)) → K (a.put o.dst undef) w') : o.wp P a w K Q := by
  have hO := M.own_ (Mem.of_get hz)
  have hl' : p + vs.length ≤ cs.length := by omega
  exact wp_store_mid ty x y ho z p vs.toArray hx hy (by simpa using hO.there p vs.length hl') (by rw [List.size_toArray, hm]; exact hi) (all_oneCell_toArray h1)
    (h _ (M.put hz (Put.setCells vs p w) (Own.setCells vs p cs w hO hl')))
/-- A struct stored as a whole. -/
theorem op_put (M : Mem At b u w s L) (ty : TypeId) (x y : Operand) (ho : o.op = .store ty x y) (z : Nat) (vs : List Value) (hx : a.eval x = .pointer (some ⟨z, 0, none⟩)) (hy : a.eval y = .agg vs.toArray) {cs : List Value} {t : TypeId} {i : Nat} (hz : L[i]? = some (own z cs t))
    {m : Nat} (hi : (P.info? ty).map (·.size) = some m) (hm : vs.length = m) (hl : cs.length = m) (h1 : ∀ v ∈ vs, v.oneCell' = true)
    (h : ∀ w', Mem At b u w' s (L.set i (own z vs t)) → K (a.put o.dst undef) w') : o.wp P a w K Q :=
  op_in M ty x y ho z 0 vs hx hy hz hi hm (by omega) h1 (fun w' M' => h w' (by rw [laid_all cs vs (by omega)] at M'; exact M'))
/-- One cell stored. -/
theorem op_set (M : Mem At b u w s L) (ty : TypeId) (x y : Operand) (ho : o.op = .store ty x y) (z p : Nat) (v : Value) (hx : a.eval x = .pointer (some ⟨z, p, none⟩)) (hy : a.eval y = v) {cs : List Value} {t : TypeId} {i : Nat} (hz : L[i]? = some (own z cs t))
    (hi : (P.info? ty).map (·.size) = some 1) (hl : p < cs.length) (h1 : v.oneCell' = true)
    (h : ∀ w', Mem At b u w' s (L.set i (own z (cs.set p v) t)) → K (a.put o.dst undef) w') : o.wp P a w K Q := by
  have hO := M.own_ (Mem.of_get hz)
  have hc : (storeVar ty ⟨z, p, none⟩ v).run P w = .ok () (w.setCells z p [v]) := by
    have hh := run_storeCells_cells (P := P) z p [v] 0 w (fun j hj => (hO.there p 1 (by omega) j (by simpa using hj)).1) (fun j hj => (hO.there p 1 (by omega) j (by simpa using hj)).2) (fun u hu => by rw [List.mem_singleton.1 hu]; exact h1)
    have hcl : v.cells = #[v] := by cases v <;> first | rfl | (simp [Value.oneCell'] at h1)
    cases hq : P.info? ty with
    | none => simp [hq] at hi
    | some i =>
      have hs : i.size = 1 := by simpa [hq] using hi
      simp only [Nat.add_zero] at hh
      simp [storeVar, sizeOf, typeInfo, hq, hcl, hs, hh]
  have hlaid : laid cs p [v] = cs.set p v := by
    unfold laid
    rw [List.set_eq_take_append_cons_drop, if_pos hl]
    simp
  unfold Oper.wp execOp
  simp only [ho, hx, hy, Instr.storeAt, Instr.sureAddr, Sem.run_bind, Sem.run_pure, Result.andThen_ok, hc]
  refine h _ (M.put hz (Put.setCells [v] p w) ?_)
  have := Own.setCells [v] p cs w hO (by simp only [List.length_singleton]; omega)
  rw [hlaid] at this
  exact this
theorem fill_row : ∀ (row : List Value) (k : Nat) (init : List Value), k + row.length ≤ init.length → (row.zipIdx k).foldl (fun (cs : Array Value) (x : Value × Nat) => cs.setIfInBounds x.2 x.1) init.toArray = (init.take k ++ row ++ init.drop (k + row.length)).toArray
  | [], k, init, _ => by simp
  | v :: r, k, init, h => by
    simp only [List.length_cons] at h
    rw [List.zipIdx_cons, List.foldl_cons]
    simp only [List.setIfInBounds_toArray]
    rw [fill_row r (k + 1) (init.set k v) (by simp; omega)]
    congr 1
    have hk : k < init.length := by omega
    rw [List.set_eq_take_append_cons_drop, if_pos hk]
    have e1 : (List.take k init ++ v :: List.drop (k + 1) init).take (k + 1) = List.take k init ++ [v] := by
      rw [List.take_append]
      simp [Nat.min_eq_left (Nat.le_of_lt hk), List.take_take]
    have e2 : (List.take k init ++ v :: List.drop (k + 1) init).drop (k + 1 + r.length) = List.drop (k + (r.length + 1)) init := by
      rw [List.drop_append, List.drop_eq_nil_of_le (by simp; omega)]
      simp only [List.length_take, Nat.min_eq_left (Nat.le_of_lt hk), List.nil_append]
      rw [show k + 1 + r.length - k = r.length + 1 by omega, List.drop_succ_cons, List.drop_drop]
      congr 1
      omega
    rw [e1, e2]
    simp
theorem fill_one (m : Nat) (row : List Value) (init : Array Value) (hl : row.length = m) (hi : init.size = m) : Instr.fill (fun i => some (i * m, m)) init [(0, Value.agg row.toArray)] = some row.toArray := by
  simp only [Instr.fill, Nat.zero_mul, Value.cells, Nat.zero_add]
  rw [if_neg (by simp [hl, hi])]
  congr 1
  have hh := fill_row row 0 init.toList (by simp [hi, hl])
  simp only [List.take_zero, List.nil_append, Nat.zero_add, Array.toArray_toList] at hh
  rw [List.drop_eq_nil_of_le (by simp [hi, hl]), List.append_nil] at hh
  simpa using hh
/-- A slice of one row made. -/
theorem op_build (M : Mem At b u w s L) (t e : TypeId) (y : Operand) (ho : o.op = .buildSlice t 1 #[(0, y)]) (row : List Value) (hy : a.eval y = .agg row.toArray) (hu : P.underlying t = some (.slice e)) (ie : TypeInfo) (hie : P.info? e = some ie) (z : Value) (hz : ie.zero = some z)
    {m : Nat} (hsz : ie.size = m) (hpos : 0 < m) (hsmall : m ≤ 16777216) (hzs : z.cells.size = m) (hl : row.length = m)
    (h : ∀ q w', Mem At b u w' s (own q row e :: L) → K (a.put o.dst (.slice (some ⟨q, 0, none⟩) 1 1)) w') : o.wp P a w K Q := by
  have hf : Instr.fill (fun i => some (i * ie.size, ie.size)) ((Array.range (1 * ie.size)).map (z.cells[· % z.cells.size]!)) [(0, Value.agg row.toArray)] = some row.toArray :=
    fill_one _ row _ (by rw [hl, hsz]) (by simp)
  have hlow : ∀ y, (own w.heap.size row e).blk y → w.heap.size ≤ y ∧ y < (w.alloc (.cells row.toArray e)).heap.size := fun y hy => by
    have e : w.heap.size = y := by injection hy
    subst e
    simp
  exact wp_buildSlice t e 1 #[(0, y)] ho row.toArray ie z hu hie hz (by rw [hsz]; omega) (by rw [hsz]; omega) (by simpa [hy] using hf) (h w.heap.size _ (M.push (Joins.below_alloc1 w _) (own_firm _ _ _) hlow (fun G _ => heap_alloc_new w _)))
end


/-- A type of structs, of m cells; of one cell; of slices of rows of k cells. -/
structure StT (P : Program) (ty : TypeId) (m : Nat) : Prop where
  size : (P.info? ty).map (·.size) = some m
  row : ∃ d, P.underlying ty = some d ∧ d.isRow = true
structure OneT (P : Program) (ty : TypeId) : Prop where
  size : (P.info? ty).map (·.size) = some 1
  row : ∃ d, P.underlying ty = some d ∧ d.isRow = false
structure RowT (P : Program) (t e k : Nat) : Prop where
  und : P.underlying t = some (.slice e)
  zero : ∃ v, (P.info? e).map (·.zero) = some (some v) ∧ v.cells.size = k
  size : (P.info? e).map (·.size) = some k
  bytes : (P.info? e).map (fun i => decide (0 < i.bytes ∧ i.bytes ≤ 1000000)) = some true
  pos : 0 < k
  few : k ≤ 16777216
theorem RowT.open {P : Program} {t e k : Nat} (h : RowT P t e k) : P.underlying t = some (.slice e) ∧ ∃ i z, P.info? e = some i ∧ i.zero = some z ∧ i.size = k ∧ z.cells.size = k ∧ 0 < k ∧ k ≤ 16777216 ∧ 0 < i.bytes ∧ i.bytes ≤ 1000000 := by
  obtain ⟨h1, ⟨v, h2, h3⟩, h4, h5, h6, h7⟩ := h
  cases hq : P.info? e with
  | none => rw [hq] at h4; cases h4
  | some i =>
    rw [hq] at h2 h4 h5
    simp only [Option.map_some, Option.some.injEq, decide_eq_true_eq] at h2 h4 h5
    exact ⟨h1, i, v, rfl, h2, h4, h3, h6, h7, h5.1, h5.2⟩

section
variable {P : Program} {ops : Array Oper} {rest : List Oper} {o : Oper} {a : Act} {Q : Exit → Act → World → Prop} {K : Act → World → Prop}
variable {At : PS → World → Prop} {b : Nat} {u w : World} {s : PS} {L : List Ent}
theorem op_build1 (M : Mem At b u w s L) {t e k : Nat} (hT : RowT P t e k) (y : Operand) (ho : o.op = .buildSlice t 1 #[(0, y)]) (row : List Value) (hy : a.eval y = .agg row.toArray) (hl : row.length = k)
    (h : ∀ q w', Mem At b u w' s (own q row e :: L) → K (a.put o.dst (.slice (some ⟨q, 0, none⟩) 1 1)) w') : o.wp P a w K Q := by
  obtain ⟨h1, i, z, h2, h3, h4, h5, h6, h7, h8, h9⟩ := hT.open
  exact op_build M t e y ho row hy h1 i h2 z h3 h4 h6 h7 h5 hl h
/-- One row appended to an own slice. -/
theorem op_append {α : Type} {R : (Nat → Prop) → World → List Value → α → Prop} (hR : Firm R) (M : Mem At b u w s L) {t e k : Nat} (hT : RowT P t e k) (sl x : Operand) (ho : o.op = .call { callee := .builtin .append, args := #[sl, x], argTypes := #[t, t] }) (hty : o.type = t)
    (v : Value) (hs : a.eval sl = v) (q : Nat) (hx : a.eval x = .slice (some ⟨q, 0, none⟩) 1 1) {row : List Value} {te : TypeId} (hq : own q row te ∈ L) {i : Nat} {xs : List α} (hi : L[i]? = some (slc u.heap.size e k R v xs)) (y : α) (hy : R (free_ u w L) w row y)
    (hl : row.length = k) (h1 : ∀ c ∈ row, c.oneCell' = true) (hn : xs.length ≤ 100000000)
    (h : ∀ ra rc w', Mem At b u w' s (L.set i (slc u.heap.size e k R (.slice ra (xs.length + 1) rc) (xs ++ [y]))) → K (a.put o.dst (.slice ra (xs.length + 1) rc)) w') : o.wp P a w K Q := by
  obtain ⟨g1, ti, z, g2, g3, g4, g5, g6, g7, g8, g9⟩ := hT.open
  have hown : OwnF (free_ u w L) u.heap.size w e k R v xs := M.say _ (Mem.of_get hi)
  have hbase := hown.base
  have hown' := hown
  obtain ⟨rs, h3, h4⟩ := hown
  have hO := M.own_ hq
  have hoff : Same (free_ u w L) (off_ (free_ u w L) v) w w := Same.wide fun k hk _ => ⟨hk, fun e => hk.2.2 _ (Mem.of_get hi) e⟩
  obtain ⟨v', w', hrun, ho', hg, _, hob⟩ := run_append_own_at (P := P) w u.heap.size t t e ti z k ti.bytes g1 g2 g3 g4 rfl g5 g6 v xs.length rs h3 ⟨q, 0, none⟩ 1 1 row (by rw [hl, Nat.one_mul])
    (fun j c hj => by rw [Go.WideShapes.add_plain, Nat.zero_add, hO.cell]; exact hj) h1 (by unfold maxLen; omega) (Nat.le_trans (Nat.mul_le_mul_left _ g9) (by omega)) M.size
  refine wp_append_run sl x t ho hty hs hx hrun ?_
  have hO2 := OwnF.snoc hR h3 h4 hl (hR _ _ _ _ _ _ hoff hy) hg ho' hob
  obtain ⟨ra, rc, hv⟩ := hO2.slice
  rw [List.length_append] at hv
  simp only [List.length_cons, List.length_nil, Nat.zero_add] at hv
  subst hv
  have hbl : b < w.heap.size := Nat.lt_of_lt_of_le M.lt M.size
  have hne : v.ownBlock ≠ some b := fun e => by have := hbase b e; have := M.lt; omega
  have hbel : Below u.heap.size w w' := (Below.refl _ _).grown hg M.size hbase
  have hbut : But b w w' → But b u w' := fun hb => M.but.trans hb
  have hsame : ∀ k, k < w.heap.size → k ≠ b → v.ownBlock ≠ some k → w'.heap[k]? = w.heap[k]? := fun k hk _ hk' => hg.block k hk (fun e => hk' e.symm)
  have hb2 : But b u w' := ⟨(M.but.below).trans (hbel.mono (Nat.le_of_lt M.lt)), fun k hk hkb => by
    rw [hg.block k (Nat.lt_of_lt_of_le hk M.size) (fun e => by have := hbase k e.symm; omega)]
    exact M.but.rest k hk hkb⟩
  refine h ra rc w' (M.setAt hi (M.stay s w w' (hg.block b hbl (fun e => hne e.symm)) M.at_) hb2 hg.size hsame (slc_firm hR _ _) (fun y hy => ?_) (fun y hy => ?_) (fun G hG _ => ?_))
  · have hlt : ∀ g, (Value.slice ra (xs.length + 1) rc).ownBlock = some g → u.heap.size ≤ g ∧ g < w'.heap.size := fun g hg' => by
      rcases ho'.2 with ⟨e0, _⟩ | ⟨g0, cap, cur, e0, hge, hh, _⟩
      · rw [e0] at hg'; cases hg'
      · rw [e0] at hg'
        have e1 : g0 = g := by injection hg'
        subst e1
        exact ⟨hge, (Array.getElem?_eq_some_iff.1 hh).1⟩
    exact hlt y hy
  · rcases hob with h | h
    · exact .inr (h.symm.trans hy)
    · have e1 : some w.heap.size = some y := h.symm.trans hy
      injection e1 with e1
      exact .inl (by omega)
  · obtain ⟨rs2, k1, k2⟩ := hO2
    refine ⟨rs2, k1, fun i hi => ?_⟩
    obtain ⟨r, k3, k4, k5⟩ := k2 i hi
    exact ⟨r, k3, k4, hR _ _ _ _ _ _ (Same.wide fun k hk _ => ⟨hG k hk.1, hk.2⟩) k5⟩
/-- The return of what lies in an own block. -/
theorem mem_ret {fn : Func} {R : Ending → World → Prop} {p : Tmp} {ty : TypeId} {z : Nat} {cs : List Value} {t : TypeId} {i m : Nat} (M : Mem At b u w s L) (hres : fn.results = #[.cell p ty]) (hp : a.tmps.getD p undef = .pointer (some ⟨z, 0, none⟩)) (hz : L[i]? = some (own z cs t))
    (hT : StT P ty m) (hl : cs.length = m) (hdf : a.defers = []) (hR : R (.returned (.agg cs.toArray)) w) : bodyPost P fn R .ret a w := by
  obtain ⟨h1, d, h2, h3⟩ := hT
  exact ret_own hres hp (M.own_ (Mem.of_get hz)) d h2 (by cases d <;> simp_all) (by rw [hl]; exact h1) hdf hR
end

/-- What was made is read as data. -/
theorem Mem.done {α : Type} {R : (Nat → Prop) → World → List Value → α → Prop} (hR : Firm R) {At : PS → World → Prop} {b : Nat} {u w : World} {s : PS} {L : List Ent} {e k : Nat} (hk : 0 < k) {o : Value} {xs : List α} (M : Mem At b u w s (slc u.heap.size e k R o xs :: L)) :
    ∃ ao cap, o = .slice ao xs.length cap ∧ Mem At b u w s (dat (fun F w => SlF F w k R ao xs.length cap xs) :: L) := by
  have hO : OwnF (free_ u w (slc u.heap.size e k R o xs :: L)) u.heap.size w e k R o xs := M.say _ (List.mem_cons_self ..)
  obtain ⟨ra, rc, hv⟩ := hO.slice
  subst hv
  refine ⟨ra, rc, rfl, M.turn _ (dat_firm fun F F' w w' hs h => SlF.same h hR hs) (fun z hz => by cases hz) (fun F G h1 h2 hF => ?_)⟩
  have hF' : OwnF F u.heap.size w e k R (.slice ra xs.length rc) xs := hF
  obtain ⟨rs, g1, g2⟩ := hF'
  have hOO : OwnF F u.heap.size w e k R (.slice ra xs.length rc) xs := ⟨rs, g1, g2⟩
  rcases g1.2 with ⟨e0, _⟩ | ⟨g0, cap, cur, e0, hge, hh, hrest⟩
  · injection e0 with e1 e2 e3
    have hx : xs = [] := List.eq_nil_of_length_eq_zero e2
    subst hx; subst e1; subst e3
    exact SlF.nil
  · have hG0 : G g0 := h2 g0 (by show Value.ownBlock _ = _; rw [e0]; rfl) (fun h => by cases h)
    have hwide : OwnF G u.heap.size w e k R (.slice ra xs.length rc) xs := ⟨rs, g1, fun i hi => by
      obtain ⟨r, k3, k4, k5⟩ := g2 i hi
      exact ⟨r, k3, k4, hR _ _ _ _ _ _ (Same.wide fun k hk _ => ⟨h1 k hk.1, hk.2⟩) k5⟩⟩
    obtain ⟨hnc, hcm, hsz, htk⟩ := hrest
    injection e0 with e1 e2 e3
    subst e1; subst e3
    refine ⟨rfl, hnc, hcm, by simp, fun i hi => ?_⟩
    obtain ⟨row, h3, h4, h5⟩ := g2 i hi
    have hglt : g0 < w.heap.size := (Array.getElem?_eq_some_iff.1 hh).1
    refine ⟨g0, 0, row, rfl, hG0, hglt, ⟨h3, fun j hj => ?_⟩, hR _ _ _ _ _ _ (Same.wide fun b hF hlt => h1 b hF.1) h5⟩
    have hm : i * k + j < xs.length * k := by
      have h3 : (i + 1) * k ≤ xs.length * k := Nat.mul_le_mul_right k (by omega)
      rw [Nat.add_mul] at h3; omega
    have h6 := h4 j hj
    rw [← htk, List.getElem?_take, if_pos hm] at h6
    have hjl : j < row.length := by omega
    simp only [World.cell?, hh, Nat.zero_add]
    rw [List.getElem?_eq_getElem hjl] at h6
    simpa [List.getD, List.getElem?_eq_getElem hjl] using h6
/-- An empty slice. -/
theorem Mem.none_ {α : Type} {R : (Nat → Prop) → World → List Value → α → Prop} (hR : Firm R) (e k : Nat) {At : PS → World → Prop} {b : Nat} {u w : World} {s : PS} {L : List Ent} (M : Mem At b u w s L) : Mem At b u w s (slc u.heap.size e k R (.slice none 0 0) ([] : List α) :: L) :=
  M.push (Below.refl _ _) (slc_firm hR _ _) (fun z hz => by cases hz) (fun F _ => OwnF.empty)
/-- A made row as a slice of one. -/
theorem Mem.one {α : Type} {R : (Nat → Prop) → World → List Value → α → Prop} (hR : Firm R) {At : PS → World → Prop} {b : Nat} {u w : World} {s : PS} {L : List Ent} {e k q : Nat} (hk0 : 0 < k) (hk : k ≤ 16777216) {row : List Value} (M : Mem At b u w s (own q row e :: L)) (y : α) (hy : R (free_ u w (own q row e :: L)) w row y) (hl : row.length = k) :
    Mem At b u w s (slc u.heap.size e k R (.slice (some ⟨q, 0, none⟩) 1 1) [y] :: L) := by
  have hne := M.ne (List.mem_cons_self ..)
  have M2 : Mem At b u w s ([slc u.heap.size e k R (.slice (some ⟨q, 0, none⟩) 1 1) [y]] ++ L) := Mem.frame (A := [own q row e]) M M.at_ M.but (Nat.le_refl _) (fun _ _ _ _ => rfl) (fun f hf => by rw [List.mem_singleton.1 hf]; exact slc_firm hR _ _)
    (fun f hf z hz => by
      rw [List.mem_singleton.1 hf] at hz
      have e1 : q = z := by injection hz
      subst e1
      exact ⟨hne.1, hne.2.2⟩)
    (fun f hf z hz => by
      rw [List.mem_singleton.1 hf] at hz
      exact .inr ⟨_, List.mem_singleton.2 rfl, hz⟩)
    (List.pairwise_singleton _ _) (fun G hG _ _ f hf => by
      rw [List.mem_singleton.1 hf]
      have hO := M.own_ (List.mem_cons_self ..)
      refine ⟨row, ⟨by simp [hl], .inr ⟨q, 1, row.toArray, rfl, hne.1, hO, by simp, by unfold maxLen; omega, by simp [hl], by simp [← hl]⟩⟩, fun i hi => ?_⟩
      have e0 : i = 0 := by simpa using hi
      subst e0
      refine ⟨row, hl, fun j hj => by simp, hR _ _ _ _ _ _ (Same.wide fun k hk _ => ⟨hG k hk, fun e => hk.2.2 _ (List.mem_cons_self ..) e⟩) hy⟩)
  exact M2


structure ZeroT (P : Program) (t : TypeId) (cs : List Value) : Prop where
  zero : (P.info? t).map (·.zero) = some (some (.agg cs.toArray))
def zTok_ : List Value := [.int .i64 0, .string ByteArray.empty, .int .i64 0]
def zOpd_ : List Value := [.int .i64 0, .int .i64 0, .int .i64 0, .string ByteArray.empty, .string ByteArray.empty, .string ByteArray.empty]
def zCnd_ : List Value := [.int .i64 0, .slice none 0 0, .int .i64 0, .int .i64 0, .int .i64 0, .string ByteArray.empty, .string ByteArray.empty, .string ByteArray.empty, .int .i64 0, .int .i64 0, .int .i64 0, .string ByteArray.empty, .string ByteArray.empty, .string ByteArray.empty]
def zPat_ : List Value := [.string ByteArray.empty, .string ByteArray.empty, .int .i64 0, .slice none 0 0, .int .i64 0, .int .i64 0, .int .i64 0, .string ByteArray.empty, .string ByteArray.empty, .string ByteArray.empty, .int .i64 0, .int .i64 0, .int .i64 0, .string ByteArray.empty, .string ByteArray.empty, .string ByteArray.empty, .int .i64 0, .int .i64 0]
def zMan_ : List Value := [.int .i64 0, .string ByteArray.empty, .string ByteArray.empty, .string ByteArray.empty, .int .i64 0, .slice none 0 0, .int .i64 0, .int .i64 0, .int .i64 0, .string ByteArray.empty, .string ByteArray.empty, .string ByteArray.empty, .int .i64 0, .int .i64 0, .int .i64 0, .string ByteArray.empty, .string ByteArray.empty, .string ByteArray.empty, .int .i64 0, .int .i64 0]
def zLnk_ : List Value := [.string ByteArray.empty, .slice none 0 0, .string ByteArray.empty]
def zOpt_ : List Value := [.int .i64 0, .int .i64 0, .int .i64 0]
def zEmi_ : List Value := [.string ByteArray.empty, .slice none 0 0]
def zRul_ : List Value := [.string ByteArray.empty, .slice none 0 0, .slice none 0 0, .slice none 0 0, .slice none 0 0, .string ByteArray.empty, .slice none 0 0]
def zTyp_ : List Value := [.string ByteArray.empty, .slice none 0 0]
def zFld_ : List Value := [.string ByteArray.empty, .int .i64 0]
def zBok_ : List Value := [.slice none 0 0, .slice none 0 0]
theorem oneInt : OneT Try.prog 3 := ⟨by kernel_rfl, _, Try.underlying3, rfl⟩
theorem oneStr : OneT Try.prog 9 := ⟨by kernel_rfl, _, Try.underlying9, rfl⟩
theorem oneErr : OneT Try.prog 25 := ⟨by kernel_rfl, _, Try.underlying25, rfl⟩
theorem one_nil : ∀ v ∈ ([] : List Value), v.oneCell' = true := fun v hv => by cases hv
theorem one_cons {v : Value} {l : List Value} (h : v.oneCell' = true) (hl : ∀ v ∈ l, v.oneCell' = true) : ∀ x ∈ v :: l, x.oneCell' = true := fun x hx => by
  rcases List.mem_cons.1 hx with rfl | hx
  · exact h
  · exact hl x hx
theorem one_app {l r : List Value} (hl : ∀ v ∈ l, v.oneCell' = true) (hr : ∀ v ∈ r, v.oneCell' = true) : ∀ x ∈ l ++ r, x.oneCell' = true := fun x hx => by
  rcases List.mem_append.1 hx with hx | hx
  · exact hl x hx
  · exact hr x hx
theorem opdC_one (x : Opd) : ∀ v ∈ opdC x, v.oneCell' = true := one_cons rfl (one_cons rfl (one_cons rfl (one_cons rfl (one_cons rfl (one_cons rfl one_nil)))))
/-- A fact that no step of the walk looks at. -/
def Dec (p : Prop) : Prop := p
theorem Dec.out {p : Prop} (h : Dec p) : p := h

section
variable {P : Program} {o : Oper} {a : Act} {Q : Exit → Act → World → Prop} {K : Act → World → Prop}
variable {At : PS → World → Prop} {b : Nat} {u w : World} {s : PS} {L : List Ent}
theorem oper_id (h : o.wp P a w K Q) : o.wp P a w K Q := h
theorem list_id {ops : Array Oper} {rest : List Oper} (h : wpList P ops Q (o :: rest) a w) : wpList P ops Q (o :: rest) a w := h
theorem l_load {ops : Array Oper} {rest : List Oper} {ty : TypeId} {x : Operand} (hg : o.guard = none) (ho : o.op = .load ty x) (h : ∀ K : Act → World → Prop, (∀ a w, wpList P ops Q rest a w → K a w) → o.wp P a w K Q) : wpList P ops Q (o :: rest) a w := wpList_plain hg h
theorem l_store {ops : Array Oper} {rest : List Oper} {ty : TypeId} {x y : Operand} (hg : o.guard = none) (ho : o.op = .store ty x y) (h : ∀ K : Act → World → Prop, (∀ a w, wpList P ops Q rest a w → K a w) → o.wp P a w K Q) : wpList P ops Q (o :: rest) a w := wpList_plain hg h
theorem l_alloc {ops : Array Oper} {rest : List Oper} {ty : TypeId} (hg : o.guard = none) (ho : o.op = .alloc ty) (h : ∀ K : Act → World → Prop, (∀ a w, wpList P ops Q rest a w → K a w) → o.wp P a w K Q) : wpList P ops Q (o :: rest) a w := wpList_plain hg h
theorem l_row {ops : Array Oper} {rest : List Oper} {ty n : Nat} {ps : Array (Nat × Operand)} (hg : o.guard = none) (ho : o.op = .buildSlice ty n ps) (h : ∀ K : Act → World → Prop, (∀ a w, wpList P ops Q rest a w → K a w) → o.wp P a w K Q) : wpList P ops Q (o :: rest) a w := wpList_plain hg h
theorem l_app {ops : Array Oper} {rest : List Oper} {sl x : Operand} {ts : Array TypeId} (hg : o.guard = none) (ho : o.op = .call { callee := .builtin .append, args := #[sl, x], argTypes := ts }) (h : ∀ K : Act → World → Prop, (∀ a w, wpList P ops Q rest a w → K a w) → o.wp P a w K Q) : wpList P ops Q (o :: rest) a w := wpList_plain hg h
theorem op_varZ (M : Mem At b u w s L) (t : TypeId) (ho : o.op = .alloc t) {cs : List Value} (hT : ZeroT P t cs) (h : ∀ z w', Mem At b u w' s (own z cs t :: L) → K (a.put o.dst (.pointer (some ⟨z, 0, none⟩))) w') : o.wp P a w K Q :=
  op_var M t ho cs (.agg cs.toArray) rfl hT.zero h
theorem op_allT (M : Mem At b u w s L) (ty : TypeId) (x : Operand) (ho : o.op = .load ty x) (z : Nat) (hx : a.eval x = .pointer (some ⟨z, 0, none⟩)) {cs : List Value} {t : TypeId} {i : Nat} (hz : L[i]? = some (own z cs t))
    {m : Nat} (hT : StT P ty m) (hl : cs.length = m) (h : K (a.put o.dst (.agg cs.toArray)) w) : o.wp P a w K Q := by
  obtain ⟨hi, d, hu, hd⟩ := hT
  exact op_all M ty x ho z hx hz d hu hd hi hl h
theorem op_partT (M : Mem At b u w s L) (ty : TypeId) (x : Operand) (ho : o.op = .load ty x) (z p : Nat) (hx : a.eval x = .pointer (some ⟨z, p, none⟩)) {cs : List Value} {t : TypeId} {i : Nat} (hz : L[i]? = some (own z cs t))
    {m : Nat} (hT : StT P ty m) (vs : List Value) (hl : vs.length = m) (hvs : (cs.drop p).take m = vs) (h : K (a.put o.dst (.agg vs.toArray)) w) : o.wp P a w K Q := by
  obtain ⟨hi, d, hu, hd⟩ := hT
  exact op_part M ty x ho z p hx hz d hu hd hi vs hl hvs h
theorem op_getT (M : Mem At b u w s L) (ty : TypeId) (x : Operand) (ho : o.op = .load ty x) (z p : Nat) (hx : a.eval x = .pointer (some ⟨z, p, none⟩)) {cs : List Value} {t : TypeId} {i : Nat} (hz : L[i]? = some (own z cs t))
    (hT : OneT P ty) (v : Value) (hv : cs[p]? = some v) (h : K (a.put o.dst v) w) : o.wp P a w K Q := by
  obtain ⟨hi, d, hu, hd⟩ := hT
  exact op_get M ty x ho z p hx hz d hu hd v hv h
theorem op_putT (M : Mem At b u w s L) (ty : TypeId) (x y : Operand) (ho : o.op = .store ty x y) (z : Nat) (vs : List Value) (hx : a.eval x = .pointer (some ⟨z, 0, none⟩)) (hy : a.eval y = .agg vs.toArray) {cs : List Value} {t : TypeId} {i : Nat} (hz : L[i]? = some (own z cs t))
    {m : Nat} (hT : StT P ty m) (hm : vs.length = m) (hl : cs.length = m) (h1 : ∀ v ∈ vs, v.oneCell' = true) (h : ∀ w', Mem At b u w' s (L.set i (own z vs t)) → K (a.put o.dst undef) w') : o.wp P a w K Q :=
  op_put M ty x y ho z vs hx hy hz hT.1 hm hl h1 h
theorem op_inT (M : Mem At b u w s L) (ty : TypeId) (x y : Operand) (ho : o.op = .store ty x y) (z p : Nat) (vs : List Value) (hx : a.eval x = .pointer (some ⟨z, p, none⟩)) (hy : a.eval y = .agg vs.toArray) {cs : List Value} {t : TypeId} {i : Nat} (hz : L[i]? = some (own z cs t))
    {m : Nat} (hT : StT P ty m) (hm : vs.length = m) (hl : p + m ≤ cs.length) (h1 : ∀ v ∈ vs, v.oneCell' = true) (cs' : List Value) (hcs : laid cs p vs = cs') (h : ∀ w', Mem At b u w' s (L.set i (own z cs' t)) → K (a.put o.dst undef) w') : o.wp P a w K Q :=
  op_in M ty x y ho z p vs hx hy hz hT.1 hm hl h1 (fun w' M' => h w' (hcs ▸ M'))
theorem op_setT (M : Mem At b u w s L) (ty : TypeId) (x y : Operand) (ho : o.op = .store ty x y) (z p : Nat) (v : Value) (hx : a.eval x = .pointer (some ⟨z, p, none⟩)) (hy : a.eval y = v) {cs : List Value} {t : TypeId} {i : Nat} (hz : L[i]? = some (own z cs t))
    (hT : OneT P ty) (hl : p < cs.length) (h1 : v.oneCell' = true) (h : ∀ w', Mem At b u w' s (L.set i (own z (cs.set p v) t)) → K (a.put o.dst undef) w') : o.wp P a w K Q :=
  op_set M ty x y ho z p v hx hy hz hT.1 hl h1 h
end

section
variable {P : Program} {o : Oper} {a : Act} {Q : Exit → Act → World → Prop} {K : Act → World → Prop}
variable {b : Nat} {ao : Option Addr} {n cap : Nat} {s : PS} {u w : World} {L : List Ent}
/-- The reader's place read; set on. -/
theorem op_cell {ty : TypeId} {x : Operand} {p : Addr} {v : Value} (ho : o.op = .load ty x) (hx : a.eval x = .pointer (some p)) (hT : OneT P ty) (hc : w.cell? p = some v) (h : K (a.put o.dst v) w) : o.wp P a w K Q := by
  obtain ⟨hi, d, hu, hd⟩ := hT
  unfold Oper.wp execOp
  simp only [ho, hx, Instr.loadAt, Instr.sureAddr, Sem.run_bind, Sem.run_pure, Result.andThen_ok, run_load_one hu hd hc]
  exact h
theorem Mem.alloc {At : PS → World → Prop} (M : Mem At b u w s L) (cs : List Value) (t : TypeId) : Mem At b u (w.alloc (.cells cs.toArray t)) s (own w.heap.size cs t :: L) :=
  M.push (Joins.below_alloc1 w _) (own_firm _ _ _) (fun y hy => by
    have e : w.heap.size = y := by injection hy
    subst e
    simp) (fun G _ => heap_alloc_new w _)
end
end Go.Proofs.Ytpnhkkjjdcjmgaa
