/-
  The program's Check, eighth part: what a scope holds, what names are taken, in plain Lean; slices of numbers made.
-/
import Derived.Test.YthlnheckaoeooaaDoorPgE
import Derived.Test.YthlnheckaoeooaaDoorPgF
import Derived.Test.YthlnheckaoeooaaDoorPgG
import Derived.Test.YthlnheckaoeooaaDoorChkN
namespace Go.Proofs.YthlnheckaoeooaaDoor
open Go.RowKit
set_option linter.unusedVariables false
set_option linter.unusedSimpArgs false

theorem sameS_self (a : ByteArray) : sameS a a = true := by unfold sameS; simp
theorem toList_data : ∀ (a : ByteArray), a.toList = a.data.toList := fun a => ByteArray.toList_eq a
theorem sameS_eq {a b : ByteArray} (h : sameS a b = true) : a = b := by
  unfold sameS at h
  have e : a.toList = b.toList := by simpa using h
  rw [toList_data, toList_data] at e
  exact data_inj e
/-- Which names are taken. -/
def TakF (f : MapF) (al : List ByteArray) : Prop := ∀ s : ByteArray, f s = if inS al s = true then some (.bool true) else none
theorem takF_none : TakF noneF [] := fun s => rfl
theorem inS_snoc (al : List ByteArray) (v s : ByteArray) : inS (al ++ [v]) s = (inS al s || sameS v s) := by unfold inS; simp
theorem TakF.snoc {f : MapF} {al : List ByteArray} (h : TakF f al) (v : ByteArray) : TakF (putF f v (.bool true)) (al ++ [v]) := fun s => by
  unfold putF
  rw [inS_snoc]
  by_cases e : s = v
  · subst e
    rw [if_pos rfl, sameS_self]
    simp
  · have hn : sameS v s = false := by
      cases hq : sameS v s with
      | false => rfl
      | true => exact absurd (sameS_eq hq).symm e
    rw [if_neg e, h s, hn]
    simp
/-- What types the patterns known so far have. -/
structure KnownF (F : Nat → Prop) (w0 : World) (f : MapF) (ts : List Typ) (known : List Pat) : Prop where
  has : ∀ s : ByteArray, patI known s < known.length → ∃ cs, f s = some (.agg cs.toArray) ∧ TypAs F w0 (typAt ts (known.getD (patI known s) pat0).type) cs
  hasnt : ∀ s : ByteArray, ¬ patI known s < known.length → f s = none
theorem knownF_none (F : Nat → Prop) (w0 : World) (ts : List Typ) : KnownF F w0 noneF ts [] := ⟨fun s h => absurd h (Nat.not_lt_zero _), fun s _ => rfl⟩
theorem patI_snoc (l : List Pat) (p : Pat) (s : ByteArray) : patI (l ++ [p]) s = if patI l s < l.length then patI l s else if sameS p.var s = true then l.length else l.length + 1 := by
  unfold patI
  rw [List.findIdx_append]
  by_cases h : List.findIdx (fun q => sameS q.var s) l < l.length
  · rw [if_pos h, if_pos h]
  · rw [if_neg h, if_neg h, List.findIdx_singleton]
    cases sameS p.var s <;> simp [Nat.add_comm]
theorem inS_vars (l : List Pat) (s : ByteArray) : inS (vars l) s = decide (patI l s < l.length) := by
  unfold inS vars patI
  rw [List.any_map, Bool.eq_iff_iff, decide_eq_true_iff, List.findIdx_lt_length, List.any_eq_true]
  rfl
theorem KnownF.snoc {F : Nat → Prop} {w0 : World} {f : MapF} {ts : List Typ} {known : List Pat} (h : KnownF F w0 f ts known) (p : Pat) (hp : inS (vars known) p.var = false) {cs : List Value} (hc : TypAs F w0 (typAt ts p.type) cs) : KnownF F w0 (putF f p.var (.agg cs.toArray)) ts (known ++ [p]) where
  has := fun s hs => by
    unfold putF
    by_cases e : s = p.var
    · subst e
      rw [if_pos rfl]
      have hn : ¬ patI known p.var < known.length := by rw [inS_vars] at hp; simpa using hp
      refine ⟨cs, rfl, ?_⟩
      rw [patI_snoc, if_neg hn, sameS_self, if_pos rfl]
      rw [List.getD_eq_getElem?_getD, List.getElem?_append_right (Nat.le_refl _)]
      simpa using hc
    · rw [if_neg e]
      have hk : patI known s < known.length := by
        apply Classical.byContradiction
        intro hn
        rw [patI_snoc, if_neg hn, if_neg (fun h2 => e (sameS_eq h2).symm)] at hs
        simp at hs
      obtain ⟨cs', h1, h2⟩ := h.has s hk
      refine ⟨cs', h1, ?_⟩
      rw [patI_snoc, if_pos hk, List.getD_eq_getElem?_getD, List.getElem?_append_left hk]
      rw [List.getD_eq_getElem?_getD] at h2
      exact h2
  hasnt := fun s hs => by
    unfold putF
    have hk : ¬ patI known s < known.length := fun hk => hs (by rw [patI_snoc, if_pos hk, List.length_append]; omega)
    have e : s ≠ p.var := fun e => hs (by subst e; rw [patI_snoc, if_neg hk, sameS_self, if_pos rfl, List.length_append]; simp)
    rw [if_neg e]
    exact h.hasnt s hk
/-- Rows read in a later world lie there from the first. -/
theorem SlF.back {α : Type} {F : Nat → Prop} {w w0 : World} {k : Nat} {c : α → List Value} {ao : Option Addr} {n cap : Nat} {xs : List α} (h : SlF F w k (plainF c) ao n cap xs) (hF : ∀ b, F b → b < w0.heap.size ∧ w0.heap[b]? = w.heap[b]?) : SlF F w0 k (plainF c) ao n cap xs := by
  obtain ⟨h1, h2, h3, h5, h4⟩ := h
  refine ⟨h1, h2, h3, h5, fun i hi => ?_⟩
  obtain ⟨b, off, row, e, hFb, hlt, hr, hR⟩ := h4 i hi
  exact ⟨b, off, row, e, hFb, (hF b hFb).1, rowAt_same hr (hF b hFb).2, hR⟩
/-- A name that is taken is refused. -/
theorem pat_fresh {ts : List Typ} {known : List Pat} {ahead : List ByteArray} {p : Pat} {part : Nat} (h : patE ts known ahead p part = 0) : inS ahead p.var = false := by
  unfold patE at h
  by_cases h0 : freeE p.var ≠ 0
  · rw [if_pos h0] at h; exact absurd h h0
  · rw [if_neg h0] at h
    by_cases h1 : inS ahead p.var = true
    · rw [if_pos h1] at h; exact absurd h (by decide)
    · simpa using h1
theorem inS_app (a b : List ByteArray) (s : ByteArray) : inS (a ++ b) s = (inS a s || inS b s) := by unfold inS; simp
theorem apart_of {ts : List Typ} {x : Rul} (h : AllZ (notE ts x) x.nots.length) : Apart x := fun nm hw => by
  unfold hasP at hw ⊢
  have hw' : inS (vars x.whens) nm = true := by rw [inS_vars]; exact hw
  rw [← inS_vars]
  apply Classical.byContradiction
  intro hn
  have hn' : inS (vars x.nots) nm = true := by simpa using hn
  unfold inS vars at hn'
  rw [List.any_map, List.any_eq_true] at hn'
  obtain ⟨p, hp, hs⟩ := hn'
  obtain ⟨i, hi, rfl⟩ := List.mem_iff_getElem.1 hp
  have hz := h i hi
  unfold notE at hz
  have hf := pat_fresh hz
  rw [List.getD_eq_getElem?_getD, List.getElem?_eq_getElem hi, inS_app] at hf
  have e := sameS_eq (show sameS x.nots[i].var nm = true from hs)
  have hf' : inS (vars x.whens) x.nots[i].var = false := by
    have := (Bool.or_eq_false_iff.1 hf).1
    exact this
  rw [e, hw'] at hf'
  cases hf'
section
variable {P : Program} {o : Oper} {a : Act} {Q : Exit → Act → World → Prop} {K : Act → World → Prop}
variable {At : PS → World → Prop} {b : Nat} {u w : World} {s : PS} {L : List Ent}
theorem op_buildN (M : Mem At b u w s L) {t e : Nat} (hT : RowT P t e 1) (n : Nat) (ps : Array (Nat × Operand)) (ho : o.op = .buildSlice t n ps) (hn : 0 < n ∧ n ≤ 100) (cs : List Value) (hf : ∀ init : Array Value, init.size = n → Instr.fill (fun i => some (i * 1, 1)) init (ps.toList.map fun x => (x.1, a.eval x.2)) = some cs.toArray)
    (h : ∀ q w', Mem At b u w' s (own q cs e :: L) → K (a.put o.dst (.slice (some ⟨q, 0, none⟩) n n)) w') : o.wp P a w K Q := by
  obtain ⟨hu, ie, z, hie, hz, hsz, hzs, hpos, hsmall, -, -⟩ := hT.open
  have hf2 := hf ((Array.range (n * ie.size)).map (z.cells[· % z.cells.size]!)) (by simp [hsz])
  have hlow : ∀ y, (own w.heap.size cs e).blk = some y → w.heap.size ≤ y ∧ y < (w.alloc (.cells cs.toArray e)).heap.size := fun y hy => by
    have e : w.heap.size = y := by injection hy
    subst e
    simp
  exact wp_buildSlice t e n ps ho cs.toArray ie z hu hie hz (by rw [hsz]; omega) (by rw [hsz]; omega) (by rw [hsz] at hf2 ⊢; simpa using hf2) (h w.heap.size _ (M.push (Joins.below_alloc1 w _) (own_firm _ _ _) hlow (fun G _ => heap_alloc_new w _)))
end
section
variable {P : Program} {dst : Option Tmp} {oty : TypeId} {pos : String} {after : Array Edge} {g : Option (Nat × Bool)} {l : List Value} {ds : List Deferred} {Q : Exit → Act → World → Prop} {K : Act → World → Prop}
variable {At : PS → World → Prop} {b : Nat} {u w : World} {s : PS} {L : List Ent} {ty : Nat}
theorem q_one (M : Mem At b u w s L) {e : Nat} {k : Int} [hT : RowI P ty e 1] {F : Nat → List Value} [hd : ∀ q, PutI l dst (.slice (some ⟨q, 0, none⟩) 1 1) (F q)] (h : ∀ q w', Mem At b u w' s (own q [.int .i64 k] e :: L) → K ⟨(F q).toArray, ds⟩ w') : OWP P ⟨dst, .buildSlice ty 1 #[(0, .const (.int .i64 k))], oty, pos, after, g⟩ ⟨l.toArray, ds⟩ w K Q :=
  owp_of (op_buildN M hT.row 1 _ rfl (by omega) [.int .i64 k] (fun init hi => by
    obtain ⟨⟨xs⟩⟩ : ∃ y : Array Value, y = init := ⟨init, rfl⟩
    cases init with
    | mk l0 =>
      rcases l0 with _ | ⟨x0, _ | ⟨x1, l2⟩⟩ <;> simp at hi
      simp [Instr.fill, Act.eval, Value.cells]) (fun q w' M' => by rw [(hd q).put]; exact h q w' M'))
theorem q_three (M : Mem At b u w s L) {e : Nat} {k1 k2 k3 : Int} [hT : RowI P ty e 1] {F : Nat → List Value} [hd : ∀ q, PutI l dst (.slice (some ⟨q, 0, none⟩) 3 3) (F q)] (h : ∀ q w', Mem At b u w' s (own q [.int .i64 k1, .int .i64 k2, .int .i64 k3] e :: L) → K ⟨(F q).toArray, ds⟩ w') : OWP P ⟨dst, .buildSlice ty 3 #[(0, .const (.int .i64 k1)), (1, .const (.int .i64 k2)), (2, .const (.int .i64 k3))], oty, pos, after, g⟩ ⟨l.toArray, ds⟩ w K Q :=
  owp_of (op_buildN M hT.row 3 _ rfl (by omega) [.int .i64 k1, .int .i64 k2, .int .i64 k3] (fun init hi => by
    cases init with
    | mk l0 =>
      rcases l0 with _ | ⟨x0, _ | ⟨x1, _ | ⟨x2, _ | ⟨x3, l4⟩⟩⟩⟩ <;> simp at hi
      simp [Instr.fill, Act.eval, Value.cells]) (fun q w' M' => by rw [(hd q).put]; exact h q w' M'))
end
instance : RowI Tryd.prog 145 3 1 := ⟨⟨Tryd.underlying145, ⟨.int .i64 0, by kernel_rfl, rfl⟩, by kernel_rfl, by kernel_rfl, by omega, by omega⟩⟩
end Go.Proofs.YthlnheckaoeooaaDoor
