/-
  Maps by numbers as entries of own memory: made, looked up, written.
-/
import Derived.Test.YtpnhkkjjdcjmgaaWhN
namespace Go.Proofs.Ytpnhkkjjdcjmgaa
open Go.RowKit Go.ChangeMaps
set_option linter.unusedVariables false
set_option linter.unusedSimpArgs false

/-- A map of one's own, by numbers. -/
def mpJ (P : Program) (k : TypeId) (z n : Nat) (f : MapI64) : Ent := ⟨fun y => some z = some y, fun _ w => MapJ P k w z n f⟩
theorem mpJ_firm (P : Program) (k : TypeId) (z n : Nat) (f : MapI64) : (mpJ P k z n f).firm := fun F G w w' _ _ hz hlt h => MapJ.same h (hz z rfl (hlt z rfl))
section
variable {P : Program} {o : Oper} {a : Act} {Q : Exit → Act → World → Prop} {K : Act → World → Prop}
variable {At : PS → World → Prop} {b : Nat} {u w : World} {s : PS} {L : List Ent}
theorem op_mapJ (M : Mem At b u w s L) (k : TypeId) {t : Nat} (ho : o.op = .makeMap t none)
    (h : ∀ z w', Mem At b u w' s (mpJ P k z 0 (fun _ => none) :: L) → K (a.put o.dst (.map (some z))) w') : o.wp P a w K Q := by
  have hlow : ∀ y, (mpJ P k w.heap.size 0 (fun _ => none)).blk y → w.heap.size ≤ y ∧ y < (w.alloc (.map #[] 0)).heap.size := fun y hy => by
    have e : w.heap.size = y := by injection hy
    subst e
    simp
  unfold Oper.wp execOp
  simp only [ho, Option.map_none]
  exact h w.heap.size _ (M.push (Joins.below_alloc1 w _) (mpJ_firm _ _ _ _ _) hlow (fun G _ => MapJ.made))
/-- A world in which an own map is another one. -/
theorem Mem.remapJ {k : TypeId} {z n m i : Nat} {f f' : MapI64} {w' : World} (M : Mem At b u w s L) (hi : L[i]? = some (mpJ P k z n f)) (hb : But z w w') (ho : MapJ P k w' z m f') : Mem At b u w' s (L.set i (mpJ P k z m f')) := by
  have hlow := M.low _ (Mem.of_get hi) z rfl
  have hbl : b < w.heap.size := Nat.lt_of_lt_of_le M.lt M.size
  have hne : b ≠ z := by have := M.lt; omega
  have h1 : w'.heap[b]? = w.heap[b]? := hb.rest b hbl hne
  have hsz := hb.size
  refine M.setAt hi (M.stay _ _ _ h1 M.at_) ?_ hsz (fun k hk _ hk2 => hb.rest k hk (fun e => hk2 (by rw [e]; rfl))) (mpJ_firm _ _ _ _ _) (fun y hy => ?_) (fun y hy => .inr hy) (fun G _ _ => ho)
  · refine ⟨M.but.below.trans (hb.below.mono (by have := M.lt; omega)), fun k hk hkb => ?_⟩
    rw [hb.rest k (Nat.lt_of_lt_of_le hk M.size) (by omega)]
    exact M.but.rest k hk hkb
  · have e : z = y := by injection hy
    subst e
    exact ⟨hlow.1, Nat.lt_of_lt_of_le hlow.2 hsz⟩
theorem Mem.mapJ_ {k : TypeId} {z n i : Nat} {f : MapI64} (M : Mem At b u w s L) (hi : L[i]? = some (mpJ P k z n f)) : MapJ P k w z n f := M.say _ (Mem.of_get hi)
end
section
variable {P : Program} {dst : Option Tmp} {oty : TypeId} {pos : String} {after : Array Edge} {g : Option (Nat × Bool)} {l l' : List Value} {ds : List Deferred} {Q : Exit → Act → World → Prop} {K : Act → World → Prop}
variable {At : PS → World → Prop} {b : Nat} {u w : World} {s : PS} {L : List Ent} {t j j' z n i : Nat}
/-- Types of maps: their keys are numbers; what an element is, where none is there. -/
class MapN (P : Program) (t : TypeId) (k : outParam TypeId) (v0 : outParam Value) : Prop where
  key : P.underlying k = some (.int .i64)
  map_ : ∃ e, P.underlying t = some (.map k e) ∧ (P.info? e).map (·.zero) = some (some v0)
theorem q_mapJ (M : Mem At b u w s L) {k : TypeId} {v0 : Value} [hT : MapN P t k v0] {F : Nat → List Value} [hd : ∀ z, PutI l dst (.map (some z)) (F z)] (h : ∀ z w', Mem At b u w' s (mpJ P k z 0 (fun _ => none) :: L) → K ⟨(F z).toArray, ds⟩ w') : OWP P ⟨dst, .makeMap t none, oty, pos, after, g⟩ ⟨l.toArray, ds⟩ w K Q :=
  owp_of (op_mapJ M k rfl (fun z w' M' => by rw [(hd z).put]; exact h z w' M'))
/-- A number looked up, with whether it is there. -/
theorem q_looksJ {k : TypeId} {v0 : Value} {f : MapI64} {x : Int} (M : Mem At b u w s L) [hm : Nth l j (.map (some z))] [hx : Nth l j' (.int .i64 x)] [hT : MapN P t k v0] (hi : L[i]? = some (mpJ P k z n f)) (hw : wfI x) [hd : PutI l dst (.tuple #[(f x).getD v0, .bool (f x).isSome]) l'] (h : K ⟨l'.toArray, ds⟩ w) : OWP P ⟨dst, .lookup t (.tmp j) (.tmp j') true, oty, pos, after, g⟩ ⟨l.toArray, ds⟩ w K Q := by
  obtain ⟨e, h1, h2⟩ := hT.map_
  have hrun := (M.mapJ_ hi).look hT.key h1 true (zero_run h2 w) x hw
  refine owp_of ?_
  unfold Oper.wp execOp
  have hk : K (Act.put ⟨l.toArray, ds⟩ dst (.tuple #[(f x).getD v0, .bool (f x).isSome])) w := by rw [hd.put]; exact h
  simp only [eval_tmp hm.nth, eval_tmp hx.nth, Sem.run_bind, Sem.run_pure, hrun, if_true, Result.andThen_ok]
  exact hk
/-- A number's element laid. -/
theorem q_msetJ {k : TypeId} {v0 v : Value} {f : MapI64} {x : Int} (M : Mem At b u w s L) [hm : Nth l j (.map (some z))] [hx : Nth l j' (.int .i64 x)] [hT : MapN P t k v0] {y : Operand} [hy : EvI l y v] (hi : L[i]? = some (mpJ P k z n f)) (hn : n < maxLen) (hw : wfI x) [hd : PutI l dst undef l']
    (h : ∀ w', Mem At b u w' s (L.set i (mpJ P k z (if (f x).isSome = true then n else n + 1) (putJ f x v))) → K ⟨l'.toArray, ds⟩ w') : OWP P ⟨dst, .mapUpdate t (.tmp j) (.tmp j') y, oty, pos, after, g⟩ ⟨l.toArray, ds⟩ w K Q := by
  obtain ⟨e, h1, h2⟩ := hT.map_
  have ho := M.mapJ_ hi
  obtain ⟨w', hrun, ho', hg⟩ := ho.put hT.key h1 hn x hw v
  refine owp_of ?_
  unfold Oper.wp execOp
  have hk : K (Act.put ⟨l.toArray, ds⟩ dst undef) w' := by rw [hd.put]; exact h w' (M.remapJ hi (But.of_grown hg ho.lt) ho')
  simp only [eval_tmp hm.nth, eval_tmp hx.nth, hy.ev, Sem.run_bind, Sem.run_pure, hrun, Result.andThen_ok]
  exact hk
end
end Go.Proofs.Ytpnhkkjjdcjmgaa
