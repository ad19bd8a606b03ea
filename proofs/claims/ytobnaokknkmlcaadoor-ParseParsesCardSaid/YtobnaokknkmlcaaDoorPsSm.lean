/-
  Steps of a walk, third part: regions that draw their order and read first, call last. For every program. No condition.
-/
import Derived.Test.YtobnaokknkmlcaaDoorMj
import Derived.StillTailTactics
namespace Go.Proofs.YtobnaokknkmlcaaDoor
open Go.RowKit
set_option linter.unusedVariables false
set_option linter.unusedSimpArgs false

@[irreducible] def OSP (P : Program) (o : Oper) (a : Act) (w : World) (K : Act → Prop) : Prop := o.still P a w K
theorem osp_eq {P : Program} {o : Oper} {a : Act} {w : World} {K : Act → Prop} : OSP P o a w K = o.still P a w K := by unfold OSP; rfl
theorem osp_of {P : Program} {o : Oper} {a : Act} {w : World} {K : Act → Prop} (h : o.still P a w K) : OSP P o a w K := osp_eq ▸ h
theorem osp_out {P : Program} {o : Oper} {a : Act} {w : World} {K : Act → Prop} (h : OSP P o a w K) : o.still P a w K := osp_eq ▸ h
section
variable {P : Program} {ops : Array Oper} {opsl rest : List Oper} {o : Oper} {a : Act} {w : World} {Q : Act → Prop} {dst : Option Tmp} {op : Op} {oty : TypeId} {pos : String} {after : Array Edge} {gi : Nat} {want : Bool} {t : Tmp} {l l' : List Value} {ds : List Deferred}
theorem s_list (hg : o.guard = none) (h : ∀ K : Act → Prop, (∀ a, wpStill P ops w Q rest a → K a) → OSP P o a w K) : wpStill P ops w Q (o :: rest) a :=
  wpStill_step fun K hK => by rw [if_pos (wanted_none hg)]; exact osp_out (h K hK)
theorem wanted_g [ho : NthO opsl gi t] {v : Bool} (hv : l[t]? = some (.bool v)) : Region.wanted (⟨dst, op, oty, pos, after, some (gi, want)⟩ : Oper) (yielded opsl.toArray l.toArray) = (v == want) := by
  obtain ⟨o', h2, h3⟩ := ho.at_
  simp only [Region.wanted, yielded, List.getElem?_toArray, h2, Option.bind_some, h3, hv]
  cases v <;> cases want <;> rfl
theorem s_listg [ho : NthO opsl gi t] [hv : Nth l t (.bool want)] (h : ∀ K : Act → Prop, (∀ a, wpStill P opsl.toArray w Q rest a → K a) → OSP P ⟨dst, op, oty, pos, after, some (gi, want)⟩ ⟨l.toArray, ds⟩ w K) :
    wpStill P opsl.toArray w Q (⟨dst, op, oty, pos, after, some (gi, want)⟩ :: rest) ⟨l.toArray, ds⟩ :=
  wpStill_step fun K hK => by rw [if_pos (by rw [wanted_g hv.nth]; simp)]; exact osp_out (h K hK)
theorem s_skipT [ho : NthO opsl gi t] [hv : Nth l t (.bool false)] [hp : PutI l dst undef l'] (h : wpStill P opsl.toArray w Q rest ⟨l'.toArray, ds⟩) : wpStill P opsl.toArray w Q (⟨dst, op, oty, pos, after, some (gi, true)⟩ :: rest) ⟨l.toArray, ds⟩ :=
  wpStill_step fun K hK => by rw [if_neg (by rw [wanted_g hv.nth]; simp)]; refine hK _ ?_; rw [hp.put]; exact h
theorem s_skipF [ho : NthO opsl gi t] [hv : Nth l t (.bool true)] [hp : PutI l dst undef l'] (h : wpStill P opsl.toArray w Q rest ⟨l'.toArray, ds⟩) : wpStill P opsl.toArray w Q (⟨dst, op, oty, pos, after, some (gi, false)⟩ :: rest) ⟨l.toArray, ds⟩ :=
  wpStill_step fun K hK => by rw [if_neg (by rw [wanted_g hv.nth]; simp)]; refine hK _ ?_; rw [hp.put]; exact h
/-- A load that the walk knows, where nothing may turn. -/
theorem s_load {g : Option (Nat × Bool)} {ty : TypeId} {x : Operand} {K : Act → Prop} (h : OWP P ⟨dst, .load ty x, oty, pos, after, g⟩ a w (fun a' w' => w' = w ∧ K a') (fun _ _ _ => False)) : OSP P ⟨dst, .load ty x, oty, pos, after, g⟩ a w K := by
  refine osp_of ?_
  have h2 := owp_out h
  unfold Oper.wp execOp at h2
  unfold Oper.still execOp
  simp only [Sem.run_bind] at h2 ⊢
  cases hr : (Instr.loadAt ty (a.eval x)).run P w with
  | ok v w' =>
    rw [hr] at h2
    simp only [Result.andThen_ok, Sem.run_pure] at h2 ⊢
    exact h2
  | halt e w' =>
    rw [hr] at h2
    revert h2
    cases e <;> (intro h2; exact absurd h2 (by simp [Result.andThen, Oper.upon]))
/-- A pure operation: still as the walk reckons it. -/
theorem s_pure {K : Act → Prop} (h : o.still P a w K) : OSP P o a w K := osp_of h
end
section
variable {P : Program} {dst : Option Tmp} {oty : TypeId} {pos : String} {after : Array Edge} {g : Option (Nat × Bool)} {l l' : List Value} {ds : List Deferred} {Q : Exit → Act → World → Prop} {K : Act → World → Prop} {j : Nat} {ty : TypeId} {w : World} {c o : Nat} {v : Value}
/-- A cell loaded from where it is known to lie. -/
theorem q_cellat [hx : Nth l j (.pointer (some ⟨c, o, none⟩))] [hT : OneI P ty] (hc : w.cell? ⟨c, o, none⟩ = some v) [hd : PutI l dst v l'] (h : K ⟨l'.toArray, ds⟩ w) : OWP P ⟨dst, .load ty (.tmp j), oty, pos, after, g⟩ ⟨l.toArray, ds⟩ w K Q :=
  owp_of (op_cell rfl (eval_tmp hx.nth) hT.one hc (by rw [hd.put]; exact h))
end
/-- A row of a slice, wherever the walk has come to. -/
theorem SlF.rowAt {α : Type} {F : Nat → Prop} {k : Nat} {R : (Nat → Prop) → World → List Value → α → Prop} {ao : Option Addr} {n cap : Nat} {xs : List α} {w : World} {P : Program} {t e : Nat} (hX : SlF F w k R ao n cap xs) (hR : Firm R) (ht : P.underlying t = some (.slice e)) (hs : SizeIs P e k) {i : Nat} (hi : i < xs.length) :
    ∃ c off row, (∀ wx, (Instr.indexAt t (.slice ao n cap) (.int .i64 i)).run P wx = .ok (.pointer (some ⟨c, off, none⟩)) wx) ∧ row.length = k ∧ R F w row xs[i] ∧ ∀ wx, Below w.heap.size w wx → wx.rangeAt c off row ∧ R F wx row xs[i] := by
  obtain ⟨b, off, row, hix, hblt, hrow, hrr⟩ := hX.toR.index (P := P) ht hs hi
  refine ⟨b, off + i * k, row, hix, hrow.1, hrr, fun wx hb => ⟨fun j v hj => ?_, hR _ _ _ _ _ _ (Same.below hb) hrr⟩⟩
  rw [(bcell hb).1 _ _ hblt]
  exact hrow.range j v hj
end Go.Proofs.YtobnaokknkmlcaaDoor
