/-
  Regions that draw: what reads (or reckons) is taken first, whatever the order; what is left comes in one order: one walk.
-/
import Derived.Test.YtcebfkdhicbmkaaDoorMmQ
namespace Go.Proofs.YtcebfkdhicbmkaaDoor
open Go.RowKit
set_option linter.unusedVariables false
set_option linter.unusedSimpArgs false

section
variable {P : Program} {ops : Array Oper} {md : Region.Mode} {C : World → Prop} {Q : Exit → Act → World → Prop}
/-- In every world of the class it leaves this value, and the world as it was. -/
def ReadsV (P : Program) (ops : Array Oper) (C : World → Prop) (o : Oper) (v : Value) (a : Act) : Prop :=
  Region.wanted o (yielded ops a.tmps) = true ∧ ∀ w, C w → (execOp a.eval o).run P w = .ok (.value v) w
def wpAnyC (P : Program) (md : Region.Mode) (ops : Array Oper) (C : World → Prop) (Q : Exit → Act → World → Prop) : Nat → Array Bool → Act → World → Prop
  | 0, listed, a, w => Region.ready md ops listed = [] ∧ Q .normal a w
  | f + 1, listed, a, w => (Region.ready md ops listed = [] → Q .normal a w) ∧ ∀ i ∈ Region.ready md ops listed, wpOp P ops Q i (fun a' w' => C w' ∧ wpAnyC P md ops C Q f (listed.setIfInBounds i true) a' w') a w
theorem wpAny_of_C : ∀ (f : Nat) (listed : Array Bool) (a : Act) (w : World), wpAnyC P md ops C Q f listed a w → wpAny P md ops Q f listed a w
  | 0, _, _, _, h => h
  | f + 1, _, _, _, h => ⟨h.1, fun i hi => wpOp_mono (fun a' w' h' => wpAny_of_C f _ a' w' h'.2) (h.2 i hi)⟩
theorem ReadsV.of_same {o : Oper} {v : Value} {a a' : Act} (hy : ReadsV P ops C o v a) (he : execOp a'.eval o = execOp a.eval o)
    (hw : Region.wanted o (yielded ops a'.tmps) = Region.wanted o (yielded ops a.tmps)) : ReadsV P ops C o v a' := by
  unfold ReadsV at *
  rw [he, hw]
  exact hy
theorem ReadsV.wpOp {i : Nat} {o : Oper} {v : Value} {a : Act} (hi : ops[i]? = some o) (hy : ReadsV P ops C o v a) {K : Act → World → Prop} {w : World} (hC : C w) (h : K (a.put o.dst v) w) : wpOp P ops Q i K a w := by
  unfold Go.wpOp
  simp only [hi]
  simp only [hy.1, if_true, Oper.wp, hy.2 w hC, Oper.upon]
  exact .inl h
theorem wpOpC_put {j : Nat} {oi oj : Oper} {v : Value} (hj : ops[j]? = some oj) (hap : oi.apart ops oj = true)
    (hsi : ∀ cs b, oi.op ≠ .select cs b) (hsj : ∀ cs b, oj.op ≠ .select cs b)
    (hQ : ∀ c a w, Q (.panic c) (a.put oi.dst v) w → Q (.panic c) a w) {K : Act → World → Prop} {a : Act} {w : World}
    (hy : ReadsV P ops C oi v a) (h : wpOp P ops Q j K (a.put oi.dst v) w) :
    wpOp P ops Q j (fun a' w' => ReadsV P ops C oi v a' ∧ K (a'.put oi.dst v) w') a w := by
  obtain ⟨h1, h2, h3⟩ := Oper.apart_spec hap
  have keep : ∀ (a : Act), ReadsV P ops C oi v a → ∀ u, ReadsV P ops C oi v (a.put oj.dst u) := fun a hy u =>
    hy.of_same (execOp_put oi hsi a oj.dst u h3) (wanted_put oi a oj.dst u h3)
  have keepD : ∀ d, ReadsV P ops C oi v { a with defers := d :: a.defers } := fun d => hy.of_same rfl rfl
  unfold wpOp at *
  simp only [hj] at *
  rw [wanted_put oj a oi.dst v h1] at h
  split
  · rename_i hw
    simp only [hw, if_true] at h
    rcases h with h | ⟨hasks, hlets⟩
    case inr => exact .inr ⟨by unfold Oper.asks at *; rw [execOp_put oj hsj a oi.dst v h1] at hasks; exact hasks, hlets⟩
    refine .inl ?_
    unfold Oper.wp at *
    rw [execOp_put oj hsj a oi.dst v h1] at h
    generalize (execOp a.eval oj).run P w = r at *
    cases r with
    | ok n w' =>
      cases n <;> simp only [Oper.upon] at h ⊢
      case value u => exact ⟨keep a hy u, by rw [← Act.put_comm a v u h2]; exact h⟩
      case skip => exact ⟨keep a hy _, by rw [← Act.put_comm a v undef h2]; exact h⟩
      case defer d =>
        refine ⟨keep _ (keepD d) _, ?_⟩
        rw [← Act.put_comm _ v undef h2, ← Act.put_defers]
        exact h
      case enter f args =>
        refine Calls.mono h fun e w'' he => ?_
        cases e with
        | returned u => exact ⟨keep a hy u, by rw [← Act.put_comm a v u h2]; exact he⟩
        | panicked c => exact hQ _ _ _ he
        | outgrown => exact he
      case row row args => exact Rows.mono h fun u w'' he => ⟨keep a hy u, by rw [← Act.put_comm a v u h2]; exact he⟩
    | halt x w' =>
      cases x <;> simp only [Oper.upon] at h ⊢
      case panic u => exact hQ _ _ _ h
  · rename_i hw
    simp only [hw] at h
    exact ⟨keep a hy _, by rw [← Act.put_comm a v undef h2]; exact h⟩
theorem wpAnyC_first {i : Nat} {oi : Oper} {v : Value} (hi : ops[i]? = some oi) (hsel : ∀ (j : Nat) (o : Oper) cs b, ops[j]? = some o → o.op ≠ .select cs b)
    (hQ : ∀ c a w, Q (.panic c) (a.put oi.dst v) w → Q (.panic c) a w) :
    ∀ (fuel : Nat) (listed : Array Bool) (a : Act) (w : World), C w →
      (∀ j oj, ops[j]? = some oj → j ≠ i → listed.getD j true = false → (∀ e ∈ oj.after, Region.binds md e = true → e.on ≠ i) → oi.apart ops oj = true) →
      i ∈ Region.ready md ops listed → ReadsV P ops C oi v a →
      wpAnyC P md ops C Q fuel (listed.setIfInBounds i true) (a.put oi.dst v) w → wpAnyC P md ops C Q (fuel + 1) listed a w := by
  intro fuel
  induction fuel with
  | zero =>
    intro listed a w hC _ hr hy H
    refine ⟨fun h => (by rw [h] at hr; cases hr), fun j hj => ?_⟩
    by_cases hji : j = i
    · subst hji; exact hy.wpOp hi hC ⟨hC, H⟩
    · have := ready_mono hj hji
      rw [H.1] at this
      cases this
  | succ fuel ih =>
    intro listed a w hC hfree hr hy H
    refine ⟨fun h => (by rw [h] at hr; cases hr), fun j hj => ?_⟩
    by_cases hji : j = i
    · subst hji; exact hy.wpOp hi hC ⟨hC, H⟩
    · have h1 := H.2 j (ready_mono hj hji)
      obtain ⟨hjun, oj, hoj, hall⟩ := mem_ready.1 hj
      have hnot : ∀ e ∈ oj.after, Region.binds md e = true → e.on ≠ i := fun e he hb heq => by
        have h1 := hall e he hb
        have h0 := (mem_ready.1 hr).1
        rw [heq] at h1
        rcases Nat.lt_or_ge i listed.size with h' | h'
        · simp [h'] at h0 h1; rw [h0] at h1; cases h1
        · simp [Array.getElem?_eq_none h'] at h1
      have h2 := wpOpC_put hoj (hfree j oj hoj hji hjun hnot) (fun cs b => hsel i oi cs b hi) (fun cs b => hsel j oj cs b hoj) hQ hy h1
      have hfree' : ∀ k ok, ops[k]? = some ok → k ≠ i → (listed.setIfInBounds j true).getD k true = false →
          (∀ e ∈ ok.after, Region.binds md e = true → e.on ≠ i) → oi.apart ops ok = true := fun k ok hk hki hun hno => by
        refine hfree k ok hk hki ?_ hno
        by_cases hjk : j = k
        · subst hjk; exact hjun
        · rw [getD_set_ne true hjk] at hun; exact hun
      refine wpOp_mono (fun a' w' h3 => ⟨h3.2.1, ih (listed.setIfInBounds j true) a' w' h3.2.1 hfree' (ready_mono hr (Ne.symm hji)) h3.1 ?_⟩) h2
      rw [Array.setIfInBounds_comm _ _ hji]
      exact h3.2.2
/-- What is left, in its one order. -/
def wpSeqC (P : Program) (ops : Array Oper) (C : World → Prop) (Q : Exit → Act → World → Prop) : List Nat → Act → World → Prop
  | [], a, w => Q .normal a w
  | k :: ks, a, w => wpOp P ops Q k (fun a' w' => C w' ∧ wpSeqC P ops C Q ks a' w') a w
def seqsB (md : Region.Mode) (ops : Array Oper) : List Nat → Array Bool → Bool
  | [], listed => (Region.ready md ops listed).isEmpty
  | k :: ks, listed => decide (Region.ready md ops listed = [k]) && seqsB md ops ks (listed.setIfInBounds k true)
theorem wpAnyC_seq : ∀ (ks : List Nat) (listed : Array Bool) (a : Act) (w : World), seqsB md ops ks listed = true → wpSeqC P ops C Q ks a w → wpAnyC P md ops C Q ks.length listed a w
  | [], _, _, _, hB, h => ⟨by simpa [seqsB] using hB, h⟩
  | k :: ks, listed, a, w, hB, h => by
    simp only [seqsB, Bool.and_eq_true, decide_eq_true_eq] at hB
    refine ⟨fun h1 => (by rw [hB.1] at h1; cases h1), fun i hi => ?_⟩
    rw [hB.1] at hi
    have hik : i = k := by simpa using hi
    subst hik
    exact wpOp_mono (fun a' w' h' => ⟨h'.1, wpAnyC_seq ks _ a' w' hB.2 h'.2⟩) h
/-- What reads. -/
def wpRd (P : Program) (ops : Array Oper) (C : World → Prop) (Qa : Act → Prop) : List Nat → Act → Prop
  | [], a => Qa a
  | k :: ks, a => ∃ o v, ops[k]? = some o ∧ ReadsV P ops C o v a ∧ wpRd P ops C Qa ks (a.put o.dst v)
def firstB (md : Region.Mode) (ops : Array Oper) (rs : List Nat) : List Nat → Array Bool → Bool
  | [], listed => seqsB md ops rs listed
  | k :: ks, listed => (Region.ready md ops listed).contains k && Region.free md ops listed k && firstB md ops rs ks (listed.setIfInBounds k true)
theorem wpAnyC_reads {rs : List Nat} (hs : Region.noSelect ops = true) (hQ : ∀ c t t' ds w, Q (.panic c) ⟨t, ds⟩ w → Q (.panic c) ⟨t', ds⟩ w) {w : World} (hC : C w) :
    ∀ (fs : List Nat) (listed : Array Bool) (a : Act), firstB md ops rs fs listed = true → wpRd P ops C (fun a' => wpSeqC P ops C Q rs a' w) fs a → wpAnyC P md ops C Q (fs.length + rs.length) listed a w
  | [], listed, a, hB, h => by
    rw [List.length_nil, Nat.zero_add]
    exact wpAnyC_seq rs listed a w (by simpa [firstB] using hB) h
  | k :: fs, listed, a, hB, ⟨o, v, ho, hy, h⟩ => by
    simp only [firstB, Bool.and_eq_true] at hB
    obtain ⟨⟨hr, hf⟩, hB'⟩ := hB
    rw [List.length_cons, show fs.length + 1 + rs.length = (fs.length + rs.length) + 1 by omega]
    exact wpAnyC_first ho (Region.noSelect_spec hs) (fun c a1 w1 => by cases o.dst with | none => exact id | some d => exact hQ c _ _ a1.defers w1) _ listed a w hC (Region.free_spec ho hf) (by simpa using hr) hy (wpAnyC_reads hs hQ hC fs _ _ hB' h)
def regB (ops : Array Oper) (fs rs : List Nat) : Bool := Region.noSelect ops && decide (fs.length + rs.length = ops.size) && firstB .any ops rs fs (Array.replicate ops.size false)
end
@[irreducible] def RSP (P : Program) (ops : Array Oper) (o : Oper) (a : Act) (C : World → Prop) (K : Act → Prop) : Prop := ∃ v, ReadsV P ops C o v a ∧ K (a.put o.dst v)
theorem rsp_out {P : Program} {ops : Array Oper} {o : Oper} {a : Act} {C : World → Prop} {K : Act → Prop} (h : RSP P ops o a C K) : ∃ v, ReadsV P ops C o v a ∧ K (a.put o.dst v) := by unfold RSP at h; exact h
theorem rsp_of {P : Program} {ops : Array Oper} {o : Oper} {a : Act} {C : World → Prop} {K : Act → Prop} (h : ∃ v, ReadsV P ops C o v a ∧ K (a.put o.dst v)) : RSP P ops o a C K := by unfold RSP; exact h
section
variable {P : Program} {opsl : List Oper} {ks : List Nat} {k : Nat} {o : Oper} {a : Act} {C : World → Prop} {Qa : Act → Prop} {Q : Exit → Act → World → Prop} {K : Act → Prop} {w : World}
theorem r_list (ho : opsl[k]? = some o) (h : ∀ K : Act → Prop, (∀ a, wpRd P opsl.toArray C Qa ks a → K a) → RSP P opsl.toArray o a C K) : wpRd P opsl.toArray C Qa (k :: ks) a := by
  obtain ⟨v, h1, h2⟩ := rsp_out (h _ fun _ h => h)
  exact ⟨o, v, by simpa using ho, h1, h2⟩
theorem r_nil (h : Qa a) : wpRd P opsl.toArray C Qa [] a := h
theorem s_step (ho : opsl[k]? = some o) (hg : o.guard = none) (h : ∀ K : Act → World → Prop, (∀ a w, C w → wpSeqC P opsl.toArray C Q ks a w → K a w) → OWP P o a w K Q) : wpSeqC P opsl.toArray C Q (k :: ks) a w :=
  wpOp_step (by simpa using ho) fun K hK => by rw [if_pos (wanted_none hg)]; exact owp_out (h K fun a' w' h1 h2 => hK a' w' ⟨h1, h2⟩)
theorem s_nil (h : Q .normal a w) : wpSeqC P opsl.toArray C Q [] a w := h
end
section
variable {P : Program} {ops : Array Oper} {C : World → Prop} {K : Act → Prop} {op : Op} {oty : TypeId} {pos : String} {after : Array Edge} {l l' : List Value} {ds : List Deferred} {o : Oper} {a : Act}
theorem r_pure {v : Value} (hg : o.guard = none) (hr : ∀ w, (execOp a.eval o).run P w = .ok (.value v) w) (h : K (a.put o.dst v)) : RSP P ops o a C K :=
  rsp_of ⟨v, ⟨wanted_none hg, fun w _ => hr w⟩, h⟩
theorem r_load {d : Nat} {ty : TypeId} {x : Operand} {x0 : Value} [h0 : Nth l d x0] (hi : ∃ w, C w) (h : ∀ w, C w → OWP P ⟨some d, .load ty x, oty, pos, after, none⟩ ⟨l.toArray, ds⟩ w (fun a' w' => w' = w ∧ a' = ⟨l'.toArray, ds⟩) (fun _ _ _ => False)) (hk : K ⟨l'.toArray, ds⟩) : RSP P ops ⟨some d, .load ty x, oty, pos, after, none⟩ ⟨l.toArray, ds⟩ C K := by
  have h1 := qsp_out (c_load (l' := l') (K := K) hi h hk)
  obtain ⟨v, h2, h3⟩ := h1
  refine rsp_of ⟨v, ⟨wanted_none rfl, fun w hw => ?_⟩, h3⟩
  have h4 := h2 w hw
  unfold Oper.quietAt execOp at h4
  unfold execOp
  simp only [Sem.run_bind] at h4 ⊢
  cases hr : (Instr.loadAt ty (Act.eval ⟨l.toArray, ds⟩ x)).run P w with
  | ok y w' =>
    rw [hr] at h4
    simp only [Result.andThen_ok, Sem.run_pure] at h4 ⊢
    obtain ⟨e1, e2⟩ := h4
    rw [e1, e2]
  | halt e w' =>
    rw [hr] at h4
    exact absurd h4 (by cases e <;> simp [Result.andThen, Oper.quietUpon])
end
/-- What is kept of a list. -/
class SubI (K L : List Ent) : Prop where
  sub : K.Sublist L
instance (priority := 1100) {L : List Ent} : SubI L L := ⟨List.Sublist.refl L⟩
instance {K L : List Ent} {e : Ent} [h : SubI K L] : SubI K (e :: L) := ⟨h.sub.cons e⟩
section
variable {P : Program} {At : PS → World → Prop} {b : Nat} {u w : World} {s : PS} {L : List Ent}
theorem Mem.sub {K L : List Ent} (M : Mem At b u w s L) (h : K.Sublist L) : Mem At b u w s K := by
  induction h with
  | slnil => exact M
  | cons a _ ih => exact ih M.drop
  | cons_cons a h ih =>
    have h1 : ∀ (K L : List Ent), K.Sublist L → ∀ A, Mem At b u w s (A ++ L) → Mem At b u w s (A ++ K) := by
      intro K L h
      induction h with
      | slnil => exact fun _ M => M
      | cons a _ ih => exact fun A M => ih A (M.cut A)
      | cons_cons a _ ih =>
        intro A M
        have := ih (A ++ [a]) (by simpa using M)
        simpa using this
    exact h1 _ _ (h.cons_cons a) [] M
theorem Mem.kept {K L : List Ent} [h : SubI K L] (M : Mem At b u w s L) : Mem At b u w s K := M.sub h.sub
theorem wp_region_first {K : List Ent} {id : Nat} {Q : Exit → Act → World → Prop} {a : Act} {l : List Oper} (fs rs : List Nat) (hKL : ∀ wx, Mem At b u wx s L → Mem At b u wx s K) (M : Mem At b u w s L) (hm : P.follows .mixedOrders = true) (hB : regB l.toArray fs rs = true)
    (hQ : ∀ c t t' ds w, Q (.panic c) ⟨t, ds⟩ w → Q (.panic c) ⟨t', ds⟩ w)
    (h : ∀ w', Mem At b u w' s L → wpRd P l.toArray (fun wx => Mem At b u wx s K) (fun a' => wpSeqC P l.toArray (fun wx => Mem At b u wx s K) Q rs a' w') fs a) : (Code.region id l.toArray true).wp P Q a w := by
  simp only [regB, Bool.and_eq_true, decide_eq_true_eq] at hB
  obtain ⟨⟨h1, h2⟩, h3⟩ := hB
  refine wp_region_any hm (wpAny_of_C (C := fun wx => Mem At b u wx s K) _ _ _ _ ?_)
  rw [← h2]
  have M2 : Mem At b u { w with drawn := w.drawn + 1 } s L := M.drew
  exact wpAnyC_reads h1 hQ (hKL _ M2) fs _ _ (by rw [h2]; exact h3) (h _ M2)
end
end Go.Proofs.YtcebfkdhicbmkaaDoor
