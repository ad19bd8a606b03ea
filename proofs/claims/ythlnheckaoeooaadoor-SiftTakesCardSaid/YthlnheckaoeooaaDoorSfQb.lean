/-
  The program's Check, eleventh part: of what types events come, in plain Lean; queues of texts.
-/
import Derived.Test.YthlnheckaoeooaaDoorPgJ
import Derived.ArgAppend
import Derived.Test.YthlnheckaoeooaaDoorChkO
import Derived.Test.YthlnheckaoeooaaDoorPgI
import Derived.Test.YthlnheckaoeooaaDoorValX
import Derived.Test.YthlnheckaoeooaaDoorOpen
import Derived.Test.YthlnheckaoeooaaDoorSfQa
import Derived.Test.YthlnheckaoeooaaDoorCopy
import Derived.Test.YthlnheckaoeooaaDoorMmW
import Derived.Deep.Quiet
namespace Go.Proofs.YthlnheckaoeooaaDoor
open Go.RowKit
set_option linter.unusedVariables false
set_option linter.unusedSimpArgs false

section
variable {rs : List Rul}
theorem comes_intro {k : Nat} {tt fr : ByteArray} {x : Rul} (hx : x ∈ rs) (h1 : emS x.etype = false) (h2 : speaks x fr = true) (h3 : sameS x.etype tt = true ∨ comesB rs k tt x.etype = true) : comesB rs (k + 1) tt fr = true := by
  unfold comesB
  refine List.any_eq_true.2 ⟨x, hx, ?_⟩
  rw [h1, h2]
  rcases h3 with h | h <;> simp [h]
theorem comes_elim {k : Nat} {tt fr : ByteArray} (h : comesB rs (k + 1) tt fr = true) : ∃ x ∈ rs, emS x.etype = false ∧ speaks x fr = true ∧ (sameS x.etype tt = true ∨ comesB rs k tt x.etype = true) := by
  unfold comesB at h
  obtain ⟨x, hx, h⟩ := List.any_eq_true.1 h
  refine ⟨x, hx, ?_⟩
  cases h1 : emS x.etype <;> cases h2 : speaks x fr <;> simp [h1, h2] at h ⊢
  exact h
theorem comes_mono1 : ∀ (k : Nat) (tt fr : ByteArray), comesB rs k tt fr = true → comesB rs (k + 1) tt fr = true
  | 0, tt, fr, h => by unfold comesB at h; cases h
  | k + 1, tt, fr, h => by
    obtain ⟨x, hx, h1, h2, h3⟩ := comes_elim h
    exact comes_intro hx h1 h2 (h3.imp id (comes_mono1 k tt x.etype))
theorem comes_mono {k m : Nat} {tt fr : ByteArray} (h : comesB rs k tt fr = true) (hm : k ≤ m) : comesB rs m tt fr = true := by
  induction hm with
  | refl => exact h
  | step _ ih => exact comes_mono1 _ _ _ ih
theorem comes_back : ∀ (k : Nat) (nm fr : ByteArray), comesB rs k nm fr = true → ∀ x ∈ rs, emS x.etype = false → speaks x nm = true → comesB rs (k + 1) x.etype fr = true
  | 0, nm, fr, h, _, _, _, _ => by unfold comesB at h; cases h
  | k + 1, nm, fr, h, x, hx, h1, h2 => by
    obtain ⟨y, hy, e1, e2, e3⟩ := comes_elim h
    refine comes_intro hy e1 e2 (.inr ?_)
    rcases e3 with e | e
    · have := sameS_eq e
      rw [this]
      exact comes_mono (comes_intro hx h1 h2 (.inl (sameS_self _)) : comesB rs (0 + 1) x.etype nm = true) (by omega)
    · exact comes_back k nm y.etype e x hx h1 h2
/-- How many rules emit what has not been seen. -/
def unseen (rs : List Rul) (seen : List ByteArray) : Nat := (rs.filter (fun x => !inS seen x.etype)).length
theorem unseen_nil (rs : List Rul) : unseen rs [] = rs.length := by
  have h : rs.filter (fun x => !inS [] x.etype) = rs := List.filter_eq_self.2 (fun x _ => rfl)
  unfold unseen
  rw [h]
theorem filter_less {α : Type} {p q : α → Bool} : ∀ (l : List α), (∀ x ∈ l, q x = true → p x = true) → (∃ x ∈ l, p x = true ∧ q x = false) → (l.filter q).length + 1 ≤ (l.filter p).length
  | [], _, ⟨x, hx, _⟩ => by cases hx
  | a :: r, h, ⟨x, hx, h1, h2⟩ => by
    have hle : ∀ (l : List α), (∀ x ∈ l, q x = true → p x = true) → (l.filter q).length ≤ (l.filter p).length := fun l => by
      induction l with
      | nil => intro _; exact Nat.le_refl _
      | cons b t ih =>
        intro hb
        have ht := ih (fun x hx => hb x (List.mem_cons_of_mem _ hx))
        have hb0 := hb b (List.mem_cons_self ..)
        cases hq : q b <;> cases hp : p b <;> simp [List.filter_cons, hq, hp] at hb0 ⊢ <;> omega
    rcases List.mem_cons.1 hx with rfl | hx'
    · have := hle r (fun y hy => h y (List.mem_cons_of_mem _ hy))
      simp only [List.filter_cons, h1, h2, if_true]
      simp
      exact this
    · have := filter_less r (fun y hy => h y (List.mem_cons_of_mem _ hy)) ⟨x, hx', h1, h2⟩
      have h0 := h a (List.mem_cons_self ..)
      cases hq : q a <;> cases hp : p a <;> simp [List.filter_cons, hq, hp] at h0 ⊢ <;> omega
theorem unseen_snoc {seen : List ByteArray} {x : Rul} (hx : x ∈ rs) (h : inS seen x.etype = false) : unseen rs (seen ++ [x.etype]) + 1 ≤ unseen rs seen := by
  unfold unseen
  refine filter_less rs (fun y _ hy => ?_) ⟨x, hx, by rw [h]; rfl, by rw [inS_snoc, sameS_self]; simp⟩
  rw [inS_snoc] at hy
  cases hq : inS seen y.etype <;> simp [hq] at hy ⊢
/-- Whatever comes of a by one rule below place j is seen. -/
def DoneTo (rs : List Rul) (seen : List ByteArray) (a : ByteArray) (j : Nat) : Prop := ∀ i (h : i < rs.length), i < j → emS rs[i].etype = false → speaks rs[i] a = true → inS seen rs[i].etype = true
theorem DoneTo.snoc {seen : List ByteArray} {a v : ByteArray} {j : Nat} (h : DoneTo rs seen a j) : DoneTo rs (seen ++ [v]) a j := fun i hi hij h1 h2 => by rw [inS_snoc, h i hi hij h1 h2]; rfl
/-- The search from fr on: seen, still to do, at hand down tt rule j. -/
structure Srch (rs : List Rul) (fr : ByteArray) (seen xs : List ByteArray) (cur : Option (ByteArray × Nat)) : Prop where
  come : ∀ s, inS seen s = true → comesB rs seen.length s fr = true
  known : ∀ s ∈ xs, s = fr ∨ inS seen s = true
  now : ∀ a j, cur = some (a, j) → (a = fr ∨ inS seen a = true) ∧ DoneTo rs seen a j
  done : ∀ a, (a = fr ∨ inS seen a = true) → a ∈ xs ∨ DoneTo rs seen a rs.length ∨ ∃ j, cur = some (a, j)
  few : seen.length + unseen rs seen ≤ rs.length
  small : xs.length + unseen rs seen ≤ 1 + rs.length
theorem srch_start (fr : ByteArray) : Srch rs fr [] [fr] none where
  come := fun s h => by cases h
  known := fun s h => .inl (List.mem_singleton.1 h)
  now := fun a j h => by cases h
  done := fun a h => by
    rcases h with rfl | h
    · exact .inl (List.mem_singleton.2 rfl)
    · cases h
  few := by rw [unseen_nil]; simp
  small := by rw [unseen_nil]; simp
theorem Srch.pop {fr x : ByteArray} {seen xs : List ByteArray} (h : Srch rs fr seen (x :: xs) none) : Srch rs fr seen xs (some (x, 0)) where
  come := h.come
  known := fun s hs => h.known s (List.mem_cons_of_mem _ hs)
  now := fun a j e => by
    injection e with e; injection e with e1 e2
    subst e1 e2
    exact ⟨h.known _ (List.mem_cons_self ..), fun i _ hi => absurd hi (Nat.not_lt_zero i)⟩
  done := fun a ha => by
    rcases h.done a ha with h1 | h1 | ⟨j, h1⟩
    · rcases List.mem_cons.1 h1 with rfl | h2
      · exact .inr (.inr ⟨0, rfl⟩)
      · exact .inl h2
    · exact .inr (.inl h1)
    · cases h1
  few := h.few
  small := by have := h.small; simp only [List.length_cons] at this; omega
theorem Srch.pass {fr a : ByteArray} {seen xs : List ByteArray} {j : Nat} (h : Srch rs fr seen xs (some (a, j))) (hj : j < rs.length) (hp : emS rs[j].etype = false → speaks rs[j] a = true → inS seen rs[j].etype = true) : Srch rs fr seen xs (some (a, j + 1)) where
  come := h.come
  known := h.known
  now := fun b k e => by
    injection e with e; injection e with e1 e2
    subst e1 e2
    obtain ⟨h1, h2⟩ := h.now _ _ rfl
    refine ⟨h1, fun i hi hij => ?_⟩
    rcases Nat.lt_succ_iff_lt_or_eq.1 hij with h3 | rfl
    · exact h2 i hi h3
    · exact hp
  done := fun b hb => by
    rcases h.done b hb with h1 | h1 | ⟨k, h1⟩
    · exact .inl h1
    · exact .inr (.inl h1)
    · injection h1 with h1; injection h1 with e1 e2
      subst e1
      exact .inr (.inr ⟨_, rfl⟩)
  few := h.few
  small := h.small
theorem Srch.add {fr a : ByteArray} {seen xs : List ByteArray} {j : Nat} (h : Srch rs fr seen xs (some (a, j))) (hj : j < rs.length) (h1 : emS rs[j].etype = false) (h2 : inS seen rs[j].etype = false) (h3 : speaks rs[j] a = true) : Srch rs fr (seen ++ [rs[j].etype]) (xs ++ [rs[j].etype]) (some (a, j + 1)) where
  come := fun s hs => by
    rw [List.length_append]
    rw [inS_snoc] at hs
    obtain ⟨k1, -⟩ := h.now _ _ rfl
    cases hq : inS seen s with
    | true => exact comes_mono (h.come s hq) (by simp)
    | false =>
      rw [hq] at hs
      have e := sameS_eq (show sameS rs[j].etype s = true by simpa using hs)
      rw [← e]
      have hm : rs[j] ∈ rs := List.getElem_mem hj
      rcases k1 with rfl | k1
      · exact comes_mono (comes_intro hm h1 h3 (.inl (sameS_self _)) : comesB rs (0 + 1) rs[j].etype a = true) (by simp)
      · exact comes_back _ _ _ (h.come a k1) _ hm h1 h3
  known := fun s hs => by
    rw [inS_snoc]
    rcases List.mem_append.1 hs with h4 | h4
    · rcases h.known s h4 with h5 | h5
      · exact .inl h5
      · exact .inr (by rw [h5]; rfl)
    · rw [List.mem_singleton.1 h4, sameS_self]; exact .inr (by simp)
  now := fun b k e => by
    injection e with e; injection e with e1 e2
    subst e1 e2
    obtain ⟨k1, k2⟩ := h.now _ _ rfl
    refine ⟨k1.imp id (fun k1 => by rw [inS_snoc, k1]; rfl), fun i hi hij => ?_⟩
    rcases Nat.lt_succ_iff_lt_or_eq.1 hij with h5 | rfl
    · exact k2.snoc i hi h5
    · intro _ _; rw [inS_snoc, sameS_self]; simp
  done := fun b hb => by
    rw [inS_snoc] at hb
    have key : (b = fr ∨ inS seen b = true) ∨ b = rs[j].etype := by
      rcases hb with hb | hb
      · exact .inl (.inl hb)
      · cases hq : inS seen b with
        | true => exact .inl (.inr rfl)
        | false => rw [hq] at hb; exact .inr (sameS_eq (show sameS rs[j].etype b = true by simpa using hb)).symm
    rcases key with hb | hb
    · rcases h.done b hb with h4 | h4 | ⟨k, h4⟩
      · exact .inl (List.mem_append.2 (.inl h4))
      · exact .inr (.inl h4.snoc)
      · injection h4 with h4; injection h4 with e1 e2
        subst e1
        exact .inr (.inr ⟨_, rfl⟩)
    · exact .inl (List.mem_append.2 (.inr (List.mem_singleton.2 hb)))
  few := by have := h.few; have := unseen_snoc (List.getElem_mem hj) h2; simp only [List.length_append, List.length_cons, List.length_nil]; omega
  small := by have := h.small; have := unseen_snoc (List.getElem_mem hj) h2; simp only [List.length_append, List.length_cons, List.length_nil]; omega
theorem Srch.next {fr a : ByteArray} {seen xs : List ByteArray} (h : Srch rs fr seen xs (some (a, rs.length))) : Srch rs fr seen xs none where
  come := h.come
  known := h.known
  now := fun b k e => by cases e
  done := fun b hb => by
    rcases h.done b hb with h1 | h1 | ⟨k, h1⟩
    · exact .inl h1
    · exact .inr (.inl h1)
    · injection h1 with h1; injection h1 with e1 e2
      subst e1
      exact .inr (.inl (h.now _ _ rfl).2)
  few := h.few
  small := h.small
theorem Srch.all {fr : ByteArray} {seen : List ByteArray} (h : Srch rs fr seen [] none) : ∀ (k : Nat) (a s : ByteArray), (a = fr ∨ inS seen a = true) → comesB rs k s a = true → inS seen s = true
  | 0, a, s, _, hc => by unfold comesB at hc; cases hc
  | k + 1, a, s, ha, hc => by
    obtain ⟨y, hy, e1, e2, e3⟩ := comes_elim hc
    obtain ⟨i, hi, rfl⟩ := List.mem_iff_getElem.1 hy
    have hd : DoneTo rs seen a rs.length := by
      rcases h.done a ha with h1 | h1 | ⟨j, h1⟩
      · cases h1
      · exact h1
      · cases h1
    have hse := hd i hi hi e1 e2
    rcases e3 with e | e
    · rw [← sameS_eq e]; exact hse
    · exact h.all k _ s (.inr hse) e
theorem Srch.ends {fr : ByteArray} {seen : List ByteArray} (h : Srch rs fr seen [] none) (s : ByteArray) : inS seen s = comesB rs rs.length s fr := by
  rw [Bool.eq_iff_iff]
  refine ⟨fun hs => comes_mono (h.come s hs) (by have := h.few; omega), fun hs => h.all _ fr s (.inl rfl) hs⟩
end
end Go.Proofs.YthlnheckaoeooaaDoor
/-
  Queues of texts, as parts of a function's own memory.
-/
namespace Go.Proofs.YthlnheckaoeooaaDoor
open Go.RowKit
set_option linter.unusedVariables false
set_option linter.unusedSimpArgs false

/-- From cell off of block g on: a queue of these texts, with room for cap. -/
def QueW (g off cap : Nat) (xs : List ByteArray) (w : World) : Prop := xs.length ≤ cap ∧ cap ≤ maxLen ∧ ∃ cs t, Own g cs t w ∧ off + cap ≤ cs.length ∧ ∀ i (h : i < xs.length), cs[off + i]? = some (.string xs[i])
def que (g off cap : Nat) (xs : List ByteArray) : Ent := ⟨some g, fun _ w => QueW g off cap xs w⟩
theorem que_firm (g off cap : Nat) (xs : List ByteArray) : (que g off cap xs).firm := fun F G w w' _ _ hz hlt h => by
  obtain ⟨h1, h2, cs, t, h3, h4⟩ := h
  exact ⟨h1, h2, cs, t, (hz g rfl (hlt g rfl)).trans h3, h4⟩
theorem laid_one (cs : List Value) (o : Nat) (v : Value) (h : o < cs.length) : laid cs o [v] = cs.set o v := by
  unfold laid
  rw [List.set_eq_take_append_cons_drop, if_pos h]
  simp
section
variable {P : Program} {o : Oper} {a : Act} {Q : Exit → Act → World → Prop} {K : Act → World → Prop}
variable {At : PS → World → Prop} {b : Nat} {u w : World} {s : PS} {L : List Ent}
theorem Mem.asQue {q : Nat} {s1 : ByteArray} {t : TypeId} (M : Mem At b u w s (own q [.string s1] t :: L)) : Mem At b u w s (que q 0 1 [s1] :: L) :=
  M.turn _ (que_firm _ _ _ _) (fun z hz => hz) (fun F G _ _ h => ⟨Nat.le_refl _, by decide, _, _, h, Nat.le_refl _, fun i hi => by
    have e : i = 0 := by simpa using hi
    subst e
    rfl⟩)
theorem Mem.quePop {i g off cap : Nat} {x : ByteArray} {xs : List ByteArray} (M : Mem At b u w s L) (hi : L[i]? = some (que g off cap (x :: xs))) : Mem At b u w s (L.set i (que g (off + 1) (cap - 1) xs)) :=
  M.alter _ hi (que_firm _ _ _ _) (fun z hz => hz) (fun F G _ _ h => by
    obtain ⟨h1, h2, cs, t, h3, h4, h5⟩ := h
    simp only [List.length_cons] at h1
    refine ⟨by omega, by omega, cs, t, h3, by omega, fun j hj => ?_⟩
    have := h5 (j + 1) (by simp; omega)
    rw [Nat.add_assoc, Nat.add_comm 1 j]
    simpa using this)
theorem Mem.queHead {i g off cap : Nat} {x : ByteArray} {xs : List ByteArray} (M : Mem At b u w s L) (hi : L[i]? = some (que g off cap (x :: xs))) : w.cell? ⟨g, off, none⟩ = some (.string x) := by
  have h : QueW g off cap (x :: xs) w := M.say _ (Mem.of_get hi)
  obtain ⟨-, -, cs, t, h3, -, h5⟩ := h
  rw [h3.cell]
  exact h5 0 (by simp)
theorem Mem.queLe {i g off cap : Nat} {xs : List ByteArray} (M : Mem At b u w s L) (hi : L[i]? = some (que g off cap xs)) : xs.length ≤ cap ∧ cap ≤ maxLen := by
  have h : QueW g off cap xs w := M.say _ (Mem.of_get hi)
  exact ⟨h.1, h.2.1⟩
theorem op_quePush (M : Mem At b u w s L) {t e : Nat} (hT : RowT P t e 1) (sl x : Operand) (ho : o.op = .call { callee := .builtin .append, args := #[sl, x], argTypes := #[t, t] }) (hty : o.type = t)
    {g off cap n i q : Nat} {xs : List ByteArray} {y : ByteArray} {te : TypeId} (hs : a.eval sl = .slice (some ⟨g, off, none⟩) n cap) (hn : n = xs.length) (hx : a.eval x = .slice (some ⟨q, 0, none⟩) 1 1) (hi : L[i]? = some (que g off cap xs)) (hq : own q [.string y] te ∈ L) (hsm : xs.length ≤ 1000001)
    (h : ∀ g' off' cap' w', Mem At b u w' s (L.set i (que g' off' cap' (xs ++ [y]))) → K (a.put o.dst (.slice (some ⟨g', off', none⟩) (n + 1) cap')) w') : o.wp P a w K Q := by
  subst hn
  obtain ⟨g1, ti, z, g2, g3, g4, g5, g6, g7, g8, g9⟩ := hT.open
  have hQ : QueW g off cap xs w := M.say _ (Mem.of_get hi)
  obtain ⟨h1, h2, cs, t0, h3, h4, h5⟩ := hQ
  have hO := M.own_ hq
  have hlow := M.low _ (Mem.of_get hi) g rfl
  have hbl : b < w.heap.size := Nat.lt_of_lt_of_le M.lt M.size
  have hgb : g ≠ b := by have := M.lt; omega
  by_cases hr : xs.length + 1 ≤ cap
  · have hrun := run_append_room_cells (P := P) w t t e ti g1 g2 g off xs.length cap ⟨q, 0, none⟩ 1 1 [.string y] (by rw [g4]; rfl) (fun j c hj => by rw [Go.WideShapes.add_plain, Nat.zero_add, hO.cell]; exact hj) (fun c hc => by rw [List.mem_singleton.1 hc]; rfl) hr
      (fun j hj => by
        have e0 : j = 0 := by simpa using hj
        subst e0
        rw [g4, Nat.mul_one, Nat.add_zero, h3.cell, List.getElem?_eq_getElem (by omega)]; rfl)
      (fun j hj => h3.frozen _)
    rw [g4, Nat.mul_one] at hrun
    have hput : Put g w (w.setCells g (off + xs.length) [.string y]) := Put.setCells _ _ _
    have hown : Own g (laid cs (off + xs.length) [.string y]) t0 (w.setCells g (off + xs.length) [.string y]) := Own.setCells [.string y] (off + xs.length) cs w h3 (by simp; omega)
    rw [laid_one _ _ _ (by omega)] at hown
    refine wp_append_run sl x t ho hty hs hx hrun ?_
    refine h g off cap _ (M.setAt hi (M.stay s w _ (hput.rest b (fun e => hgb e.symm)) M.at_) (M.but.puts hput hlow.1 M.lt) (by rw [hput.size]; exact Nat.le_refl _) (fun k _ _ hk2 => hput.rest k (fun e => hk2 (by rw [e]; rfl))) (que_firm _ _ _ _) (fun y hy => ?_) (fun y hy => .inr hy) (fun G _ _ => ?_))
    · have e : g = y := by injection hy
      subst e
      exact ⟨hlow.1, by rw [hput.size]; exact hlow.2⟩
    · refine ⟨by simpa using hr, h2, _, _, hown, by simpa using h4, fun j hj => ?_⟩
      rw [List.getElem?_set]
      simp only [List.length_append, List.length_cons, List.length_nil] at hj
      by_cases hjx : j = xs.length
      · subst hjx
        rw [if_pos rfl, if_pos (by omega)]
        simp
      · rw [if_neg (by omega), h5 j (by omega)]
        congr 2
        rw [List.getElem_append_left]
  · obtain ⟨v', w', hrun, ho', hg⟩ := run_append_arg_grows (P := P) w t t e ti z 1 ti.bytes g1 g2 g3 g4 rfl g5 g6 ⟨g, off, none⟩ xs.length cap (xs.map .string) (by simp) (fun j c hj => by
        rw [Go.WideShapes.add_plain, h3.cell]
        rw [List.getElem?_map] at hj
        cases hx : xs[j]? with
        | none => rw [hx] at hj; cases hj
        | some sx =>
          rw [hx] at hj
          obtain ⟨hjl, hje⟩ := List.getElem?_eq_some_iff.1 hx
          rw [h5 j hjl, hje]
          exact hj) ⟨q, 0, none⟩ 1 1 [.string y] (by simp) (fun j c hj => by rw [Go.WideShapes.add_plain, Nat.zero_add, hO.cell]; exact hj) (by omega) (by unfold maxLen; omega) (Nat.le_trans (Nat.mul_le_mul_left _ g9) (by omega))
    refine wp_append_run sl x t ho hty hs hx hrun ?_
    rcases ho'.2 with ⟨_, h0⟩ | ⟨g', cap', cur, rfl, hg', hh, hnc, hcm, hsz, htk⟩
    · omega
    · have hlt' : g' < w'.heap.size := (Array.getElem?_eq_some_iff.1 hh).1
      refine h g' 0 cap' w' (M.setAt hi (M.stay s w w' (hg.block b hbl (by simp)) M.at_) (M.but.step ⟨hg.os, hg.tape, hg.output, hg.size, fun k hk => hg.block k hk (by simp)⟩ (Nat.le_of_lt hbl)) hg.size (fun k hk _ _ => hg.block k hk (by simp)) (que_firm _ _ _ _) (fun y hy => ?_) (fun y hy => ?_) (fun G _ _ => ?_))
      · have e : g' = y := by injection hy
        subst e
        exact ⟨Nat.le_trans M.size hg', hlt'⟩
      · have e : g' = y := by injection hy
        subst e
        exact .inl hg'
      · refine ⟨by simpa using hnc, hcm, cur.toList, e, by unfold Own; simpa using hh, by simp; omega, fun j hj => ?_⟩
        simp only [List.length_append, List.length_cons, List.length_nil] at hj
        have hk : (cur.toList.take ((xs.length + 1) * 1))[j]? = (xs.map Value.string ++ [Value.string y])[j]? := by rw [htk]
        rw [List.getElem?_take, if_pos (by omega)] at hk
        rw [Nat.zero_add, hk]
        by_cases hjx : j = xs.length
        · subst hjx
          simp
        · rw [List.getElem?_append_left (by simp; omega), List.getElem?_map, List.getElem?_eq_getElem (by omega)]
          simp only [Option.map_some]
          congr 2
          rw [List.getElem_append_left]
end
section
variable {P : Program} {dst : Option Tmp} {pos : String} {after : Array Edge} {g0 : Option (Nat × Bool)} {l : List Value} {ds : List Deferred} {Q : Exit → Act → World → Prop} {K : Act → World → Prop}
variable {At : PS → World → Prop} {b : Nat} {u w : World} {s : PS} {L : List Ent} {ty j j' : Nat}
theorem q_push (M : Mem At b u w s L) {e g off cap n iq q : Nat} {xs : List ByteArray} {y : ByteArray} {te : TypeId} [hT : RowI P ty e 1] [hs : Nth l j (.slice (some ⟨g, off, none⟩) n cap)] [hx : Nth l j' (.slice (some ⟨q, 0, none⟩) 1 1)] [hq : Has L q iq [.string y] te] (i : Nat) (hi : L[i]? = some (que g off cap xs)) (hn : n = xs.length) (hsm : xs.length ≤ 1000001)
    {F : Nat → Nat → Nat → List Value} [hd : ∀ g' off' cap', PutI l dst (.slice (some ⟨g', off', none⟩) (n + 1) cap') (F g' off' cap')] (h : ∀ g' off' cap' w', Mem At b u w' s (L.set i (que g' off' cap' (xs ++ [y]))) → K ⟨(F g' off' cap').toArray, ds⟩ w') :
    OWP P ⟨dst, .call { callee := .builtin .append, args := #[.tmp j, .tmp j'], argTypes := #[ty, ty] }, ty, pos, after, g0⟩ ⟨l.toArray, ds⟩ w K Q :=
  owp_of (op_quePush M hT.row _ _ rfl rfl (eval_tmp hs.nth) hn (eval_tmp hx.nth) hi (Mem.of_get hq.at_) hsm (fun g' off' cap' w' M' => by rw [(hd g' off' cap').put]; exact h g' off' cap' w' M'))
end
end Go.Proofs.YthlnheckaoeooaaDoor
/-
  The walks of the program's Check, twelfth part: of what types events come. Printed by pgm.py.
-/
namespace Go.Proofs.YthlnheckaoeooaaDoor
open Go.RowKit
set_option linter.unusedVariables false
set_option linter.unusedSimpArgs false

section
variable {g : Nat} {F : Nat → Prop} {w0 : World} {a2 : Option Addr} {n2 c2 : Nat} {rs : List Rul}
theorem idx_zero {gq oq n cq : Nat} (hn : 0 < n) : ∀ wx, (Instr.indexAt 63 (.slice (some ⟨gq, oq, none⟩) n cq) (.int .i64 0)).run Tryd.prog wx = .ok (.pointer (some ⟨gq, oq, none⟩)) wx := fun wx => by
  have hs : SizeIs Tryd.prog 9 1 := fun w => by kernel_rfl
  have hsw := hs wx
  simp [Instr.indexAt, run_underlying Tryd.underlying63, asIntOf, hsw, Addr.add]
  omega
theorem Mem.quePop0 {At : PS → World → Prop} {b : Nat} {u w : World} {s : PS} {L : List Ent} {gq oq : Nat} {x : ByteArray} (M : Mem At b u w s (que gq oq 1 [x] :: L)) : Mem At b u w s (que gq oq (1 - 1) [] :: L) :=
  M.turn _ (que_firm _ _ _ _) (fun z hz => hz) (fun F G _ _ h => by
    obtain ⟨h1, h2, cs, t, h3, h4, h5⟩ := h
    exact ⟨Nat.le_refl _, by decide, cs, t, h3, by omega, fun j hj => absurd hj (Nat.not_lt_zero j)⟩)
/-- The set of what comes of events of a type, as a map. -/
def ReachPost (rs : List Rul) (fr : ByteArray) (w : World) : Ending → World → Prop := fun e w' =>
  ∃ zm m f, e = .returned (.map (some zm)) ∧ Below w.heap.size w w' ∧ MapOf Tryd.prog 9 w' zm m f ∧ ∀ s, f s = if comesB rs rs.length s fr = true then some (.bool true) else none
set_option maxRecDepth 8000 in
set_option maxHeartbeats 8000000 in
theorem reach_any (hg : g < w0.heap.size) (fr : ByteArray) (zb : Nat) (hz : zb < w0.heap.size) (h1 : w0.cell? ⟨zb, 1, none⟩ = some (.slice a2 n2 c2)) (X2 : SlF F w0 7 rulF a2 n2 c2 rs) (hes : ∀ x ∈ rs, x.etype.size ≤ maxLen) (hn : rs.length ≤ 1000000) : Calls Tryd.prog 55 #[.string fr, .pointer (some ⟨zb, 0, none⟩)] w0 (ReachPost rs fr w0) := by
  have M := Mem.begin hg ⟨0, 0⟩
  have N2 := Lib.hid X2.len
  have hle2 := X2.le
  have HB1 : Hid (∀ wx, Below w0.heap.size w0 wx → wx.cell? ⟨zb, 1, none⟩ = some (.slice a2 n2 c2)) := fun wx hb => by rw [(bcell hb).1 _ _ hz]; exact h1
  have HX := Lib.hid X2
  have HES := Lib.hid hes
  have HG := Lib.hid hg
  replace hn := Lib.hid hn
  clear hg hz h1 X2 hes
  go_enter Tryd.func55, Tryd.ntmps55
  go_wp2_with (first | (with_reducible (first | (refine w_ (q_map (t := 121) M ?_); clear M; intro zm w M) | (refine w_ (q_row1 M ?_); clear M; intro q w M; replace M := M.asQue) | refine wl M ?_ | refine wlg M ?_ | (refine ws M ?_; clear M; intro w M) | (refine wsc M ?_; clear M; intro w M) | (refine wV M ?_; clear M; intro z w M) | (refine wR M ?_; clear M; intro q w M) | refine o_skipT ?_ | refine o_skipF ?_)))
  go_loopg [5] (1 + rs.length) (fun fu v wr => ∃ (gq oq cq n : Nat) (xs seen : List ByteArray) (m : Nat) (ft : MapF), v = .slice (some ⟨gq, oq, none⟩) n cq ∧ Hid (n = xs.length) ∧ Mem (StaysB g w0) g w0 wr ⟨0, 0⟩ (que gq oq cq xs :: mp Tryd.prog 9 zm m ft :: []) ∧ Hid (m ≤ seen.length) ∧ Hid (TakF ft seen) ∧ Hid (Srch rs fr seen xs none) ∧ Hid (xs.length + unseen rs seen ≤ fu))
  case atStart => exact ⟨_, _, _, 1, [fr], [], 0, noneF, rfl, Lib.hid rfl, M, Lib.hid (Nat.le_refl _), takF_none, srch_start fr, (srch_start fr).small⟩
  case round =>
    clear M
    obtain ⟨gq, oq, cq, n, xs, seen, m, ft, rfl, HN, M, HM, HT, HS, HF⟩ := hrel
    cases xs with
    | nil =>
      have hn0 : n = 0 := HN.out
      subst hn0
      have HV : Hid (∀ s, ft s = if comesB rs rs.length s fr = true then some (.bool true) else none) := fun s => by rw [HT.out s, HS.out.ends s]
      clear HN HT HS HF
      go_wp2_with (first | (with_reducible (first | refine wl M ?_ | refine wlg M ?_ | (refine ws M ?_; clear M; intro w M) | (refine wsc M ?_; clear M; intro w M) | (refine wV M ?_; clear M; intro z w M) | (refine wR M ?_; clear M; intro q w M) | refine o_skipT ?_ | refine o_skipF ?_)))
      go_ret
      exact ⟨zm, m, ft, rfl, M.new, M.map_ (i := 1) rfl, HV.out⟩
    | cons x xs =>
      have hn1 : n = xs.length + 1 := HN.out
      have hcq := M.queLe (i := 0) rfl
      have hc1 : xs.length + 1 ≤ cq := hcq.1
      have hix := idx_zero (gq := gq) (oq := oq) (n := n) (cq := cq) (by omega)
      have hnp : decide ((0 : Int) < n) = true := by simp; omega
      have HS2 := Lib.hid HS.out.pop
      obtain ⟨f0, hf0⟩ : ∃ f0, f0 = gk - 1 := ⟨_, rfl⟩
      have HF2 : Hid (xs.length + unseen rs seen ≤ f0) := by have := HF.out; simp only [List.length_cons] at this; show _ ≤ _; omega
      have hgk : 1 ≤ gk := by have := HF.out; simp only [List.length_cons] at this; omega
      have hlo : 1 ≤ n := by omega
      have hhi : n ≤ cq := by omega
      have hxl : Hid (cq = 1 → xs = []) := fun h => List.eq_nil_of_length_eq_zero (by omega)
      have HN1 : Hid (n - 1 = xs.length) := by show _ = _; omega
      replace hn1 := Lib.hid hn1
      clear HS HF hcq hc1
      go_upto_region 5 with (first | (with_reducible (first | refine wC (M.queHead (i := 0) rfl) ?_ | refine wl M ?_ | refine wlg M ?_ | (refine ws M ?_; clear M; intro w M) | (refine wsc M ?_; clear M; intro w M) | (refine wV M ?_; clear M; intro z w M) | (refine wR M ?_; clear M; intro q w M) | refine o_skipT ?_ | refine o_skipF ?_)))
      go_cut [5] (fun v wx => ∃ oq', v = .slice (some ⟨gq, oq', none⟩) (n - 1) (cq - 1) ∧ Mem (StaysB g w0) g w0 wx ⟨0, 0⟩ (que gq oq' (cq - 1) xs :: mp Tryd.prog 9 zm m ft :: []))
      case first =>
        by_cases hq1 : cq = 1
        · have hx0 := hxl.out hq1
          subst hq1
          subst hx0
          go_wp2_with fail
          go_meet
          case rel => exact ⟨oq, by (have e : n = 1 := hn1.out; rw [e]), M.quePop0⟩
        · have hq2 : ¬ cq - 1 = 0 := by omega
          go_wp2_with fail
          go_meet
          case rel => exact ⟨oq + 1, rfl, M.quePop (i := 0) rfl⟩
      case rest =>
      clear M
      obtain ⟨oq', rfl, M⟩ := hcut
      clear hix
      go_wp2_with (first | (with_reducible (first | refine wl M ?_ | refine wlg M ?_ | (refine ws M ?_; clear M; intro w M) | (refine wsc M ?_; clear M; intro w M) | (refine wV M ?_; clear M; intro z w M) | (refine wR M ?_; clear M; intro q w M) | refine o_skipT ?_ | refine o_skipF ?_ | refine wC (HB1.out _ M.new) ?_)))
      have HSM : Hid (xs.length + unseen rs seen ≤ f0) := HF2
      go_loopg [5, 24] n2 (fun fu v i wr => ∃ (j gq oq cq n : Nat) (xs seen : List ByteArray) (m : Nat) (ft : MapF), j + fu = n2 ∧ v = .slice (some ⟨gq, oq, none⟩) n cq ∧ i = .int .i64 j ∧ Hid (n = xs.length) ∧ Mem (StaysB g w0) g w0 wr ⟨0, 0⟩ (que gq oq cq xs :: mp Tryd.prog 9 zm m ft :: []) ∧ Hid (m ≤ seen.length) ∧ Hid (TakF ft seen) ∧ Hid (Srch rs fr seen xs (some (x, j))) ∧ Hid (xs.length + unseen rs seen ≤ f0))
      case atStart => exact ⟨0, gq, oq', cq - 1, n - 1, xs, seen, m, ft, by omega, rfl, rfl, HN1, M, HM, HT, HS2, HF2⟩
      case round =>
        clear M HN HN1 HM HT HS2 HF2 HSM hxl hn1 hnp
        clear hlo hhi
        clear seen ft
        obtain ⟨j, gq, oq, cq, n, xs, seen, m, ft, hj, rfl, rfl, HN, M, HM, HT, HS, HF⟩ := hrel
        by_cases hlt : j < n2
        · have hkl : j < rs.length := by have := N2.out; omega
          obtain ⟨cr, or, rowr, hixr, -, hrrr, hwr⟩ := SlF.rowAt (P := Tryd.prog) HX.out rulF_firm Tryd.underlying23 size_rul (i := j) hkl
          have hes : Hid (rs[j].etype.size ≤ maxLen) := HES.out _ (List.getElem_mem hkl)
          have HU : Hid (∀ wx, Below w0.heap.size w0 wx → Calls Tryd.prog 56 #[.agg rowr.toArray, .string x] wx fun e w' => e = .returned (.bool (speaks rs[j] x)) ∧ Below wx.heap.size wx w') := fun wx hb =>
            uses_any (Nat.lt_of_lt_of_le HG.out hb.size) rs[j] rowr (rulF_firm _ _ _ _ _ _ (Same.below hb) hrrr) x
          obtain ⟨b1, m1, e1, b2, m2, e2, b3, m3, e3, b4, m4, e4, b6, m6, e6, rfl, -⟩ := hrrr
          have HR := Lib.hid (fun wx hb => (hwr wx hb).1)
          have HPS := Lib.hid (HS.out.pass hkl)
          have HAD := Lib.hid (HS.out.add hkl)
          have hsm : Hid (xs.length ≤ 1000001) := by have := HS.out.small; have := hn.out; show _ ≤ _; omega
          have hmm : Hid (m < maxLen) := by have := HM.out; have := HS.out.few; have := hn.out; show _ < _; unfold maxLen; omega
          have hcnt : Hid (inS seen rs[j].etype = false → unseen rs (seen ++ [rs[j].etype]) + 1 ≤ unseen rs seen) := unseen_snoc (List.getElem_mem hkl)
          have HLB0 : Hid ((ft rs[j].etype).getD (.bool false) = .bool (inS seen rs[j].etype)) := by show _ = _; rw [HT.out]; cases inS seen rs[j].etype <;> rfl
          clear hwr HS
          generalize rs[j] = y at HU HR HPS HAD hes HLB0 hcnt
          clear hkl
          unfold rulC at HR HU
          cases h1 : emS y.etype with
          | true =>
            have he0 : y.etype.toList = [] := by simpa [emS] using h1
            have HSN := Lib.hid (HPS.out (fun h => absurd (h1.symm.trans h) (by decide)))
            clear HPS HAD h1
            go_wp2_with (first | (with_reducible (first | (refine wV M ?_; clear M; intro zx w M) | refine wl M ?_ | refine wlg M ?_ | (refine ws M ?_; clear M; intro w M) | (refine wsc M ?_; clear M; intro w M) | (refine wV M ?_; clear M; intro z w M) | (refine wR M ?_; clear M; intro q w M) | refine o_skipT ?_ | refine o_skipF ?_ | refine wA (HR.out _ M.new) ?_)))
            go_roundg (n2 - (j + 1))
            case measure => omega
            case rel => exact ⟨j + 1, _, _, _, _, _, _, _, _, by omega, rfl, by go_num, HN, M.drop, HM, HT, HSN, HF⟩
          | false =>
            have he0 : y.etype.toList.isEmpty = false := h1
            cases h2 : inS seen y.etype with
            | true =>
              have HLB := HLB0
              rw [h2] at HLB
              have HSN := Lib.hid (HPS.out (fun _ _ => h2))
              clear HPS HAD h1 h2 HLB0
              go_wp2_with (first | (with_reducible (first | (refine wV M ?_; clear M; intro zx w M) | refine wl M ?_ | refine wlg M ?_ | (refine ws M ?_; clear M; intro w M) | (refine wsc M ?_; clear M; intro w M) | (refine wV M ?_; clear M; intro z w M) | (refine wR M ?_; clear M; intro q w M) | refine o_skipT ?_ | refine o_skipF ?_ | refine wA (HR.out _ M.new) ?_)) | (first | ((with_reducible refine o_listg fun K hK => ?_); refine q_lookb (M.map_ (i := 2) rfl) hes.out HLB.out ?_; refine hK _ _ ?_; clear hK K) | ((with_reducible refine o_list rfl fun K hK => ?_); refine q_lookb (M.map_ (i := 2) rfl) hes.out HLB.out ?_; refine hK _ _ ?_; clear hK K)))
              go_roundg (n2 - (j + 1))
              case measure => omega
              case rel => exact ⟨j + 1, _, _, _, _, _, _, _, _, by omega, rfl, by go_num, HN, M.drop, HM, HT, HSN, HF⟩
            | false =>
              have HLB := HLB0
              rw [h2] at HLB
              cases h3 : speaks y x with
              | false =>
                rw [h3] at HU
                have HSN := Lib.hid (HPS.out (fun _ h => absurd (h3.symm.trans h) (by decide)))
                clear HPS HAD h1 h2 h3 HLB0
                go_wp2_with (first | (with_reducible (first | (refine wV M ?_; clear M; intro zx w M) | refine wl M ?_ | refine wlg M ?_ | (refine ws M ?_; clear M; intro w M) | (refine wsc M ?_; clear M; intro w M) | (refine wV M ?_; clear M; intro z w M) | (refine wR M ?_; clear M; intro q w M) | refine o_skipT ?_ | refine o_skipF ?_ | refine wA (HR.out _ M.new) ?_)) | (first | ((with_reducible refine o_listg fun K hK => ?_); refine q_lookb (M.map_ (i := 2) rfl) hes.out HLB.out ?_; refine hK _ _ ?_; clear hK K) | ((with_reducible refine o_list rfl fun K hK => ?_); refine q_lookb (M.map_ (i := 2) rfl) hes.out HLB.out ?_; refine hK _ _ ?_; clear hK K)) | (go_at_call 56; with_reducible refine (HU.out _ M.new).mono ?_; rintro e w5 ⟨rfl, hb5⟩; replace M := M.below hb5; clear hb5))
                go_roundg (n2 - (j + 1))
                case measure => omega
                case rel => exact ⟨j + 1, _, _, _, _, _, _, _, _, by omega, rfl, by go_num, HN, M.drop, HM, HT, HSN, HF⟩
              | true =>
                rw [h3] at HU
                have HSN := Lib.hid (HAD.out h1 h2 h3)
                have HFN : Hid ((xs ++ [y.etype]).length + unseen rs (seen ++ [y.etype]) ≤ f0) := by have := HF.out; have := hcnt.out h2; show _ ≤ _; simp only [List.length_append, List.length_cons, List.length_nil]; omega
                have HMN : Hid (m + 1 ≤ (seen ++ [y.etype]).length) := by have := HM.out; show _ ≤ _; simp only [List.length_append, List.length_cons, List.length_nil]; omega
                have HTN := Lib.hid (HT.out.snoc y.etype)
                have HNN : Hid (n + 1 = (xs ++ [y.etype]).length) := by have := HN.out; show _ = _; simp only [List.length_append, List.length_cons, List.length_nil]; omega
                clear HPS HAD h1 h2 h3 HLB0
                go_wp2_with (first | (with_reducible (first | (refine wV M ?_; clear M; intro zx w M) | (refine w_ (q_row1 M ?_); clear M; intro q w M) | refine wl M ?_ | refine wlg M ?_ | (refine ws M ?_; clear M; intro w M) | (refine wsc M ?_; clear M; intro w M) | (refine wV M ?_; clear M; intro z w M) | (refine wR M ?_; clear M; intro q w M) | refine o_skipT ?_ | refine o_skipF ?_ | refine wA (HR.out _ M.new) ?_ | (refine w_ (q_mset (v := .bool true) rfl (M.map_ (i := 2) rfl) hmm.out hes.out ?_); intro wu hou hbu; replace M := M.remap (i := 2) rfl hbu hou; clear hou hbu; (simp only [List.set_cons_zero, List.set_cons_succ] at M)) | (refine w_ (q_push M 2 rfl HN.out hsm.out ?_); clear M; intro gq2 oq2 cq2 w M; (simp only [List.set_cons_zero, List.set_cons_succ] at M)))) | (first | ((with_reducible refine o_listg fun K hK => ?_); refine q_lookb (M.map_ (i := 2) rfl) hes.out HLB.out ?_; refine hK _ _ ?_; clear hK K) | ((with_reducible refine o_list rfl fun K hK => ?_); refine q_lookb (M.map_ (i := 2) rfl) hes.out HLB.out ?_; refine hK _ _ ?_; clear hK K)) | (go_at_call 56; with_reducible refine (HU.out _ M.new).mono ?_; rintro e w5 ⟨rfl, hb5⟩; replace M := M.below hb5; clear hb5))
                go_roundg (n2 - (j + 1))
                case measure => omega
                case rel => exact ⟨j + 1, _, _, _, _, _, _, _, _, by omega, rfl, by go_num, HNN, M.drop.drop, HMN, HTN, HSN, HFN⟩
        · have hjn : j = rs.length := by have := N2.out; omega
          have HSN : Hid (Srch rs fr seen xs none) := by
            have h := HS.out
            rw [hjn] at h
            exact h.next
          clear HS
          go_wp2_with (first | (with_reducible (first | refine wl M ?_ | refine wlg M ?_ | (refine ws M ?_; clear M; intro w M) | (refine wsc M ?_; clear M; intro w M) | (refine wV M ?_; clear M; intro z w M) | (refine wR M ?_; clear M; intro q w M) | refine o_skipT ?_ | refine o_skipF ?_)))
          go_roundg f0
          case measure => omega
          case rel => exact ⟨_, _, _, _, _, _, _, _, rfl, HN, M, HM, HT, HSN, HF⟩
end
end Go.Proofs.YthlnheckaoeooaaDoor
/-
  The walks of the program's Check, thirteenth part: books that never end. Printed by pgn.py.
-/
namespace Go.Proofs.YthlnheckaoeooaaDoor
open Go.RowKit
set_option linter.unusedVariables false
set_option linter.unusedSimpArgs false

theorem oneG : OneT Tryd.prog 128 := ⟨by kernel_rfl, _, Tryd.underlying128, rfl⟩
instance : OneI Tryd.prog 128 := ⟨oneG⟩
theorem zG : (Tryd.prog.info? 128).map (·.zero) = some (some .nilFunc) := by kernel_rfl
theorem look_of {f : MapF} {c : ByteArray → Bool} (h : ∀ s, f s = if c s = true then some (.bool true) else none) (s : ByteArray) : (f s).getD (.bool false) = .bool (c s) := by
  rw [h]; cases c s <;> rfl
section
variable {At : PS → World → Prop} {b : Nat} {u w : World} {s : PS} {L : List Ent}
theorem Mem.cell1 {i z : Nat} {c0 c : Value} {cs : List Value} {t : TypeId} (M : Mem At b u w s L) (hi : L[i]? = some (own z (c0 :: c :: cs) t)) : w.cell? ⟨z, 1, none⟩ = some c := by
  rw [(M.own_ (Mem.of_get hi)).cell]; rfl
end
section
variable {g : Nat} {F G : Nat → Prop} {ao : Option Addr} {n cap : Nat} {w0 : World} {a2 : Option Addr} {n2 c2 : Nat} {rs : List Rul}
set_option maxRecDepth 8000 in
set_option maxHeartbeats 8000000 in
theorem ends_any (hg : g < w0.heap.size) (t : Typ) (so : Option Addr) (sn sc : Nat) (hnm : t.name.size ≤ maxLen) (zf zb : Nat) (hzf : zf < w0.heap.size) (hzb : zb < w0.heap.size) (hf : w0.cell? ⟨zf, 0, none⟩ = some (.func (Fn.func 55) #[] #[.pointer (some ⟨zb, 0, none⟩)])) (h1 : w0.cell? ⟨zb, 1, none⟩ = some (.slice a2 n2 c2)) (X2 : SlF F w0 7 rulF a2 n2 c2 rs) (hes : ∀ x ∈ rs, x.etype.size ≤ maxLen) (hn : rs.length ≤ 1000000) :
    Calls Tryd.prog 58 #[.agg (typC t so sn sc).toArray, .pointer (some ⟨zf, 0, none⟩)] w0 fun e w' => e = .returned (.bool (comesB rs rs.length t.name t.name)) ∧ Below w0.heap.size w0 w' := by
  have M := Mem.begin hg ⟨0, 0⟩
  have HF0 : Hid (∀ wx, Below w0.heap.size w0 wx → wx.cell? ⟨zf, 0, none⟩ = some (.func (Fn.func 55) #[] #[.pointer (some ⟨zb, 0, none⟩)])) := fun wx hb => by rw [(bcell hb).1 _ _ hzf]; exact hf
  have HRC : Hid (∀ wx, Below w0.heap.size w0 wx → Calls Tryd.prog 55 #[.string t.name, .pointer (some ⟨zb, 0, none⟩)] wx (ReachPost rs t.name wx)) := fun wx hb =>
    reach_any (Nat.lt_of_lt_of_le hg hb.size) t.name zb (Nat.lt_of_lt_of_le hzb hb.size) (by rw [(bcell hb).1 _ _ hzb]; exact h1) (X2.below rulF_firm hb) hes hn
  replace hnm := Lib.hid hnm
  unfold typC
  generalize t.name = nm at HRC hnm ⊢
  clear hg hzf hzb hf h1 X2 hes hn
  go_enter Tryd.func58, Tryd.ntmps58
  go_wp2_with (first | (with_reducible (first | (refine wB (L := []) M ?_; clear M; intro za w1 M) | refine wl M ?_ | refine wlg M ?_ | (refine ws M ?_; clear M; intro w M) | (refine wsc M ?_; clear M; intro w M) | (refine wV M ?_; clear M; intro z w M) | (refine wR M ?_; clear M; intro q w M) | refine o_skipT ?_ | refine o_skipF ?_)))
  (refine wp_region_any (by kernel_rfl) ?_; (try (change wpAny _ _ _ _ _ _ _ (World.drew _))); replace M := M.drew; generalize World.drew _ = w at M ⊢; have S := St.o; ((refine tk 1 (v := ?_) rfl (by kernel_rfl) rfl ?_ ?_; rotate_left; focus (intro w; go_simp; try with_reducible rfl)); (try go_simp); (refine tk 4 (v := ?_) rfl (by kernel_rfl) rfl ?_ ?_; rotate_left; focus (intro w; go_simp; try with_reducible rfl)); (try go_simp); replace S := S.add 18; refine rd3 0 2 5 (by kernel_rfl) rfl rfl ?_ rfl rfl ?_ rfl rfl ?_ <;> intro K hK); all_goals (first | (refine o_dst (some 4) ?_; (first | (refine q_cellat (HF0.out _ M.new) ?_) | (refine q_lookb HMO.out hnm.out HLB.out ?_) | (first | refine q_all M (by rfl) ?_ | refine q_get M (by exact rfl) ?_ | refine q_prt M (by rfl) ?_)); (all_goals (refine hK _ _ ?_; clear hK K; replace S := S.add 1))) | (refine o_dst (some 6) ?_; (first | (refine q_cellat (HF0.out _ M.new) ?_) | (refine q_lookb HMO.out hnm.out HLB.out ?_) | (first | refine q_all M (by rfl) ?_ | refine q_get M (by exact rfl) ?_ | refine q_prt M (by rfl) ?_)); (all_goals (refine hK _ _ ?_; clear hK K; replace S := S.add 4))) | (refine o_dst (some 9) ?_; (first | (refine q_cellat (HF0.out _ M.new) ?_) | (refine q_lookb HMO.out hnm.out HLB.out ?_) | (first | refine q_all M (by rfl) ?_ | refine q_get M (by exact rfl) ?_ | refine q_prt M (by rfl) ?_)); (all_goals (refine hK _ _ ?_; clear hK K; replace S := S.add 32)))); all_goals (first | (replace S : St 19 := S; refine rd2 2 5 (by kernel_rfl) rfl rfl ?_ rfl rfl ?_ <;> intro K hK) | (replace S : St 22 := S; refine rd2 0 5 (by kernel_rfl) rfl rfl ?_ rfl rfl ?_ <;> intro K hK) | (replace S : St 50 := S; refine rd2 0 2 (by kernel_rfl) rfl rfl ?_ rfl rfl ?_ <;> intro K hK)); all_goals (first | (refine o_dst (some 6) ?_; (first | (refine q_cellat (HF0.out _ M.new) ?_) | (refine q_lookb HMO.out hnm.out HLB.out ?_) | (first | refine q_all M (by rfl) ?_ | refine q_get M (by exact rfl) ?_ | refine q_prt M (by rfl) ?_)); (all_goals (refine hK _ _ ?_; clear hK K; replace S := S.add 4))) | (refine o_dst (some 9) ?_; (first | (refine q_cellat (HF0.out _ M.new) ?_) | (refine q_lookb HMO.out hnm.out HLB.out ?_) | (first | refine q_all M (by rfl) ?_ | refine q_get M (by exact rfl) ?_ | refine q_prt M (by rfl) ?_)); (all_goals (refine hK _ _ ?_; clear hK K; replace S := S.add 32))) | (refine o_dst (some 4) ?_; (first | (refine q_cellat (HF0.out _ M.new) ?_) | (refine q_lookb HMO.out hnm.out HLB.out ?_) | (first | refine q_all M (by rfl) ?_ | refine q_get M (by exact rfl) ?_ | refine q_prt M (by rfl) ?_)); (all_goals (refine hK _ _ ?_; clear hK K; replace S := S.add 1)))); all_goals (first | (replace S : St 23 := S; refine rd2 3 5 (by kernel_rfl) rfl rfl ?_ rfl rfl ?_ <;> intro K hK) | (replace S : St 51 := S; refine rd1 2 (by kernel_rfl) rfl rfl ?_ <;> intro K hK) | (replace S : St 54 := S; refine rd1 0 (by kernel_rfl) rfl rfl ?_ <;> intro K hK)); all_goals (first | (refine o_dst (some 7) ?_; (refine owp_of ?_; go_simp; (go_at_call 55; with_reducible refine (HRC.out _ M.new).mono ?_; rintro e w5 hh; unfold ReachPost at hh; obtain ⟨zm, mm, ff, he, hb5, hmo, hff⟩ := hh; subst he; replace M := M.below hb5; clear hb5; have HMO := Lib.hid hmo; have HLB := Lib.hid (look_of hff nm); clear hmo hff); (try go_simp)); (all_goals (refine hK _ _ ?_; clear hK K; replace S := S.add 8))) | (refine o_dst (some 9) ?_; (first | (refine q_cellat (HF0.out _ M.new) ?_) | (refine q_lookb HMO.out hnm.out HLB.out ?_) | (first | refine q_all M (by rfl) ?_ | refine q_get M (by exact rfl) ?_ | refine q_prt M (by rfl) ?_)); (all_goals (refine hK _ _ ?_; clear hK K; replace S := S.add 32))) | (refine o_dst (some 6) ?_; (first | (refine q_cellat (HF0.out _ M.new) ?_) | (refine q_lookb HMO.out hnm.out HLB.out ?_) | (first | refine q_all M (by rfl) ?_ | refine q_get M (by exact rfl) ?_ | refine q_prt M (by rfl) ?_)); (all_goals (refine hK _ _ ?_; clear hK K; replace S := S.add 4))) | (refine o_dst (some 4) ?_; (first | (refine q_cellat (HF0.out _ M.new) ?_) | (refine q_lookb HMO.out hnm.out HLB.out ?_) | (first | refine q_all M (by rfl) ?_ | refine q_get M (by exact rfl) ?_ | refine q_prt M (by rfl) ?_)); (all_goals (refine hK _ _ ?_; clear hK K; replace S := S.add 1)))); all_goals (first | (replace S : St 31 := S; refine rd1 5 (by kernel_rfl) rfl rfl ?_ <;> intro K hK) | (replace S : St 55 := S; refine rd1 3 (by kernel_rfl) rfl rfl ?_ <;> intro K hK)); all_goals (first | (refine o_dst (some 9) ?_; (first | (refine q_cellat (HF0.out _ M.new) ?_) | (refine q_lookb HMO.out hnm.out HLB.out ?_) | (first | refine q_all M (by rfl) ?_ | refine q_get M (by exact rfl) ?_ | refine q_prt M (by rfl) ?_)); (all_goals (refine hK _ _ ?_; clear hK K; replace S := S.add 32))) | (refine o_dst (some 7) ?_; (refine owp_of ?_; go_simp; (go_at_call 55; with_reducible refine (HRC.out _ M.new).mono ?_; rintro e w5 hh; unfold ReachPost at hh; obtain ⟨zm, mm, ff, he, hb5, hmo, hff⟩ := hh; subst he; replace M := M.below hb5; clear hb5; have HMO := Lib.hid hmo; have HLB := Lib.hid (look_of hff nm); clear hmo hff); (try go_simp)); (all_goals (refine hK _ _ ?_; clear hK K; replace S := S.add 8)))); all_goals (refine rd1 6 (by kernel_rfl) rfl rfl ?_ <;> intro K hK); all_goals (refine o_dst (some 10) ?_; (first | (refine q_cellat (HF0.out _ M.new) ?_) | (refine q_lookb HMO.out hnm.out HLB.out ?_) | (refine owp_of ?_; go_simp)); (all_goals (refine hK _ _ ?_; clear hK K; replace S := S.add 64))); all_goals (clear S; ((refine tk 7 (v := ?_) rfl (by kernel_rfl) rfl ?_ ?_; rotate_left; focus (intro w; go_simp; try with_reducible rfl)); (try go_simp); refine wpAny_done (by kernel_rfl) ?_ _)))
  all_goals go_wp2
  all_goals go_ret
  all_goals exact ⟨rfl, M.new⟩
set_option maxRecDepth 8000 in
set_option maxHeartbeats 4000000 in
theorem ixTyp_any (hg : g < w0.heap.size) {l : List Typ} (hX : SlF F w0 2 typF ao n cap l) (pr : Typ → Bool) (z : Nat) (HC0 : ∀ p ∈ l, ∀ so sn sc wx, Below w0.heap.size w0 wx → Calls Tryd.prog 58 #[.agg (typC p so sn sc).toArray, .pointer (some ⟨z, 0, none⟩)] wx fun e w' => e = .returned (.bool (pr p)) ∧ Below wx.heap.size wx w') :
    Calls Tryd.prog 92 #[.slice ao n cap, .func (Fn.func 58) #[] #[.pointer (some ⟨z, 0, none⟩)]] w0 fun e w' => e = .returned (.int .i64 (placeV (l.findIdx pr) l.length)) ∧ Below w0.heap.size w0 w' := by
  have NL := Lib.hid hX.len
  have hle := hX.le
  have M := Mem.begin hg ⟨0, 0⟩
  have HX := Lib.hid hX
  have HC0 := Lib.hid HC0
  clear hX hg
  go_enter Tryd.func92, Tryd.ntmps92
  go_wp2_with (first | (with_reducible (first | refine wl M ?_ | refine wlg M ?_ | (refine ws M ?_; clear M; intro w M) | (refine wsc M ?_; clear M; intro w M) | (refine wV M ?_; clear M; intro z w M) | (refine wR M ?_; clear M; intro q w M) | refine o_skipT ?_ | refine o_skipF ?_)))
  go_loopg [8] n (fun f i wr => ∃ k : Nat, k + f = n ∧ i = .int .i64 k ∧ Mem (StaysB g w0) g w0 wr ⟨0, 0⟩ [] ∧ Hid (NoB l pr k))
  case atStart => exact ⟨0, by omega, rfl, M, noB_zero _ _⟩
  case round =>
    clear M
    obtain ⟨k, hk, rfl, M, HB⟩ := hrel
    by_cases hlt : k < n
    · have hkl : k < l.length := by have := NL.out; omega
      obtain ⟨ca, oa, rowa, hixa, -, hrra, hwa⟩ := SlF.rowAt (P := Tryd.prog) HX.out typF_firm Tryd.underlying22 size_typ (i := k) hkl
      have HC1 := Lib.hid (HC0.out l[k] (List.getElem_mem hkl))
      have HS : Hid (pr l[k] = true → placeV (l.findIdx pr) l.length = k) := fun h => place_at HB.out hkl h
      have HT : Hid (pr l[k] = false → NoB l pr (k + 1)) := fun h => noB_succ HB.out hkl h
      obtain ⟨p1, q1, s1, ea, u1⟩ := hrra
      subst ea
      have HC := Lib.hid (HC1.out p1 q1 s1)
      clear HC1
      have HR := Lib.hid (fun wx hb => (hwa wx hb).1)
      clear hwa u1 HB
      unfold typC at HR HC
      generalize l[k] = p at HR HC HS HT
      cases hsm : pr p with
      | true =>
        have HV := Lib.hid (HS.out hsm)
        rw [hsm] at HC
        clear HS HT hsm
        go_wp2_with (first | (with_reducible (first | refine wl M ?_ | refine wlg M ?_ | (refine ws M ?_; clear M; intro w M) | (refine wsc M ?_; clear M; intro w M) | (refine wV M ?_; clear M; intro z w M) | (refine wR M ?_; clear M; intro q w M) | refine o_skipT ?_ | refine o_skipF ?_ | refine wA (HR.out _ M.new) ?_)) | (go_at_call 58; with_reducible refine (HC.out _ M.new).mono ?_; rintro e w5 ⟨rfl, hb5⟩; replace M := M.below hb5; clear hb5))
        go_ret
        rw [HV.out]
        exact ⟨rfl, M.new⟩
      | false =>
        have HV := Lib.hid (HT.out hsm)
        rw [hsm] at HC
        clear HS HT hsm
        go_wp2_with (first | (with_reducible (first | refine wl M ?_ | refine wlg M ?_ | (refine ws M ?_; clear M; intro w M) | (refine wsc M ?_; clear M; intro w M) | (refine wV M ?_; clear M; intro z w M) | (refine wR M ?_; clear M; intro q w M) | refine o_skipT ?_ | refine o_skipF ?_ | refine wA (HR.out _ M.new) ?_)) | (go_at_call 58; with_reducible refine (HC.out _ M.new).mono ?_; rintro e w5 ⟨rfl, hb5⟩; replace M := M.below hb5; clear hb5))
        go_roundg (n - (k + 1))
        case measure => omega
        case rel => exact ⟨k + 1, by omega, by go_num, M, HV⟩
    · have HV : Hid (placeV (l.findIdx pr) l.length = -1) := by
        have e : k = l.length := by have := NL.out; omega
        exact place_none (e ▸ HB.out)
      go_wp2_with (first | (with_reducible (first | refine wl M ?_ | refine wlg M ?_ | (refine ws M ?_; clear M; intro w M) | (refine wsc M ?_; clear M; intro w M) | (refine wV M ?_; clear M; intro z w M) | (refine wR M ?_; clear M; intro q w M) | refine o_skipT ?_ | refine o_skipF ?_)))
      go_ret
      rw [HV.out]
      exact ⟨rfl, M.new⟩
set_option maxRecDepth 8000 in
set_option maxHeartbeats 4000000 in
theorem conTyp_any (hg : g < w0.heap.size) {l : List Typ} (hX : SlF F w0 2 typF ao n cap l) (pr : Typ → Bool) (z : Nat) (HC0 : ∀ p ∈ l, ∀ so sn sc wx, Below w0.heap.size w0 wx → Calls Tryd.prog 58 #[.agg (typC p so sn sc).toArray, .pointer (some ⟨z, 0, none⟩)] wx fun e w' => e = .returned (.bool (pr p)) ∧ Below wx.heap.size wx w') :
    Calls Tryd.prog 57 #[.slice ao n cap, .func (Fn.func 58) #[] #[.pointer (some ⟨z, 0, none⟩)]] w0 fun e w' => e = .returned (.bool (l.any pr)) ∧ Below w0.heap.size w0 w' := by
  have M := Mem.begin hg ⟨0, 0⟩
  have HI : Hid (∀ wx, Below w0.heap.size w0 wx → Calls Tryd.prog 92 #[.slice ao n cap, .func (Fn.func 58) #[] #[.pointer (some ⟨z, 0, none⟩)]] wx fun e w' => e = .returned (.int .i64 (placeV (l.findIdx pr) l.length)) ∧ Below wx.heap.size wx w') := fun wx hb =>
    ixTyp_any (Nat.lt_of_lt_of_le hg hb.size) (hX.below typF_firm hb) pr z (fun p hp so sn sc wy hby => HC0 p hp so sn sc wy (hb.trans (hby.mono hb.size)))
  have hge : decide ((0 : Int) ≤ placeV (l.findIdx pr) l.length) = decide (l.findIdx pr < l.length) := by
    unfold placeV
    by_cases h : l.findIdx pr < l.length
    · rw [if_pos h]; simp [h]
    · rw [if_neg h]; simp [h]
  have hany : l.any pr = decide (l.findIdx pr < l.length) := by rw [Bool.eq_iff_iff, decide_eq_true_iff, List.findIdx_lt_length, List.any_eq_true]
  rw [hany, ← hge]
  generalize placeV (l.findIdx pr) l.length = v at HI ⊢
  clear hg hX HC0 hge hany
  go_enter Tryd.func57, Tryd.ntmps57
  go_wp2_with (first | (with_reducible (first | refine wl M ?_ | refine wlg M ?_ | (refine ws M ?_; clear M; intro w M) | (refine wsc M ?_; clear M; intro w M) | (refine wV M ?_; clear M; intro z w M) | (refine wR M ?_; clear M; intro q w M) | refine o_skipT ?_ | refine o_skipF ?_)) | (go_at_call 92; with_reducible refine (HI.out _ M.new).mono ?_; rintro e w5 ⟨rfl, hb5⟩; replace M := M.below hb5; clear hb5))
  go_ret
  exact ⟨rfl, M.new⟩
set_option maxRecDepth 8000 in
set_option maxHeartbeats 8000000 in
theorem endless_any (hg : g < w0.heap.size) (bk : Bok) (a1 : Option Addr) (n1 c1 : Nat) (X1 : SlF F w0 2 typF a1 n1 c1 bk.types) (X2 : SlF G w0 7 rulF a2 n2 c2 bk.rules) (hts : ∀ t ∈ bk.types, t.name.size ≤ maxLen) (hes : ∀ x ∈ bk.rules, x.etype.size ≤ maxLen) (hn : bk.rules.length ≤ 1000000) :
    Calls Tryd.prog 26 #[.agg #[.slice a1 n1 c1, .slice a2 n2 c2]] w0 fun e w' => e = .returned (.bool (endB bk)) ∧ Below w0.heap.size w0 w' := by
  have M := Mem.begin hg ⟨0, 0⟩
  have HE : Hid (∀ (zf zb : Nat) wx, Below w0.heap.size w0 wx → zf < wx.heap.size → zb < wx.heap.size → wx.cell? ⟨zf, 0, none⟩ = some (.func (Fn.func 55) #[] #[.pointer (some ⟨zb, 0, none⟩)]) → wx.cell? ⟨zb, 1, none⟩ = some (.slice a2 n2 c2) → Calls Tryd.prog 57 #[.slice a1 n1 c1, .func (Fn.func 58) #[] #[.pointer (some ⟨zf, 0, none⟩)]] wx fun e w' => e = .returned (.bool (endB bk)) ∧ Below wx.heap.size wx w') := fun zf zb wx hb hzf hzb hf h1 =>
    conTyp_any (Nat.lt_of_lt_of_le hg hb.size) (X1.below typF_firm hb) (fun t => comesB bk.rules bk.rules.length t.name t.name) zf (fun t ht so sn sc wy hby => ends_any (Nat.lt_of_lt_of_le hg (Nat.le_trans hb.size hby.size)) t so sn sc (hts t ht) zf zb (Nat.lt_of_lt_of_le hzf hby.size) (Nat.lt_of_lt_of_le hzb hby.size) (by rw [(bcell hby).1 _ _ hzf]; exact hf) (by rw [(bcell hby).1 _ _ hzb]; exact h1) ((X2.below rulF_firm hb).below rulF_firm hby) hes hn)
  generalize endB bk = eb at HE ⊢
  clear hg X1 X2 hts hes hn
  go_enter Tryd.func26, Tryd.ntmps26
  go_wp2_with (first | (with_reducible (first | (refine wB (L := []) M ?_; clear M; intro za w1 M) | (refine w_ (q_varf M zG ?_); clear M; intro zf w M) | refine w_ (q_func _ ?_) | refine wl M ?_ | refine wlg M ?_ | (refine ws M ?_; clear M; intro w M) | (refine wsc M ?_; clear M; intro w M) | (refine wV M ?_; clear M; intro z w M) | (refine wR M ?_; clear M; intro q w M) | refine o_skipT ?_ | refine o_skipF ?_)) | (go_at_call 57; with_reducible refine (HE.out zf za _ M.new (M.lt0 (i := 0) rfl) (M.lt0 (i := 1) rfl) (M.cell0 (i := 0) rfl) (M.cell1 (i := 1) rfl)).mono ?_; rintro e w5 ⟨rfl, hb5⟩; replace M := M.below hb5; clear hb5))
  go_ret
  exact ⟨rfl, M.new⟩
end
end Go.Proofs.YthlnheckaoeooaaDoor
/-
  The walks of the program's Check, the last part: books. Printed by pgo.py.
-/
namespace Go.Proofs.YthlnheckaoeooaaDoor
open Go.RowKit
set_option linter.unusedVariables false
set_option linter.unusedSimpArgs false

theorem btyp_good {b : Bok} (h : AllZ (btypE b) b.types.length) : ∀ t ∈ b.types, typE t.name t.fields = 0 := fun t ht => by
  obtain ⟨i, hi, rfl⟩ := List.mem_iff_getElem.1 ht
  have hz := h i hi
  rw [btypE_at hi] at hz
  unfold btypP at hz
  apply Classical.byContradiction
  intro hn
  rw [if_pos hn] at hz
  exact hn hz
/-- None of the fields ahead of place m has a word's name; nor has the type. -/
def okB (t : Typ) (m : Nat) : Bool := !keptB t.name && !(t.fields.take m).any (fun f => keptB f.name)
theorem okB_zero (t : Typ) : okB t 0 = !keptB t.name := by unfold okB; simp
theorem okB_succ {t : Typ} {m : Nat} (h : m < t.fields.length) : okB t (m + 1) = (okB t m && !keptB t.fields[m].name) := by
  unfold okB
  rw [List.take_add_one, List.getElem?_eq_getElem h, List.any_append]
  simp [Bool.and_assoc]
theorem okB_end (t : Typ) (m : Nat) (h : t.fields.length ≤ m) : okB t m = (!keptB t.name && !t.fields.any (fun f => keptB f.name)) := by
  unfold okB
  rw [List.take_of_length_le h]
section
variable {g : Nat} {F : Nat → Prop} {w0 : World}
set_option maxRecDepth 8000 in
set_option maxHeartbeats 16000000 in
theorem check_size (hg : g < w0.heap.size) (E : Env F w0) (hF : ∀ b, F b → b < w0.heap.size) (b : Bok) (a1 : Option Addr) (n1 c1 : Nat) (a2 : Option Addr) (n2 c2 : Nat) (X1 : SlF F w0 2 typF a1 n1 c1 b.types) (X2 : SlF F w0 7 rulF a2 n2 c2 b.rules) (hts : ∀ t ∈ b.types, typOk t) (hrs : ∀ x ∈ b.rules, RulFit x) (hes : ∀ x ∈ b.rules, x.etype.size ≤ maxLen) (h0 : 6 < b.types.length ∨ 5 < b.rules.length) : Calls Tryd.prog 10 #[.agg #[.slice a1 n1 c1, .slice a2 n2 c2]] w0 fun e w' => e = .returned (.int .i64 (bookE b)) ∧ Below w0.heap.size w0 w' := by
  have HV : Hid (bookE b = 1) := by show _ = _; unfold bookE; rw [if_pos h0]
  have M := Mem.begin hg ⟨0, 0⟩
  have N1 := X1.len
  have N2 := X2.len
  by_cases c1 : 6 < n1
  · have d1 : decide ((6 : Int) < n1) = true := by simp; omega
    clear h0 X1 X2 hts hrs hg N1 N2 E hF hes
    go_enter Tryd.func10, Tryd.ntmps10
    go_wp2_with (first | (with_reducible (first | (refine wB (L := []) M ?_; clear M; intro za w1 M) | refine wl M ?_ | refine wlg M ?_ | (refine ws M ?_; clear M; intro w M) | (refine wsc M ?_; clear M; intro w M) | (refine wV M ?_; clear M; intro z w M) | (refine wR M ?_; clear M; intro q w M) | refine o_skipT ?_ | refine o_skipF ?_)))
    go_ret
    rw [HV.out]
    exact ⟨rfl, M.new⟩
  · have d1 : decide ((6 : Int) < n1) = false := by simp; omega
    have d2 : decide ((5 : Int) < n2) = true := by simp; omega
    clear h0 X1 X2 hts hrs hg N1 N2 E hF hes
    go_enter Tryd.func10, Tryd.ntmps10
    go_wp2_with (first | (with_reducible (first | (refine wB (L := []) M ?_; clear M; intro za w1 M) | refine wl M ?_ | refine wlg M ?_ | (refine ws M ?_; clear M; intro w M) | (refine wsc M ?_; clear M; intro w M) | (refine wV M ?_; clear M; intro z w M) | (refine wR M ?_; clear M; intro q w M) | refine o_skipT ?_ | refine o_skipF ?_)))
    go_ret
    rw [HV.out]
    exact ⟨rfl, M.new⟩
set_option maxRecDepth 8000 in
set_option maxHeartbeats 16000000 in
theorem check_main (hg : g < w0.heap.size) (E : Env F w0) (hF : ∀ b, F b → b < w0.heap.size) (b : Bok) (a1 : Option Addr) (n1 c1 : Nat) (a2 : Option Addr) (n2 c2 : Nat) (X1 : SlF F w0 2 typF a1 n1 c1 b.types) (X2 : SlF F w0 7 rulF a2 n2 c2 b.rules) (hts : ∀ t ∈ b.types, typOk t) (hrs : ∀ x ∈ b.rules, RulFit x) (hes : ∀ x ∈ b.rules, x.etype.size ≤ maxLen) (h0 : ¬ (6 < b.types.length ∨ 5 < b.rules.length)) : Calls Tryd.prog 10 #[.agg #[.slice a1 n1 c1, .slice a2 n2 c2]] w0 fun e w' => e = .returned (.int .i64 (bookE b)) ∧ Below w0.heap.size w0 w' := by
  have M := Mem.begin hg ⟨0, 0⟩
  have N1 := Lib.hid X1.len
  have N2 := Lib.hid X2.len
  have hle1 := X1.le
  have hle2 := X2.le
  have d1 : decide ((6 : Int) < n1) = false := by have := N1.out; simp; omega
  have d2 : decide ((5 : Int) < n2) = false := by have := N2.out; simp; omega
  have hn2 : Hid (b.rules.length ≤ 1000000) := by show _ ≤ _; omega
  replace h0 := Lib.hid h0
  replace X1 := Lib.hid X1
  replace X2 := Lib.hid X2
  replace hts := Lib.hid hts
  replace hrs := Lib.hid hrs
  replace hes := Lib.hid hes
  replace E := Lib.hid E
  replace hF := Lib.hid hF
  replace hg := Lib.hid hg
  go_enter Tryd.func10, Tryd.ntmps10
  go_wp2_with (first | (with_reducible (first | (refine wB (L := []) M ?_; clear M; intro za w1 M) | refine wl M ?_ | refine wlg M ?_ | (refine ws M ?_; clear M; intro w M) | (refine wsc M ?_; clear M; intro w M) | (refine wV M ?_; clear M; intro z w M) | (refine wR M ?_; clear M; intro q w M) | refine o_skipT ?_ | refine o_skipF ?_)))
  go_loopg [29] n1 (fun f i wr => ∃ (j : Nat), j + f = n1 ∧ i = .int .i64 j ∧ Mem (StaysB g w0) g w0 wr ⟨0, 0⟩ (own za [.slice a1 n1 c1, .slice a2 n2 c2] 25 :: []) ∧ Hid (AllZ (btypE b) j))
  case atStart => exact ⟨0, by omega, rfl, M, allZ_zero _⟩
  case round =>
    clear M
    obtain ⟨j, hj, rfl, M, HZ⟩ := hrel
    by_cases hlt : j < n1
    · have hkl : j < b.types.length := by have := N1.out; omega
      have HE : Hid (∀ e, btypP (b.types.take j) b.types[j] j = e → e ≠ 0 → bookE b = e) := fun e he hn => book_type h0.out HZ.out hkl (by rw [btypE_at hkl]; exact he) hn
      have HZ2 : Hid (btypP (b.types.take j) b.types[j] j = 0 → AllZ (btypE b) (j + 1)) := fun h => allZ_succ HZ.out (by rw [btypE_at hkl]; exact h)
      obtain ⟨ct, ot, rowt, hixt, -, hrrt, hwt⟩ := SlF.rowAt (P := Tryd.prog) X1.out typF_firm Tryd.underlying22 size_typ (i := j) hkl
      obtain ⟨p1, q1, s1, et, ut⟩ := hrrt
      subst et
      have HR := Lib.hid (fun wx hb => (hwt wx hb).1)
      have hto := hts.out _ (List.getElem_mem hkl)
      have hjc : j ≤ c1 := by omega
      have HXJ : Hid (SlF F w0 2 typF a1 j c1 (b.types.take j)) := X1.out.take j c1 (by omega) (by omega) (Nat.le_refl _)
      have HTL : Hid ((b.types.take j).length = j) := by show _ = _; rw [List.length_take]; omega
      generalize b.types[j] = t at HE HZ2 HR hto ut
      unfold btypP at HE HZ2
      have HTF : Hid (∀ wx, Below w0.heap.size w0 wx → Calls Tryd.prog 23 #[.agg #[.string t.name, .slice p1 q1 s1]] wx fun e w' => e = .returned (.int .i64 (typE t.name t.fields)) ∧ Below wx.heap.size wx w') := fun wx hb =>
        checkType_any t.name p1 q1 s1 t.fields wx hto.1 (fld_R (ut.below (plainF_firm _) hb) hto.2)
      have HKW : Hid (∀ s wx, Below w0.heap.size w0 wx → Calls Tryd.prog 24 #[.string s] wx fun e w' => e = .returned (.bool (keptB s)) ∧ Below wx.heap.size wx w') := fun s wx hb => (kept_any F s wx (E.out.below hb).kept (E.out.below hb).rels).mono (by rintro e w' ⟨rfl, rfl⟩; exact ⟨rfl, Below.refl _ _⟩)
      have UT := Lib.hid ut
      have NT := Lib.hid ut.len
      have hleT := ut.le
      clear hwt hto ut HZ hkl
      unfold typC at HR
      by_cases hte : typE t.name t.fields = 0
      · rw [hte] at HTF
        have HE2 := Lib.hid (fun e he => HE.out e (by rw [if_neg (by rw [hte]; simp)]; exact he))
        have HZ3 := Lib.hid (fun he => HZ2.out (by rw [if_neg (by rw [hte]; simp)]; exact he))
        clear HE HZ2 hte
        have HKN := Lib.hid (HKW.out t.name)
        go_upto_region 10 with (first | (with_reducible (first | (refine wV M ?_; clear M; intro zt w M) | refine wl M ?_ | refine wlg M ?_ | (refine ws M ?_; clear M; intro w M) | (refine wsc M ?_; clear M; intro w M) | (refine wV M ?_; clear M; intro z w M) | (refine wR M ?_; clear M; intro q w M) | refine o_skipT ?_ | refine o_skipF ?_ | refine wA (HR.out _ M.new) ?_)) | (go_at_call 23; with_reducible refine (HTF.out _ M.new).mono ?_; rintro e w5 ⟨rfl, hb5⟩; replace M := M.below hb5; clear hb5) | (go_at_call 24; with_reducible refine (HKN.out _ M.new).mono ?_; rintro e w5 ⟨rfl, hb5⟩; replace M := M.below hb5; clear hb5))
        go_wp2_with (first | (with_reducible (first | refine wl M ?_ | refine wlg M ?_ | (refine ws M ?_; clear M; intro w M) | (refine wsc M ?_; clear M; intro w M) | (refine wV M ?_; clear M; intro z w M) | (refine wR M ?_; clear M; intro q w M) | refine o_skipT ?_ | refine o_skipF ?_)))
        go_loopg [6, 46] q1 (fun f v i wr => ∃ (m : Nat), m + f = q1 ∧ v = .bool (okB t m) ∧ i = .int .i64 m ∧ Mem (StaysB g w0) g w0 wr ⟨0, 0⟩ (own zt [.string t.name, .slice p1 q1 s1] 68 :: own za [.slice a1 n1 c1, .slice a2 n2 c2] 25 :: []))
        case atStart => exact ⟨0, by omega, by rw [okB_zero], rfl, M⟩
        case round =>
          clear M HKN
          obtain ⟨m, hm, rfl, rfl, M⟩ := hrel
          by_cases hltm : m < q1
          · have hkm : m < t.fields.length := by have := NT.out; omega
            obtain ⟨cf, of, rowf, hixf, -, hrrf, hwf⟩ := SlF.rowAt (P := Tryd.prog) UT.out (plainF_firm _) Tryd.underlying66 size_fld (i := m) hkm
            have e2 : rowf = fldC t.fields[m] := hrrf
            subst e2
            have HR2 : Hid (∀ wx, Below w0.heap.size w0 wx → wx.rangeAt cf of [.string t.fields[m].name, .int .i64 t.fields[m].kind]) := fun wx hb => (hwf wx hb).1
            have HKF := Lib.hid (HKW.out t.fields[m].name)
            have HOS := Lib.hid (okB_succ hkm)
            clear hwf hrrf
            generalize t.fields[m].name = fnm at HR2 HKF HOS
            generalize t.fields[m].kind = fkd at HR2
            generalize okB t m = o1 at HOS ⊢
            clear hkm
            cases o1 with
            | true =>
              generalize keptB fnm = kb at HKF HOS
              cases kb <;>
              (go_wp2_with (first | (with_reducible (first | (refine wV M ?_; clear M; intro zf w M) | refine wl M ?_ | refine wlg M ?_ | (refine ws M ?_; clear M; intro w M) | (refine wsc M ?_; clear M; intro w M) | (refine wV M ?_; clear M; intro z w M) | (refine wR M ?_; clear M; intro q w M) | refine o_skipT ?_ | refine o_skipF ?_ | refine wA (HR2.out _ M.new) ?_)) | (go_at_call 24; with_reducible refine (HKF.out _ M.new).mono ?_; rintro e w5 ⟨rfl, hb5⟩; replace M := M.below hb5; clear hb5))
               go_roundg (q1 - (m + 1))
               case measure => omega
               case rel => exact ⟨m + 1, by omega, by rw [HOS.out]; rfl, by go_num, M.drop⟩)
            | false =>
              go_wp2_with (first | (with_reducible (first | (refine wV M ?_; clear M; intro zf w M) | refine wl M ?_ | refine wlg M ?_ | (refine ws M ?_; clear M; intro w M) | (refine wsc M ?_; clear M; intro w M) | (refine wV M ?_; clear M; intro z w M) | (refine wR M ?_; clear M; intro q w M) | refine o_skipT ?_ | refine o_skipF ?_ | refine wA (HR2.out _ M.new) ?_)))
              go_roundg (q1 - (m + 1))
              case measure => omega
              case rel => exact ⟨m + 1, by omega, by rw [HOS.out]; rfl, by go_num, M.drop⟩
          · have hend := okB_end t m (by have := NT.out; omega)
            generalize okB t m = o1 at hend ⊢
            cases o1 with
            | false =>
              have hor : keptB t.name = true ∨ t.fields.any (fun f => keptB f.name) = true := by
                cases h1 : keptB t.name <;> cases h2 : t.fields.any (fun f => keptB f.name) <;> simp [h1, h2] at hend ⊢
              have HV : Hid (bookE b = 4) := HE2.out 4 (by rw [if_pos hor]) (by decide)
              clear HE2 HZ3 hend hor
              go_wp2_with (first | (with_reducible (first | refine wl M ?_ | refine wlg M ?_ | (refine ws M ?_; clear M; intro w M) | (refine wsc M ?_; clear M; intro w M) | (refine wV M ?_; clear M; intro z w M) | (refine wR M ?_; clear M; intro q w M) | refine o_skipT ?_ | refine o_skipF ?_)))
              go_ret
              rw [HV.out]
              exact ⟨rfl, M.new⟩
            | true =>
              have hor : ¬ (keptB t.name = true ∨ t.fields.any (fun f => keptB f.name) = true) := by
                cases h1 : keptB t.name <;> cases h2 : t.fields.any (fun f => keptB f.name) <;> simp [h1, h2] at hend ⊢
              have HE3 := Lib.hid (fun e he => HE2.out e (by rw [if_neg hor]; exact he))
              have HZ4 := Lib.hid (fun he => HZ3.out (by rw [if_neg hor]; exact he))
              clear HE2 HZ3 hend hor
              go_wp2_with (first | (with_reducible (first | refine wl M ?_ | refine wlg M ?_ | (refine ws M ?_; clear M; intro w M) | (refine wsc M ?_; clear M; intro w M) | (refine wV M ?_; clear M; intro z w M) | (refine wR M ?_; clear M; intro q w M) | refine o_skipT ?_ | refine o_skipF ?_)))
              go_loopg [65] j (fun f i wr => ∃ (k : Nat), k + f = j ∧ i = .int .i64 k ∧ Mem (StaysB g w0) g w0 wr ⟨0, 0⟩ (own zt [.string t.name, .slice p1 q1 s1] 68 :: own za [.slice a1 n1 c1, .slice a2 n2 c2] 25 :: []) ∧ Hid (NoB (b.types.take j) (fun u => sameS u.name t.name) k))
              case atStart => exact ⟨0, by omega, rfl, M, noB_zero _ _⟩
              case round =>
                clear M
                obtain ⟨k, hk, rfl, M, HB⟩ := hrel
                by_cases hltk : k < j
                · have hkt : k < (b.types.take j).length := by rw [HTL.out]; exact hltk
                  obtain ⟨cs, os, rows, hixs, -, hrrs, hws⟩ := SlF.rowAt (P := Tryd.prog) HXJ.out typF_firm Tryd.underlying22 size_typ (i := k) hkt
                  obtain ⟨p2, q2, s2, et2, -⟩ := hrrs
                  subst et2
                  have HR2 : Hid (∀ wx, Below w0.heap.size w0 wx → wx.rangeAt cs os [.string (b.types.take j)[k].name, .slice p2 q2 s2]) := fun wx hb => (hws wx hb).1
                  have HSQ : Hid (∀ c, sameS (b.types.take j)[k].name t.name = c → ((b.types.take j)[k].name.toList == t.name.toList) = c) := fun c h => h
                  have HF1 : Hid (sameS (b.types.take j)[k].name t.name = true → typI (b.types.take j) t.name < j) := fun h => by
                    have e : typI (b.types.take j) t.name = k := noB_at HB.out hkt h
                    omega
                  have HF0 : Hid (sameS (b.types.take j)[k].name t.name = false → NoB (b.types.take j) (fun u => sameS u.name t.name) (k + 1)) := fun h => noB_succ HB.out hkt h
                  clear hws HB
                  generalize (b.types.take j)[k].name = unm at HR2 HSQ HF1 HF0
                  clear hkt
                  cases hsm : sameS unm t.name with
                  | true =>
                    have hsb := HSQ.out _ hsm
                    have HV : Hid (bookE b = 7) := HE3.out 7 (by rw [if_pos (HF1.out hsm)]) (by decide)
                    clear HE3 HZ4 HSQ HF1 HF0 hsm
                    go_wp2_with (first | (with_reducible (first | (refine wV M ?_; clear M; intro zu w M) | refine wl M ?_ | refine wlg M ?_ | (refine ws M ?_; clear M; intro w M) | (refine wsc M ?_; clear M; intro w M) | (refine wV M ?_; clear M; intro z w M) | (refine wR M ?_; clear M; intro q w M) | refine o_skipT ?_ | refine o_skipF ?_ | refine wA (HR2.out _ M.new) ?_)))
                    go_ret
                    rw [HV.out]
                    exact ⟨rfl, M.new⟩
                  | false =>
                    have hsb := HSQ.out _ hsm
                    have HB2 := Lib.hid (HF0.out hsm)
                    clear HSQ HF1 HF0 hsm
                    go_wp2_with (first | (with_reducible (first | (refine wV M ?_; clear M; intro zu w M) | refine wl M ?_ | refine wlg M ?_ | (refine ws M ?_; clear M; intro w M) | (refine wsc M ?_; clear M; intro w M) | (refine wV M ?_; clear M; intro z w M) | (refine wR M ?_; clear M; intro q w M) | refine o_skipT ?_ | refine o_skipF ?_ | refine wA (HR2.out _ M.new) ?_)))
                    go_roundg (j - (k + 1))
                    case measure => omega
                    case rel => exact ⟨k + 1, by omega, by go_num, M.drop, HB2⟩
                · have hkj : k = j := by omega
                  have hno : ¬ typI (b.types.take j) t.name < j := by
                    have e : typI (b.types.take j) t.name = (b.types.take j).length := noB_none (by have h := HB.out; rw [hkj] at h; rw [HTL.out]; exact h)
                    rw [e, HTL.out]
                    omega
                  have HZ5 := Lib.hid (HZ4.out (by rw [if_neg hno]))
                  clear HE3 HZ4 HB hno
                  go_wp2_with (first | (with_reducible (first | refine wl M ?_ | refine wlg M ?_ | (refine ws M ?_; clear M; intro w M) | (refine wsc M ?_; clear M; intro w M) | (refine wV M ?_; clear M; intro z w M) | (refine wR M ?_; clear M; intro q w M) | refine o_skipT ?_ | refine o_skipF ?_)))
                  go_roundg (n1 - (j + 1))
                  case measure => omega
                  case rel => exact ⟨j + 1, by omega, by go_num, M.drop, HZ5⟩
      · have HV : Hid (bookE b = typE t.name t.fields) := HE.out _ (by rw [if_pos hte]) hte
        have hqb : (typE t.name t.fields != 0) = true := by simpa using hte
        generalize typE t.name t.fields = te at HTF HV hqb
        clear HE HZ2 hte HKW
        go_wp2_with (first | (with_reducible (first | (refine wV M ?_; clear M; intro zt w M) | refine wl M ?_ | refine wlg M ?_ | (refine ws M ?_; clear M; intro w M) | (refine wsc M ?_; clear M; intro w M) | (refine wV M ?_; clear M; intro z w M) | (refine wR M ?_; clear M; intro q w M) | refine o_skipT ?_ | refine o_skipF ?_ | refine wA (HR.out _ M.new) ?_)) | (go_at_call 23; with_reducible refine (HTF.out _ M.new).mono ?_; rintro e w5 ⟨rfl, hb5⟩; replace M := M.below hb5; clear hb5))
        go_ret
        rw [HV.out]
        exact ⟨rfl, M.new⟩
    · have HT1 : Hid (AllZ (btypE b) b.types.length) := by have e : j = b.types.length := (by have := N1.out; omega); rw [← e]; exact HZ.out
      have HTG : Hid (∀ t ∈ b.types, TypGood t) := fun t ht => ⟨hts.out t ht, btyp_good HT1.out t ht⟩
      clear HZ
      go_wp2_with (first | (with_reducible (first | refine wl M ?_ | refine wlg M ?_ | (refine ws M ?_; clear M; intro w M) | (refine wsc M ?_; clear M; intro w M) | (refine wV M ?_; clear M; intro z w M) | (refine wR M ?_; clear M; intro q w M) | refine o_skipT ?_ | refine o_skipF ?_)))
      go_loopg [79] n2 (fun f i wr => ∃ (j : Nat), j + f = n2 ∧ i = .int .i64 j ∧ Mem (StaysB g w0) g w0 wr ⟨0, 0⟩ (own za [.slice a1 n1 c1, .slice a2 n2 c2] 25 :: []) ∧ Hid (AllZ (brulE b) j))
      case atStart => exact ⟨0, by omega, rfl, M, allZ_zero _⟩
      case round =>
        clear M
        obtain ⟨j, hj, rfl, M, HZ⟩ := hrel
        by_cases hlt : j < n2
        · have hkl : j < b.rules.length := by have := N2.out; omega
          have HE : Hid (∀ e, brulP b.types (b.rules.take j) b.rules[j] = e → e ≠ 0 → bookE b = e) := fun e he hn => book_rule h0.out HT1.out HZ.out hkl (by rw [brulE_at hkl]; exact he) hn
          have HZ2 : Hid (brulP b.types (b.rules.take j) b.rules[j] = 0 → AllZ (brulE b) (j + 1)) := fun h => allZ_succ HZ.out (by rw [brulE_at hkl]; exact h)
          obtain ⟨cr, or, rowr, hixr, -, hrrr, hwr⟩ := SlF.rowAt (P := Tryd.prog) X2.out rulF_firm Tryd.underlying23 size_rul (i := j) hkl
          have hro := hrs.out _ (List.getElem_mem hkl)
          have HRF : Hid (∀ wx, Below w0.heap.size w0 wx → Calls Tryd.prog 25 #[.slice a1 n1 c1, .agg rowr.toArray] wx fun e w' => e = .returned (.int .i64 (ruleE b.types b.rules[j])) ∧ Below wx.heap.size wx w') := fun wx hb =>
            rule_any (Nat.lt_of_lt_of_le hg.out hb.size) (X1.out.below typF_firm hb) (E.out.below hb) (fun k hk => Nat.lt_of_lt_of_le (hF.out k hk) hb.size) HTG.out b.rules[j] rowr (rulF_firm _ _ _ _ _ _ (Same.below hb) hrrr) hro
          obtain ⟨b1, m1, e1, b2, m2, e2, b3, m3, e3, b4, m4, e4, b6, m6, e6, rfl, -⟩ := hrrr
          have HR := Lib.hid (fun wx hb => (hwr wx hb).1)
          have hjc : j ≤ c2 := by omega
          have HXJ : Hid (SlF F w0 7 rulF a2 j c2 (b.rules.take j)) := X2.out.take j c2 (by omega) (by omega) (Nat.le_refl _)
          have HTL : Hid ((b.rules.take j).length = j) := by show _ = _; rw [List.length_take]; omega
          clear hwr hro HZ
          generalize b.rules[j] = x at HE HZ2 HRF HR
          clear hkl
          unfold brulP at HE HZ2
          unfold rulC at HR HRF
          by_cases hq : ruleE b.types x = 0
          · rw [hq] at HRF
            have HE2 := Lib.hid (fun e he => HE.out e (by rw [if_neg (by rw [hq]; simp)]; exact he))
            have HZ3 := Lib.hid (fun he => HZ2.out (by rw [if_neg (by rw [hq]; simp)]; exact he))
            clear HE HZ2 hq
            go_wp2_with (first | (with_reducible (first | (refine wV M ?_; clear M; intro zr w M) | refine wl M ?_ | refine wlg M ?_ | (refine ws M ?_; clear M; intro w M) | (refine wsc M ?_; clear M; intro w M) | (refine wV M ?_; clear M; intro z w M) | (refine wR M ?_; clear M; intro q w M) | refine o_skipT ?_ | refine o_skipF ?_ | refine wA (HR.out _ M.new) ?_)) | (go_at_call 25; with_reducible refine (HRF.out _ M.new).mono ?_; rintro e w5 ⟨rfl, hb5⟩; replace M := M.below hb5; clear hb5))
            go_loopg [96] j (fun f i wr => ∃ (k : Nat), k + f = j ∧ i = .int .i64 k ∧ Mem (StaysB g w0) g w0 wr ⟨0, 0⟩ (own zr [.string x.name, .slice b1 m1 e1, .slice b2 m2 e2, .slice b3 m3 e3, .slice b4 m4 e4, .string x.etype, .slice b6 m6 e6] 60 :: own za [.slice a1 n1 c1, .slice a2 n2 c2] 25 :: []) ∧ Hid (NoB (b.rules.take j) (fun y => sameS y.name x.name) k))
            case atStart => exact ⟨0, by omega, rfl, M, noB_zero _ _⟩
            case round =>
              clear M
              obtain ⟨k, hk, rfl, M, HB⟩ := hrel
              by_cases hltk : k < j
              · have hkt : k < (b.rules.take j).length := by rw [HTL.out]; exact hltk
                obtain ⟨cs, os, rows, hixs, -, hrrs, hws⟩ := SlF.rowAt (P := Tryd.prog) HXJ.out rulF_firm Tryd.underlying23 size_rul (i := k) hkt
                obtain ⟨f1, f2, f3, f4, f5, f6, f7, f8, f9, f10, f11, f12, f13, f14, f15, rfl, -⟩ := hrrs
                have HR2 : Hid (∀ wx, Below w0.heap.size w0 wx → wx.rangeAt cs os [.string (b.rules.take j)[k].name, .slice f1 f2 f3, .slice f4 f5 f6, .slice f7 f8 f9, .slice f10 f11 f12, .string (b.rules.take j)[k].etype, .slice f13 f14 f15]) := fun wx hb => (hws wx hb).1
                have HSQ : Hid (∀ c, sameS (b.rules.take j)[k].name x.name = c → ((b.rules.take j)[k].name.toList == x.name.toList) = c) := fun c h => h
                have HF1 : Hid (sameS (b.rules.take j)[k].name x.name = true → (b.rules.take j).any (fun y => sameS y.name x.name) = true) := fun h => List.any_eq_true.2 ⟨_, List.getElem_mem hkt, h⟩
                have HF0 : Hid (sameS (b.rules.take j)[k].name x.name = false → NoB (b.rules.take j) (fun y => sameS y.name x.name) (k + 1)) := fun h => noB_succ HB.out hkt h
                clear hws HB
                generalize (b.rules.take j)[k] = y at HR2 HSQ HF1 HF0
                clear hkt
                cases hsm : sameS y.name x.name with
                | true =>
                  have hsb := HSQ.out _ hsm
                  have HV : Hid (bookE b = 7) := HE2.out 7 (by rw [if_pos (HF1.out hsm)]) (by decide)
                  clear HE2 HZ3 HSQ HF1 HF0 hsm HRF
                  go_wp2_with (first | (with_reducible (first | (refine wV M ?_; clear M; intro zu w M) | refine wl M ?_ | refine wlg M ?_ | (refine ws M ?_; clear M; intro w M) | (refine wsc M ?_; clear M; intro w M) | (refine wV M ?_; clear M; intro z w M) | (refine wR M ?_; clear M; intro q w M) | refine o_skipT ?_ | refine o_skipF ?_ | refine wA (HR2.out _ M.new) ?_)))
                  go_ret
                  rw [HV.out]
                  exact ⟨rfl, M.new⟩
                | false =>
                  have hsb := HSQ.out _ hsm
                  have HB2 := Lib.hid (HF0.out hsm)
                  clear HSQ HF1 HF0 hsm HRF
                  go_wp2_with (first | (with_reducible (first | (refine wV M ?_; clear M; intro zu w M) | refine wl M ?_ | refine wlg M ?_ | (refine ws M ?_; clear M; intro w M) | (refine wsc M ?_; clear M; intro w M) | (refine wV M ?_; clear M; intro z w M) | (refine wR M ?_; clear M; intro q w M) | refine o_skipT ?_ | refine o_skipF ?_ | refine wA (HR2.out _ M.new) ?_)))
                  go_roundg (j - (k + 1))
                  case measure => omega
                  case rel => exact ⟨k + 1, by omega, by go_num, M.drop, HB2⟩
              · have hany : (b.rules.take j).any (fun y => sameS y.name x.name) = false := noB_any (by have h := HB.out; rw [show k = j by omega] at h; rw [HTL.out]; exact h)
                have HZ5 := Lib.hid (HZ3.out (by rw [hany]; rfl))
                clear HE2 HZ3 HB hany HRF
                go_wp2_with (first | (with_reducible (first | refine wl M ?_ | refine wlg M ?_ | (refine ws M ?_; clear M; intro w M) | (refine wsc M ?_; clear M; intro w M) | (refine wV M ?_; clear M; intro z w M) | (refine wR M ?_; clear M; intro q w M) | refine o_skipT ?_ | refine o_skipF ?_)))
                go_roundg (n2 - (j + 1))
                case measure => omega
                case rel => exact ⟨j + 1, by omega, by go_num, M.drop, HZ5⟩
          · have HV : Hid (bookE b = ruleE b.types x) := HE.out _ (by rw [if_pos hq]) hq
            have hqb : (ruleE b.types x != 0) = true := by simpa using hq
            generalize ruleE b.types x = q at HRF HV hqb
            clear HE HZ2 hq
            go_wp2_with (first | (with_reducible (first | (refine wV M ?_; clear M; intro zr w M) | refine wl M ?_ | refine wlg M ?_ | (refine ws M ?_; clear M; intro w M) | (refine wsc M ?_; clear M; intro w M) | (refine wV M ?_; clear M; intro z w M) | (refine wR M ?_; clear M; intro q w M) | refine o_skipT ?_ | refine o_skipF ?_ | refine wA (HR.out _ M.new) ?_)) | (go_at_call 25; with_reducible refine (HRF.out _ M.new).mono ?_; rintro e w5 ⟨rfl, hb5⟩; replace M := M.below hb5; clear hb5))
            go_ret
            rw [HV.out]
            exact ⟨rfl, M.new⟩
        · have HT2 : Hid (AllZ (brulE b) b.rules.length) := by have e : j = b.rules.length := (by have := N2.out; omega); rw [← e]; exact HZ.out
          have HV0 := Lib.hid (book_rest h0.out HT1.out HT2.out)
          have HEN : Hid (∀ wx, Below w0.heap.size w0 wx → Calls Tryd.prog 26 #[.agg #[.slice a1 n1 c1, .slice a2 n2 c2]] wx fun e w' => e = .returned (.bool (endB b)) ∧ Below wx.heap.size wx w') := fun wx hb =>
            endless_any (Nat.lt_of_lt_of_le hg.out hb.size) b a1 n1 c1 (X1.out.below typF_firm hb) (X2.out.below rulF_firm hb) (fun t ht => (hts.out t ht).1) hes.out hn2.out
          clear HZ HT1 HT2 HTG
          generalize endB b = eb at HEN HV0
          cases eb with
          | true =>
            have HV : Hid (bookE b = 15) := HV0.out
            go_wp2_with (first | (with_reducible (first | refine wl M ?_ | refine wlg M ?_ | (refine ws M ?_; clear M; intro w M) | (refine wsc M ?_; clear M; intro w M) | (refine wV M ?_; clear M; intro z w M) | (refine wR M ?_; clear M; intro q w M) | refine o_skipT ?_ | refine o_skipF ?_)) | (go_at_call 26; with_reducible refine (HEN.out _ M.new).mono ?_; rintro e w5 ⟨rfl, hb5⟩; replace M := M.below hb5; clear hb5))
            go_ret
            rw [HV.out]
            exact ⟨rfl, M.new⟩
          | false =>
            have HV : Hid (bookE b = 0) := HV0.out
            go_wp2_with (first | (with_reducible (first | refine wl M ?_ | refine wlg M ?_ | (refine ws M ?_; clear M; intro w M) | (refine wsc M ?_; clear M; intro w M) | (refine wV M ?_; clear M; intro z w M) | (refine wR M ?_; clear M; intro q w M) | refine o_skipT ?_ | refine o_skipF ?_)) | (go_at_call 26; with_reducible refine (HEN.out _ M.new).mono ?_; rintro e w5 ⟨rfl, hb5⟩; replace M := M.below hb5; clear hb5))
            go_ret
            rw [HV.out]
            exact ⟨rfl, M.new⟩
theorem check_any (hg : g < w0.heap.size) (E : Env F w0) (hF : ∀ b, F b → b < w0.heap.size) (b : Bok) (a1 : Option Addr) (n1 c1 : Nat) (a2 : Option Addr) (n2 c2 : Nat) (X1 : SlF F w0 2 typF a1 n1 c1 b.types) (X2 : SlF F w0 7 rulF a2 n2 c2 b.rules) (hts : ∀ t ∈ b.types, typOk t) (hrs : ∀ x ∈ b.rules, RulFit x) (hes : ∀ x ∈ b.rules, x.etype.size ≤ maxLen) : Calls Tryd.prog 10 #[.agg #[.slice a1 n1 c1, .slice a2 n2 c2]] w0 fun e w' => e = .returned (.int .i64 (bookE b)) ∧ Below w0.heap.size w0 w' := by
  by_cases h0 : 6 < b.types.length ∨ 5 < b.rules.length
  · exact check_size hg E hF b a1 n1 c1 a2 n2 c2 X1 X2 hts hrs hes h0
  · exact check_main hg E hF b a1 n1 c1 a2 n2 c2 X1 X2 hts hrs hes h0
end
end Go.Proofs.YthlnheckaoeooaaDoor
/-
  A book as an argument, opened: its types, its rules, and that all texts fit.
-/
namespace Go.Proofs.YthlnheckaoeooaaDoor
open Go.ChangeShapes Go.WideShapes Go.ChangeAt Go.RowKit Go.Joins Go.Deep
set_option linter.unusedVariables false
set_option linter.unusedSimpArgs false

/-- What a datum of a type gives: rows of which R speaks; for data below a size. -/
def OpensAt {H : Type} (enc : TypeId × Value → H) (P : Program) (w : World) (t k : Nat) {α : Type} (R : (Nat → Prop) → World → List Value → α → Prop) (N : Nat) : Prop :=
  ∀ (n : Nat) (row : List Value) (y : DataW H × List MemPlace), row.length = k → DataW.trod enc P w 0 (fun _ => true) true n t row = some y →
    (∀ p ∈ y.2, p.block < w.heap.size) → (∀ q ∈ y.1.weights P t, q ≤ reachBytes) → SizeOf.sizeOf y.1 < N → ∃ x, R (under w.heap.size) w row x
theorem Opens.at_ {H : Type} {enc : TypeId × Value → H} {P : Program} {w : World} {t k : Nat} {α : Type} {R : (Nat → Prop) → World → List Value → α → Prop} (h : Opens P t k R) (N : Nat) : OpensAt enc P w t k R N :=
  fun n row y hl ht hlt hB _ => h.2.2 w n row y hl ht hlt hB
/-- A slice in one cell. -/
def slIn {α : Type} (k : Nat) (R : (Nat → Prop) → World → List Value → α → Prop) : (Nat → Prop) → World → List Value → List α → Prop :=
  fun F w row xs => ∃ ao n cap, row = [.slice ao n cap] ∧ SlF F w k R ao n cap xs
theorem mem_size {H : Type} {ds : List (DataW H)} {d : DataW H} (h : d ∈ ds) : SizeOf.sizeOf d < SizeOf.sizeOf ds := List.sizeOf_lt_of_mem h
theorem sliceAt {α : Type} {H : Type} {enc : TypeId × Value → H} {P : Program} {w : World} {t e k : Nat} {R : (Nat → Prop) → World → List Value → α → Prop} (ht : P.underlying t = some (.slice e)) (hke : P.cellsOf e = k) (hk0 : 0 < k) (N : Nat) (hR : OpensAt enc P w e k R N) : OpensAt enc P w t 1 (slIn k R) (N + 1) := by
  intro fuel row0 y0 hl0 h hlt hB hN
  match row0, hl0 with
  | [v], _ =>
  rcases open_slice ht h with ⟨hcs, hx⟩ | ⟨a, len, cap, m, n, D, Pl, hcs, _, hl, hm, hmm, hx, hel⟩
  · simp only [List.cons.injEq, and_true] at hcs
    exact ⟨[], none, 0, 0, by rw [hcs], SlF.nil⟩
  · simp only [List.cons.injEq, and_true] at hcs
    simp only [if_true] at hmm
    subst hmm
    subst hx
    simp only [DataW.weights, ht, List.mem_cons, List.mem_append] at hB
    have hsz : ∀ i, i < len → SizeOf.sizeOf (D i) < N := fun i hi => by
      have h1 := mem_size (List.mem_map.2 ⟨i, List.mem_range.2 hi, rfl⟩ : D i ∈ (List.range len).map D)
      simp only [DataW.slice.sizeOf_spec] at hN
      omega
    have key : ∀ i, i < len → ∃ x : α, ∃ b off row, a = ⟨b, off, none⟩ ∧ under w.heap.size b ∧ b < w.heap.size ∧ RowAt w b (off + i * k) k row ∧ R (under w.heap.size) w row x := by
      intro i hi
      obtain ⟨cs', h1, h2⟩ := hel i (by omega)
      rw [hke] at h1
      obtain ⟨_, hlen, hc⟩ := World.cells?_some h1
      obtain ⟨x, hx⟩ := hR n cs' (D i, Pl i) hlen h2 (fun p hp => hlt p (by simp only [List.mem_append, List.mem_flatMap, List.mem_range]; exact Or.inr ⟨i, by omega, hp⟩)) (fun q hq => hB q (Or.inr (Or.inl (weightsAll_has (List.mem_map.2 ⟨i, List.mem_range.2 hi, rfl⟩) q hq)))) (hsz i hi)
      obtain ⟨cs0, h10, _⟩ := hel 0 (by omega)
      rw [hke] at h10
      obtain ⟨_, hlen0, hc0⟩ := World.cells?_some h10
      have hc00 := hc0 0 hk0
      rw [List.getElem?_eq_getElem (by omega)] at hc00
      obtain ⟨b, off, spot⟩ := a
      have hspot : spot = none := by simpa [Addr.add] using World.cell?_spot hc00
      subst hspot
      have hbl : b < w.heap.size := by simpa [Addr.add] using World.block_lt_of_cell? w _ hc00
      refine ⟨x, b, off, cs', rfl, hbl, hbl, ⟨hlen, fun j hj => ?_⟩, hx⟩
      have := hc j hj
      rw [add_add, Go.WideShapes.add_plain] at this
      rw [Nat.add_assoc, this, List.getElem?_eq_getElem (by omega)]
      simp [List.getD, List.getElem?_eq_getElem (show j < cs'.length by omega)]
    have hch : ∃ xs : List α, xs.length = len ∧ ∀ i (h : i < xs.length), ∃ b off row, a = ⟨b, off, none⟩ ∧ under w.heap.size b ∧ b < w.heap.size ∧ RowAt w b (off + i * k) k row ∧ R (under w.heap.size) w row xs[i] := by
      classical
      refine ⟨(List.range len).attach.map (fun i => Classical.choose (key i.1 (List.mem_range.1 i.2))), by simp, fun i hi => ?_⟩
      have hi' : i < len := by simpa using hi
      have := Classical.choose_spec (key i hi')
      simpa using this
    obtain ⟨xs, hxl, hxs⟩ := hch
    refine ⟨xs, some a, len, _, by rw [hcs], ⟨hxl.symm, hl, hm, by simp, fun i hi => ?_⟩⟩
    obtain ⟨b, off, row, e, r⟩ := hxs i hi
    exact ⟨b, off, row, by rw [e], r⟩
/-- A struct's field. -/
theorem fieldS {α H : Type} {enc : TypeId × Value → H} {P : Program} {w : World} {t n : Nat} {fs : Array Field} {cs : List Value} {xs : List (DataW H × List MemPlace)} (ht : P.underlying t = some (.struct fs))
    (hf : ∀ (i : Nat) (f : Field), fs[i]? = some f → DataW.trod enc P w 0 (fun _ => true) true n f.type ((cs.drop f.offset).take (P.cellsOf f.type)) = xs[i]?)
    (hlt : ∀ p ∈ xs.flatMap (·.2), p.block < w.heap.size) (hB : ∀ q ∈ (DataW.agg (xs.map (·.1))).weights P t, q ≤ reachBytes) {N : Nat} (hN : SizeOf.sizeOf (DataW.agg (xs.map (·.1))) < N + 1)
    (i : Nat) (f : Field) (hi : fs[i]? = some f) (hxi : i < xs.length) {k : Nat} (hk : P.cellsOf f.type = k) {R : (Nat → Prop) → World → List Value → α → Prop} (hR : OpensAt enc P w f.type k R N) (row : List Value) (hrow : (cs.drop f.offset).take k = row) (hl : row.length = k) :
    ∃ x, R (under w.heap.size) w row x := by
  have h1 := hf i f hi
  rw [hk, hrow, List.getElem?_eq_getElem hxi] at h1
  refine hR n row _ hl h1 (fun p hp => hlt p (List.mem_flatMap.2 ⟨xs[i], List.getElem_mem hxi, hp⟩)) (fun q hq => hB q ?_) ?_
  · simp only [DataW.weights, ht]
    exact weightsEach_has (j := i) (t := f.type) (d := xs[i].1) (by simp [hi]) (by simp [hxi]) q hq
  · have h2 := mem_size (List.mem_map.2 ⟨xs[i], List.getElem_mem hxi, rfl⟩ : xs[i].1 ∈ xs.map (·.1))
    simp only [DataW.agg.sizeOf_spec] at hN
    omega
/-- Rows of which two things are said. -/
theorem SlF.split {α : Type} {F : Nat → Prop} {w : World} {k : Nat} {R : (Nat → Prop) → World → List Value → α → Prop} {p : α → Prop} {ao : Option Addr} {n cap : Nat} {xs : List α} (h : SlF F w k (fun F w row x => R F w row x ∧ p x) ao n cap xs) : SlF F w k R ao n cap xs ∧ ∀ x ∈ xs, p x := by
  obtain ⟨h1, h2, h3, h5, h4⟩ := h
  refine ⟨⟨h1, h2, h3, h5, fun i hi => ?_⟩, fun x hx => ?_⟩
  · obtain ⟨b, off, row, a1, a2, a3, a4, a5⟩ := h4 i hi
    exact ⟨b, off, row, a1, a2, a3, a4, a5.1⟩
  · obtain ⟨i, hi, rfl⟩ := List.mem_iff_getElem.1 hx
    obtain ⟨b, off, row, a1, a2, a3, a4, a5⟩ := h4 i hi
    exact a5.2
theorem fits {s : ByteArray} (h : s.size ≤ 140737488351232) : s.size ≤ maxLen := by unfold maxLen; omega

theorem opensAt_zero {α H : Type} {enc : TypeId × Value → H} {P : Program} {w : World} {t k : Nat} {R : (Nat → Prop) → World → List Value → α → Prop} : OpensAt enc P w t k R 0 := fun n row y _ _ _ _ h => absurd h (Nat.not_lt_zero _)
theorem sliceOf {α H : Type} {enc : TypeId × Value → H} {P : Program} {w : World} {t e k : Nat} {R : (Nat → Prop) → World → List Value → α → Prop} (ht : P.underlying t = some (.slice e)) (hke : P.cellsOf e = k) (hk0 : 0 < k) (hR : ∀ N, OpensAt enc P w e k R N) : ∀ N, OpensAt enc P w t 1 (slIn k R) N
  | 0 => opensAt_zero
  | N + 1 => sliceAt ht hke hk0 N (hR N)
section
variable {H : Type} {enc : TypeId × Value → H} {w : World}
theorem at_int (N : Nat) : OpensAt enc Tryd.prog w 3 1 intF N := (opens_int Tryd.underlying3 (by kernel_rfl)).at_ N
theorem at_str (N : Nat) : OpensAt enc Tryd.prog w 9 1 strF N := (opens_string Tryd.underlying9 (by kernel_rfl)).at_ N
def valF : (Nat → Prop) → World → List Value → Int × Int × ByteArray → Prop := fun _ _ row v => row = [.int .i64 v.1, .int .i64 v.2.1, .string v.2.2] ∧ v.2.2.size ≤ maxLen
set_option maxRecDepth 100000 in
theorem at_val (N : Nat) : OpensAt enc Tryd.prog w 44 3 valF N := by
  match N with
  | 0 => exact opensAt_zero
  | N + 1 =>
  intro n row y hl h hlt hB hN
  obtain ⟨xs, k, -, rfl, -, hxl, hf⟩ := DataW.trod_struct Tryd.underlying44 h
  match row, hl, xs, hxl with
  | [c0, c1, c2], _, [y0, y1, y2], _ =>
    obtain ⟨i0, g0⟩ := fieldS Tryd.underlying44 hf hlt hB hN 0 _ rfl (by simp) (by kernel_rfl) (at_int N) [c0] (by simp) rfl
    obtain ⟨i1, g1⟩ := fieldS Tryd.underlying44 hf hlt hB hN 1 _ rfl (by simp) (by kernel_rfl) (at_int N) [c1] (by simp) rfl
    obtain ⟨s2, g2, z2⟩ := fieldS Tryd.underlying44 hf hlt hB hN 2 _ rfl (by simp) (by kernel_rfl) (at_str N) [c2] (by simp) rfl
    have g0' : [c0] = [Value.int .i64 i0] := g0
    injection g0' with g0'
    subst g0'
    have g1' : [c1] = [Value.int .i64 i1] := g1
    injection g1' with g1'
    subst g1'
    injection g2 with g2
    subst g2
    exact ⟨(i0, i1, s2), rfl, fits z2⟩
def opdIn : (Nat → Prop) → World → List Value → Opd → Prop := fun F w row o => opdF F w row o ∧ OpdFit o
set_option maxRecDepth 100000 in
theorem at_opd (N : Nat) : OpensAt enc Tryd.prog w 46 6 opdIn N := by
  match N with
  | 0 => exact opensAt_zero
  | N + 1 =>
  intro n row y hl h hlt hB hN
  obtain ⟨xs, k, -, rfl, -, hxl, hf⟩ := DataW.trod_struct Tryd.underlying46 h
  match row, hl, xs, hxl with
  | [c0, c1, c2, c3, c4, c5], _, [y0, y1, y2, y3], _ =>
    obtain ⟨i0, g0⟩ := fieldS Tryd.underlying46 hf hlt hB hN 0 _ rfl (by simp) (by kernel_rfl) (at_int N) [c0] (by simp) rfl
    obtain ⟨v, gv, zv⟩ := fieldS Tryd.underlying46 hf hlt hB hN 1 _ rfl (by simp) (by kernel_rfl) (at_val N) [c1, c2, c3] (by simp) rfl
    obtain ⟨s4, g4, z4⟩ := fieldS Tryd.underlying46 hf hlt hB hN 2 _ rfl (by simp) (by kernel_rfl) (at_str N) [c4] (by simp) rfl
    obtain ⟨s5, g5, z5⟩ := fieldS Tryd.underlying46 hf hlt hB hN 3 _ rfl (by simp) (by kernel_rfl) (at_str N) [c5] (by simp) rfl
    have g0' : [c0] = [Value.int .i64 i0] := g0
    injection g0' with g0'
    subst g0'
    injection g4 with g4
    subst g4
    injection g5 with g5
    subst g5
    simp only [List.cons.injEq, and_true] at gv
    obtain ⟨rfl, rfl, rfl⟩ := gv
    exact ⟨⟨i0, v.1, v.2.1, v.2.2, s4, s5⟩, rfl, zv, fits z4⟩
def fldIn : (Nat → Prop) → World → List Value → Fld → Prop := fun F w row f => plainF fldC F w row f ∧ f.name.size ≤ maxLen
set_option maxRecDepth 100000 in
theorem at_fld (N : Nat) : OpensAt enc Tryd.prog w 79 2 fldIn N := by
  match N with
  | 0 => exact opensAt_zero
  | N + 1 =>
  intro n row y hl h hlt hB hN
  obtain ⟨xs, k, -, rfl, -, hxl, hf⟩ := DataW.trod_struct Tryd.underlying79 h
  match row, hl, xs, hxl with
  | [c0, c1], _, [y0, y1], _ =>
    obtain ⟨s0, g0, z0⟩ := fieldS Tryd.underlying79 hf hlt hB hN 0 _ rfl (by simp) (by kernel_rfl) (at_str N) [c0] (by simp) rfl
    obtain ⟨i1, g1⟩ := fieldS Tryd.underlying79 hf hlt hB hN 1 _ rfl (by simp) (by kernel_rfl) (at_int N) [c1] (by simp) rfl
    have g1' : [c1] = [Value.int .i64 i1] := g1
    injection g1' with g1'
    subst g1'
    injection g0 with g0
    subst g0
    exact ⟨⟨s0, i1⟩, rfl, fits z0⟩
def typIn : (Nat → Prop) → World → List Value → Typ → Prop := fun F w row t => typF F w row t ∧ typOk t
set_option maxRecDepth 100000 in
theorem at_typ (N : Nat) : OpensAt enc Tryd.prog w 68 2 typIn N := by
  match N with
  | 0 => exact opensAt_zero
  | N + 1 =>
  intro n row y hl h hlt hB hN
  obtain ⟨xs, k, -, rfl, -, hxl, hf⟩ := DataW.trod_struct Tryd.underlying68 h
  match row, hl, xs, hxl with
  | [c0, c1], _, [y0, y1], _ =>
    obtain ⟨s0, g0, z0⟩ := fieldS Tryd.underlying68 hf hlt hB hN 0 _ rfl (by simp) (by kernel_rfl) (at_str N) [c0] (by simp) rfl
    obtain ⟨x1, a1, n1, p1, g1, S1⟩ := fieldS Tryd.underlying68 hf hlt hB hN 1 _ rfl (by simp) (by kernel_rfl) (sliceOf Tryd.underlying66 (by kernel_rfl) (by omega) at_fld N) [c1] (by simp) rfl
    injection g0 with g0
    subst g0
    injection g1 with g1
    subst g1
    exact ⟨⟨s0, x1⟩, ⟨a1, n1, p1, rfl, S1.split.1⟩, fits z0, S1.split.2⟩
def condIn : (Nat → Prop) → World → List Value → Cond → Prop := fun F w row c => CondF F w row c ∧ CondFit c
set_option maxRecDepth 100000 in
theorem at_cond (N : Nat) : OpensAt enc Tryd.prog w 48 14 condIn N := by
  induction N using Nat.strongRecOn with
  | ind N ih =>
  match N, ih with
  | 0, _ => exact opensAt_zero
  | N + 1, ih =>
  intro n row y hl h hlt hB hN
  obtain ⟨xs, k, -, rfl, -, hxl, hf⟩ := DataW.trod_struct Tryd.underlying48 h
  match row, hl, xs, hxl with
  | [c0, c1, c2, c3, c4, c5, c6, c7, c8, c9, c10, c11, c12, c13], _, [y0, y1, y2, y3], _ =>
    obtain ⟨i0, g0⟩ := fieldS Tryd.underlying48 hf hlt hB hN 0 _ rfl (by simp) (by kernel_rfl) (at_int N) [c0] (by simp) rfl
    obtain ⟨x1, a1, n1, p1, g1, S1⟩ := fieldS Tryd.underlying48 hf hlt hB hN 1 _ rfl (by simp) (by kernel_rfl) (match N, ih with | 0, _ => opensAt_zero | N + 1, ih => sliceAt Tryd.underlying42 (by kernel_rfl) (by omega) N (ih N (by omega))) [c1] (by simp) rfl
    obtain ⟨l, gl, zl⟩ := fieldS Tryd.underlying48 hf hlt hB hN 2 _ rfl (by simp) (by kernel_rfl) (at_opd N) [c2, c3, c4, c5, c6, c7] (by simp) rfl
    obtain ⟨r, gr, zr⟩ := fieldS Tryd.underlying48 hf hlt hB hN 3 _ rfl (by simp) (by kernel_rfl) (at_opd N) [c8, c9, c10, c11, c12, c13] (by simp) rfl
    have g0' : [c0] = [Value.int .i64 i0] := g0
    injection g0' with g0'
    subst g0'
    injection g1 with g1
    subst g1
    have gl' : [c2, c3, c4, c5, c6, c7] = opdC l := gl
    have gr' : [c8, c9, c10, c11, c12, c13] = opdC r := gr
    unfold opdC at gl' gr'
    simp only [List.cons.injEq, and_true] at gl' gr'
    obtain ⟨rfl, rfl, rfl, rfl, rfl, rfl⟩ := gl'
    obtain ⟨rfl, rfl, rfl, rfl, rfl, rfl⟩ := gr'
    exact ⟨.mk i0 x1 l r, CondF.make i0 l r S1.split.1, .mk zl zr S1.split.2⟩
def patIn : (Nat → Prop) → World → List Value → Pat → Prop := fun F w row p => patF F w row p ∧ PatFit p
set_option maxRecDepth 100000 in
theorem at_pat (N : Nat) : OpensAt enc Tryd.prog w 50 18 patIn N := by
  match N with
  | 0 => exact opensAt_zero
  | N + 1 =>
  intro n row y hl h hlt hB hN
  obtain ⟨xs, k, -, rfl, -, hxl, hf⟩ := DataW.trod_struct Tryd.underlying50 h
  match row, hl, xs, hxl with
  | [c0, c1, c2, c3, c4, c5, c6, c7, c8, c9, c10, c11, c12, c13, c14, c15, c16, c17], _, [y0, y1, y2, y3, y4], _ =>
    obtain ⟨s0, g0, z0⟩ := fieldS Tryd.underlying50 hf hlt hB hN 0 _ rfl (by simp) (by kernel_rfl) (at_str N) [c0] (by simp) rfl
    obtain ⟨s1, g1, z1⟩ := fieldS Tryd.underlying50 hf hlt hB hN 1 _ rfl (by simp) (by kernel_rfl) (at_str N) [c1] (by simp) rfl
    obtain ⟨c, gc, zc⟩ := fieldS Tryd.underlying50 hf hlt hB hN 2 _ rfl (by simp) (by kernel_rfl) (at_cond N) [c2, c3, c4, c5, c6, c7, c8, c9, c10, c11, c12, c13, c14, c15] (by simp) rfl
    obtain ⟨i16, g16⟩ := fieldS Tryd.underlying50 hf hlt hB hN 3 _ rfl (by simp) (by kernel_rfl) (at_int N) [c16] (by simp) rfl
    obtain ⟨i17, g17⟩ := fieldS Tryd.underlying50 hf hlt hB hN 4 _ rfl (by simp) (by kernel_rfl) (at_int N) [c17] (by simp) rfl
    have g16' : [c16] = [Value.int .i64 i16] := g16
    injection g16' with g16'
    subst g16'
    have g17' : [c17] = [Value.int .i64 i17] := g17
    injection g17' with g17'
    subst g17'
    injection g0 with g0
    subst g0
    injection g1 with g1
    subst g1
    obtain ⟨a1, n1, p1, e, hs⟩ := gc.open
    refine ⟨⟨s0, s1, c, i16, i17⟩, ⟨a1, n1, p1, ?_, hs⟩, fits z0, zc⟩
    unfold opdC at e
    simp only [List.cons_append, List.nil_append, List.cons.injEq, and_true] at e
    obtain ⟨rfl, rfl, rfl, rfl, rfl, rfl, rfl, rfl, rfl, rfl, rfl, rfl, rfl, rfl⟩ := e
    rfl
def manIn : (Nat → Prop) → World → List Value → Many → Prop := fun F w row m => manF F w row m ∧ PatFit m.pat
set_option maxRecDepth 100000 in
theorem at_man (N : Nat) : OpensAt enc Tryd.prog w 72 20 manIn N := by
  match N with
  | 0 => exact opensAt_zero
  | N + 1 =>
  intro n row y hl h hlt hB hN
  obtain ⟨xs, k, -, rfl, -, hxl, hf⟩ := DataW.trod_struct Tryd.underlying72 h
  match row, hl, xs, hxl with
  | [c0, c1, c2, c3, c4, c5, c6, c7, c8, c9, c10, c11, c12, c13, c14, c15, c16, c17, c18, c19], _, [y0, y1, y2], _ =>
    obtain ⟨i0, g0⟩ := fieldS Tryd.underlying72 hf hlt hB hN 0 _ rfl (by simp) (by kernel_rfl) (at_int N) [c0] (by simp) rfl
    obtain ⟨s1, g1, z1⟩ := fieldS Tryd.underlying72 hf hlt hB hN 1 _ rfl (by simp) (by kernel_rfl) (at_str N) [c1] (by simp) rfl
    obtain ⟨p, gp, zp⟩ := fieldS Tryd.underlying72 hf hlt hB hN 2 _ rfl (by simp) (by kernel_rfl) (at_pat N) [c2, c3, c4, c5, c6, c7, c8, c9, c10, c11, c12, c13, c14, c15, c16, c17, c18, c19] (by simp) rfl
    have g0' : [c0] = [Value.int .i64 i0] := g0
    injection g0' with g0'
    subst g0'
    injection g1 with g1
    subst g1
    obtain ⟨a1, n1, p1, e, hs⟩ := gp
    refine ⟨⟨i0, s1, p⟩, ⟨a1, n1, p1, ?_, hs⟩, zp⟩
    unfold manC
    rw [← e]
set_option maxRecDepth 100000 in
theorem at_opt (N : Nat) : OpensAt enc Tryd.prog w 104 3 (plainF optC) N := by
  match N with
  | 0 => exact opensAt_zero
  | N + 1 =>
  intro n row y hl h hlt hB hN
  obtain ⟨xs, k, -, rfl, -, hxl, hf⟩ := DataW.trod_struct Tryd.underlying104 h
  match row, hl, xs, hxl with
  | [c0, c1, c2], _, [y0, y1, y2], _ =>
    obtain ⟨i0, g0⟩ := fieldS Tryd.underlying104 hf hlt hB hN 0 _ rfl (by simp) (by kernel_rfl) (at_int N) [c0] (by simp) rfl
    obtain ⟨i1, g1⟩ := fieldS Tryd.underlying104 hf hlt hB hN 1 _ rfl (by simp) (by kernel_rfl) (at_int N) [c1] (by simp) rfl
    obtain ⟨i2, g2⟩ := fieldS Tryd.underlying104 hf hlt hB hN 2 _ rfl (by simp) (by kernel_rfl) (at_int N) [c2] (by simp) rfl
    have g0' : [c0] = [Value.int .i64 i0] := g0
    injection g0' with g0'
    subst g0'
    have g1' : [c1] = [Value.int .i64 i1] := g1
    injection g1' with g1'
    subst g1'
    have g2' : [c2] = [Value.int .i64 i2] := g2
    injection g2' with g2'
    subst g2'
    exact ⟨⟨i0, i1, i2⟩, rfl⟩
set_option maxRecDepth 100000 in
theorem at_lnk (N : Nat) : OpensAt enc Tryd.prog w 102 3 lnkF N := by
  match N with
  | 0 => exact opensAt_zero
  | N + 1 =>
  intro n row y hl h hlt hB hN
  obtain ⟨xs, k, -, rfl, -, hxl, hf⟩ := DataW.trod_struct Tryd.underlying102 h
  match row, hl, xs, hxl with
  | [c0, c1, c2], _, [y0, y1, y2], _ =>
    obtain ⟨s0, g0, z0⟩ := fieldS Tryd.underlying102 hf hlt hB hN 0 _ rfl (by simp) (by kernel_rfl) (at_str N) [c0] (by simp) rfl
    obtain ⟨x1, a1, n1, p1, g1, S1⟩ := fieldS Tryd.underlying102 hf hlt hB hN 1 _ rfl (by simp) (by kernel_rfl) (sliceOf Tryd.underlying100 (by kernel_rfl) (by omega) at_opt N) [c1] (by simp) rfl
    obtain ⟨s2, g2, z2⟩ := fieldS Tryd.underlying102 hf hlt hB hN 2 _ rfl (by simp) (by kernel_rfl) (at_str N) [c2] (by simp) rfl
    injection g0 with g0
    subst g0
    injection g1 with g1
    subst g1
    injection g2 with g2
    subst g2
    exact ⟨⟨s0, x1, s2⟩, a1, n1, p1, rfl, S1⟩
/-- What a rule emits. -/
def emiIn : (Nat → Prop) → World → List Value → ByteArray × List Opd → Prop := fun F w row e => ∃ a n c, row = [.string e.1, .slice a n c] ∧ SlF F w 6 opdF a n c e.2 ∧ (∀ o ∈ e.2, OpdFit o) ∧ e.1.size ≤ maxLen
set_option maxRecDepth 100000 in
theorem at_emi (N : Nat) : OpensAt enc Tryd.prog w 58 2 emiIn N := by
  match N with
  | 0 => exact opensAt_zero
  | N + 1 =>
  intro n row y hl h hlt hB hN
  obtain ⟨xs, k, -, rfl, -, hxl, hf⟩ := DataW.trod_struct Tryd.underlying58 h
  match row, hl, xs, hxl with
  | [c0, c1], _, [y0, y1], _ =>
    obtain ⟨s0, g0, z0⟩ := fieldS Tryd.underlying58 hf hlt hB hN 0 _ rfl (by simp) (by kernel_rfl) (at_str N) [c0] (by simp) rfl
    obtain ⟨x1, a1, n1, p1, g1, S1⟩ := fieldS Tryd.underlying58 hf hlt hB hN 1 _ rfl (by simp) (by kernel_rfl) (sliceOf Tryd.underlying56 (by kernel_rfl) (by omega) at_opd N) [c1] (by simp) rfl
    injection g0 with g0
    subst g0
    injection g1 with g1
    subst g1
    exact ⟨(s0, x1), a1, n1, p1, rfl, S1.split.1, S1.split.2, fits z0⟩
def rulIn : (Nat → Prop) → World → List Value → Rul → Prop := fun F w row x => rulF F w row x ∧ RulFit x ∧ x.etype.size ≤ maxLen
set_option maxRecDepth 100000 in
theorem at_rul (N : Nat) : OpensAt enc Tryd.prog w 60 7 rulIn N := by
  match N with
  | 0 => exact opensAt_zero
  | N + 1 =>
  intro n row y hl h hlt hB hN
  obtain ⟨xs, k, -, rfl, -, hxl, hf⟩ := DataW.trod_struct Tryd.underlying60 h
  match row, hl, xs, hxl with
  | [c0, c1, c2, c3, c4, c5, c6], _, [y0, y1, y2, y3, y4, y5], _ =>
    obtain ⟨s0, g0, z0⟩ := fieldS Tryd.underlying60 hf hlt hB hN 0 _ rfl (by simp) (by kernel_rfl) (at_str N) [c0] (by simp) rfl
    obtain ⟨x1, a1, n1, p1, g1, S1⟩ := fieldS Tryd.underlying60 hf hlt hB hN 1 _ rfl (by simp) (by kernel_rfl) (sliceOf Tryd.underlying53 (by kernel_rfl) (by omega) at_pat N) [c1] (by simp) rfl
    obtain ⟨x2, a2, n2, p2, g2, S2⟩ := fieldS Tryd.underlying60 hf hlt hB hN 2 _ rfl (by simp) (by kernel_rfl) (sliceOf Tryd.underlying53 (by kernel_rfl) (by omega) at_pat N) [c2] (by simp) rfl
    obtain ⟨x3, a3, n3, p3, g3, S3⟩ := fieldS Tryd.underlying60 hf hlt hB hN 3 _ rfl (by simp) (by kernel_rfl) (sliceOf Tryd.underlying54 (by kernel_rfl) (by omega) at_man N) [c3] (by simp) rfl
    obtain ⟨x4, a4, n4, p4, g4, S4⟩ := fieldS Tryd.underlying60 hf hlt hB hN 4 _ rfl (by simp) (by kernel_rfl) (sliceOf Tryd.underlying55 (by kernel_rfl) (by omega) at_lnk N) [c4] (by simp) rfl
    obtain ⟨e, a5, n5, p5, g5, S5, zo, ze⟩ := fieldS Tryd.underlying60 hf hlt hB hN 5 _ rfl (by simp) (by kernel_rfl) (at_emi N) [c5, c6] (by simp) rfl
    injection g0 with g0
    subst g0
    injection g1 with g1
    subst g1
    injection g2 with g2
    subst g2
    injection g3 with g3
    subst g3
    injection g4 with g4
    subst g4
    simp only [List.cons.injEq, and_true] at g5
    obtain ⟨rfl, rfl⟩ := g5
    exact ⟨⟨s0, x1, x2, x3, x4, e.1, e.2⟩, ⟨a1, n1, p1, a2, n2, p2, a3, n3, p3, a4, n4, p4, a5, n5, p5, rfl, S1.split.1, S2.split.1, S3.split.1, S4, S5⟩, ⟨fits z0, S1.split.2, S2.split.2, S3.split.2, zo⟩, ze⟩
def bokIn : (Nat → Prop) → World → List Value → Bok → Prop := fun F w row b => ∃ a1 n1 c1 a2 n2 c2, row = [.slice a1 n1 c1, .slice a2 n2 c2] ∧ SlF F w 2 typIn a1 n1 c1 b.types ∧ SlF F w 7 rulIn a2 n2 c2 b.rules
set_option maxRecDepth 100000 in
theorem at_bok (N : Nat) : OpensAt enc Tryd.prog w 25 2 bokIn N := by
  match N with
  | 0 => exact opensAt_zero
  | N + 1 =>
  intro n row y hl h hlt hB hN
  obtain ⟨xs, k, -, rfl, -, hxl, hf⟩ := DataW.trod_struct Tryd.underlying25 h
  match row, hl, xs, hxl with
  | [c0, c1], _, [y0, y1], _ =>
    obtain ⟨x0, a0, n0, p0, g0, S0⟩ := fieldS Tryd.underlying25 hf hlt hB hN 0 _ rfl (by simp) (by kernel_rfl) (sliceOf Tryd.underlying22 (by kernel_rfl) (by omega) at_typ N) [c0] (by simp) rfl
    obtain ⟨x1, a1, n1, p1, g1, S1⟩ := fieldS Tryd.underlying25 hf hlt hB hN 1 _ rfl (by simp) (by kernel_rfl) (sliceOf Tryd.underlying23 (by kernel_rfl) (by omega) at_rul N) [c1] (by simp) rfl
    injection g0 with g0
    subst g0
    injection g1 with g1
    subst g1
    exact ⟨⟨x0, x1⟩, a0, n0, p0, a1, n1, p1, rfl, S0, S1⟩
/-- A book that came in. -/
theorem open_book {W : World} {v : Value} {d : DataW H} {ps : List MemPlace} (hk : v.cells.toList.length = 2) (h : DataW.Trod enc Tryd.prog W 0 (fun _ => true) true 25 v d ps) (hlt : ∀ p ∈ ps, p.block < W.heap.size) (hB : ∀ q ∈ d.weights Tryd.prog 25, q ≤ reachBytes) :
    ∃ (b : Bok) (a1 : Option Addr) (n1 c1 : Nat) (a2 : Option Addr) (n2 c2 : Nat), v.cells.toList = [.slice a1 n1 c1, .slice a2 n2 c2] ∧ SlF (under W.heap.size) W 2 typF a1 n1 c1 b.types ∧ SlF (under W.heap.size) W 7 rulF a2 n2 c2 b.rules ∧ (∀ t ∈ b.types, typOk t) ∧ (∀ x ∈ b.rules, RulFit x) ∧ ∀ x ∈ b.rules, x.etype.size ≤ maxLen := by
  obtain ⟨fuel, hf⟩ := h
  obtain ⟨b, a1, n1, c1, a2, n2, c2, e, S1, S2⟩ := at_bok (enc := enc) (w := W) (SizeOf.sizeOf d + 1) fuel v.cells.toList (d, ps) hk hf hlt hB (Nat.lt_succ_self _)
  have S2' : SlF (under W.heap.size) W 7 (fun F w row x => rulF F w row x ∧ (RulFit x ∧ x.etype.size ≤ maxLen)) a2 n2 c2 b.rules := S2
  exact ⟨b, a1, n1, c1, a2, n2, c2, e, S1.split.1, S2'.split.1, S1.split.2, fun x hx => (S2'.split.2 x hx).1, fun x hx => (S2'.split.2 x hx).2⟩
end
end Go.Proofs.YthlnheckaoeooaaDoor
/-
  A book that came in as an argument.
-/
namespace Go.Proofs.YthlnheckaoeooaaDoor
open Go.ChangeShapes Go.WideShapes Go.ChangeAt Go.RowKit Go.Joins Go.Deep
set_option linter.unusedVariables false
set_option linter.unusedSimpArgs false

set_option maxRecDepth 100000 in
/-- A book that came in. -/
theorem open_bok {H : Type} {enc : TypeId × Value → H} {W : World} {base : Nat} {v : Value} {d : DataW H} {ps : List MemPlace} (hv : Value.okWide Tryd.prog W .any base 25 v) (h : DataW.Trod enc Tryd.prog W 0 (fun _ => true) true 25 v d ps) (hlt : ∀ p ∈ ps, p.block < W.heap.size) (hB : ∀ q ∈ d.weights Tryd.prog 25, q ≤ reachBytes) :
    ∃ (b : Bok) (a1 : Option Addr) (n1 c1 : Nat) (a2 : Option Addr) (n2 c2 : Nat), v = .agg #[.slice a1 n1 c1, .slice a2 n2 c2] ∧ SlF (under W.heap.size) W 2 typF a1 n1 c1 b.types ∧ SlF (under W.heap.size) W 7 rulF a2 n2 c2 b.rules ∧ (∀ t ∈ b.types, typOk t) ∧ (∀ x ∈ b.rules, RulFit x) ∧ ∀ x ∈ b.rules, x.etype.size ≤ maxLen := by
  obtain ⟨cs, rfl, hsz⟩ := okWide_struct Tryd.underlying25 hv
  have hk : Tryd.prog.cellsOf 25 = 2 := by kernel_rfl
  obtain ⟨b, a1, n1, c1, a2, n2, c2, e, r⟩ := open_book (by rw [hk] at hsz; simpa [Value.cells] using hsz) h hlt hB
  refine ⟨b, a1, n1, c1, a2, n2, c2, ?_, r⟩
  have h1 : cs = cs.toList.toArray := by simp
  have h2 : cs.toList = [.slice a1 n1 c1, .slice a2 n2 c2] := by simpa [Value.cells] using e
  rw [h1, h2]
end Go.Proofs.YthlnheckaoeooaaDoor
/-
  Lists of events as an argument, opened.
-/
namespace Go.Proofs.YthlnheckaoeooaaDoor
open Go.ChangeShapes Go.WideShapes Go.ChangeAt Go.RowKit Go.Joins Go.Deep
set_option linter.unusedVariables false
set_option linter.unusedSimpArgs false

section
variable {H : Type} {enc : TypeId × Value → H} {w : World}
def valIn : (Nat → Prop) → World → List Value → Val → Prop := fun F w row v => plainF valC F w row v ∧ v.text.size ≤ maxLen
theorem at_valv (N : Nat) : OpensAt enc Tryd.prog w 44 3 valIn N := fun n row y hl h hlt hB hN => by
  obtain ⟨v, e, z⟩ := at_val N n row y hl h hlt hB hN
  exact ⟨⟨v.1, v.2.1, v.2.2⟩, e, z⟩
def spnF : (Nat → Prop) → World → List Value → Int × Int → Prop := fun _ _ row v => row = [.int .i64 v.1, .int .i64 v.2]
set_option maxRecDepth 100000 in
theorem at_span (N : Nat) : OpensAt enc Tryd.prog w 27 2 spnF N := by
  match N with
  | 0 => exact opensAt_zero
  | N + 1 =>
  intro n row y hl h hlt hB hN
  obtain ⟨xs, k, -, rfl, -, hxl, hf⟩ := DataW.trod_struct Tryd.underlying27 h
  match row, hl, xs, hxl with
  | [c0, c1], _, [y0, y1], _ =>
    obtain ⟨i0, g0⟩ := fieldS Tryd.underlying27 hf hlt hB hN 0 _ rfl (by simp) (by kernel_rfl) (at_int N) [c0] (by simp) rfl
    obtain ⟨i1, g1⟩ := fieldS Tryd.underlying27 hf hlt hB hN 1 _ rfl (by simp) (by kernel_rfl) (at_int N) [c1] (by simp) rfl
    have g0' : [c0] = [Value.int .i64 i0] := g0
    injection g0' with g0'
    subst g0'
    have g1' : [c1] = [Value.int .i64 i1] := g1
    injection g1' with g1'
    subst g1'
    exact ⟨(i0, i1), rfl⟩
def eveIn : (Nat → Prop) → World → List Value → Eve → Prop := fun F w row x => eveF F w row x ∧ eveOk x
set_option maxRecDepth 100000 in
theorem at_eve (N : Nat) : OpensAt enc Tryd.prog w 30 5 eveIn N := by
  match N with
  | 0 => exact opensAt_zero
  | N + 1 =>
  intro n row y hl h hlt hB hN
  obtain ⟨xs, k, -, rfl, -, hxl, hf⟩ := DataW.trod_struct Tryd.underlying30 h
  match row, hl, xs, hxl with
  | [c0, c1, c2, c3, c4], _, [y0, y1, y2, y3], _ =>
    obtain ⟨i0, g0⟩ := fieldS Tryd.underlying30 hf hlt hB hN 0 _ rfl (by simp) (by kernel_rfl) (at_int N) [c0] (by simp) rfl
    obtain ⟨i1, g1⟩ := fieldS Tryd.underlying30 hf hlt hB hN 1 _ rfl (by simp) (by kernel_rfl) (at_int N) [c1] (by simp) rfl
    obtain ⟨s, gs⟩ := fieldS Tryd.underlying30 hf hlt hB hN 2 _ rfl (by simp) (by kernel_rfl) (at_span N) [c2, c3] (by simp) rfl
    obtain ⟨x4, a4, n4, p4, g4, S4⟩ := fieldS Tryd.underlying30 hf hlt hB hN 3 _ rfl (by simp) (by kernel_rfl) (sliceOf Tryd.underlying28 (by kernel_rfl) (by omega) at_valv N) [c4] (by simp) rfl
    have g0' : [c0] = [Value.int .i64 i0] := g0
    injection g0' with g0'
    subst g0'
    have g1' : [c1] = [Value.int .i64 i1] := g1
    injection g1' with g1'
    subst g1'
    have gs' : [c2, c3] = [Value.int .i64 s.1, Value.int .i64 s.2] := gs
    simp only [List.cons.injEq, and_true] at gs'
    obtain ⟨rfl, rfl⟩ := gs'
    injection g4 with g4
    subst g4
    have S4' : SlF (under w.heap.size) w 3 (fun F w row v => plainF valC F w row v ∧ v.text.size ≤ maxLen) a4 n4 p4 x4 := S4
    exact ⟨⟨⟨i0, i1, s.1, s.2⟩, x4⟩, ⟨a4, n4, p4, rfl, S4'.split.1⟩, S4'.split.2⟩
end
theorem opens_events : Opens Tryd.prog 31 1 (sliceF 5 56 eveIn) := opens_slice Tryd.underlying31 (by kernel_rfl) (by kernel_rfl) ⟨by kernel_rfl, by omega, fun {H enc} w n row y hl h hlt hB => at_eve _ n row y hl h hlt hB (Nat.lt_succ_self _)⟩
end Go.Proofs.YthlnheckaoeooaaDoor
/-
  Rows of events, copied by an append.
-/
namespace Go.Proofs.YthlnheckaoeooaaDoor
open Go.ChangeShapes Go.WideShapes Go.ChangeAt Go.RowKit Go.Joins Go.Deep
set_option linter.unusedVariables false
set_option linter.unusedSimpArgs false

theorem info_eve : (Tryd.prog.info? 30).map (fun i => (i.zero, i.size, i.bytes)) = some (some (.agg #[.int .i64 0, .int .i64 0, .int .i64 0, .int .i64 0, .slice none 0 0]), 5, 56) := by kernel_rfl
theorem eveF_one : ∀ F w row x, eveF F w row x → ∀ u ∈ row, u.oneCell' = true := fun F w row x ⟨ao, n, cap, h, _⟩ u hu => by
  subst h
  exact ones_of (vs := [.int .i64 x.e.number, .int .i64 x.e.type, .int .i64 x.e.start, .int .i64 x.e.stop, .slice ao n cap]) rfl u hu
theorem eveF_wide {F G : Nat → Prop} {w : World} {row : List Value} {x : Eve} (h : ∀ b, F b → b < w.heap.size → G b) (hx : eveF F w row x) : eveF G w row x := eveF_firm _ _ _ _ _ _ (Same.wide h) hx
/-- A list of events, copied by an append to nil. -/
theorem copy_eves {F : Nat → Prop} {ao : Option Addr} {n cap : Nat} {l : List Eve} {w0 wx : World} (hL : SlF F w0 5 eveF ao n cap l) (hn : n * 56 ≤ 140737488355328) (hb : Below w0.heap.size w0 wx) :
    ∃ ao' cap' w', (Builtin.append_ #[31, 31] 31 #[.slice none 0 0, .slice ao n cap]).run Tryd.prog wx = .ok (.slice ao' n cap') w' ∧ SlF (under w'.heap.size) w' 5 eveF ao' n cap' l ∧ Below wx.heap.size wx w' := by
  obtain ⟨i0, hi, hz0, hz1, hz2⟩ := info_parts info_eve
  obtain ⟨ao', cap', w', hrun, hS, hb'⟩ := run_copy_to (P := Tryd.prog) (G := fun _ => True) Tryd.underlying31 hi hz0 hz1 hz2 rfl (by omega) eveF_firm eveF_one (hL.below eveF_firm hb) hn (Nat.le_refl _) none (World.ownsRow_nil _ _ _ _) (fun b h => trivial) (fun row x h => eveF_wide (fun b _ _ => ⟨trivial, by simp [Value.ownBlock]⟩) h)
  exact ⟨ao', cap', w', hrun, hS.wide eveF_firm (fun b _ h => h), hb'⟩
theorem man_few {ts : List Typ} {x : Rul} (h : ruleE ts x = 0) : x.manies.length ≤ 100000 := by
  unfold ruleE at h
  by_cases h1 : freeE x.name ≠ 0
  · rw [if_pos h1] at h; exact absurd h h1
  rw [if_neg h1] at h
  by_cases h2 : sizeB x = true
  · rw [if_pos h2] at h; exact absurd h (by decide)
  simp [sizeB] at h2
  omega
theorem when_few {ts : List Typ} {x : Rul} (h : ruleE ts x = 0) : x.whens.length ≤ 100000 := by
  unfold ruleE at h
  by_cases h1 : freeE x.name ≠ 0
  · rw [if_pos h1] at h; exact absurd h h1
  rw [if_neg h1] at h
  by_cases h2 : sizeB x = true
  · rw [if_pos h2] at h; exact absurd h (by decide)
  simp [sizeB] at h2
  omega
theorem range_part {w : World} {z : Nat} {cs : List Value} (h : w.rangeAt z 0 cs) (p : Nat) (vs : List Value) (hv : (cs.drop p).take vs.length = vs) : w.rangeAt z p vs := fun j x hj => by
  have hl : j < vs.length := (List.getElem?_eq_some_iff.1 hj).1
  have key : cs[p + j]? = some x := by rw [← hv, List.getElem?_take, if_pos hl, List.getElem?_drop] at hj; exact hj
  have := h (p + j) x key
  rwa [Nat.zero_add] at this
theorem partL_fit {x : Rul} (h : RulFit x) {part : Int} {k : Nat} (hk : k < (partL x part).length) : PatFit ((partL x part).getD k pat0) := by
  rw [show (partL x part).getD k pat0 = (partL x part)[k] by simp [List.getD, List.getElem?_eq_getElem hk]]
  have hm := List.getElem_mem hk
  generalize (partL x part)[k] = p at hm
  unfold partL at hm
  by_cases h0 : part = 0
  · rw [if_pos h0] at hm; exact h.whens p hm
  by_cases h1 : part = 1
  · rw [if_neg h0, if_pos h1] at hm; exact h.nots p hm
  by_cases h2 : part = 2
  · rw [if_neg h0, if_neg h1, if_pos h2] at hm
    obtain ⟨m, h3, rfl⟩ := List.mem_map.1 hm
    exact h.manies m h3
  · rw [if_neg h0, if_neg h1, if_neg h2] at hm; cases hm
end Go.Proofs.YthlnheckaoeooaaDoor
/-
  Regions that draw, where every operation reads, reckons, or calls what leaves the elder blocks alone: one walk of the lexical order serves them all.
-/
namespace Go.Proofs.YthlnheckaoeooaaDoor
open Go.RowKit
set_option linter.unusedVariables false
set_option linter.unusedSimpArgs false

@[irreducible] def QSP (P : Program) (o : Oper) (a : Act) (C : World → Prop) (K : Act → Prop) : Prop := o.quiet P a C K
theorem qsp_eq {P : Program} {o : Oper} {a : Act} {C : World → Prop} {K : Act → Prop} : QSP P o a C K = o.quiet P a C K := by unfold QSP; rfl
theorem qsp_of {P : Program} {o : Oper} {a : Act} {C : World → Prop} {K : Act → Prop} (h : o.quiet P a C K) : QSP P o a C K := qsp_eq ▸ h
theorem qsp_out {P : Program} {o : Oper} {a : Act} {C : World → Prop} {K : Act → Prop} (h : QSP P o a C K) : o.quiet P a C K := qsp_eq ▸ h
section
variable {P : Program} {ops : Array Oper} {opsl rest : List Oper} {o : Oper} {a : Act} {C : World → Prop} {Q : Act → Prop} {K : Act → Prop} {dst : Option Tmp} {op : Op} {oty : TypeId} {pos : String} {after : Array Edge} {g : Option (Nat × Bool)} {gi : Nat} {want : Bool} {t : Tmp} {l l' : List Value} {ds : List Deferred}
theorem c_list (hg : o.guard = none) (h : ∀ K : Act → Prop, (∀ a, wpQuiet P ops C Q rest a → K a) → QSP P o a C K) : wpQuiet P ops C Q (o :: rest) a :=
  wpQuiet_step fun K hK => by rw [if_pos (wanted_none hg)]; exact qsp_out (h K hK)
theorem c_listg [ho : NthO opsl gi t] [hv : Nth l t (.bool want)] (h : ∀ K : Act → Prop, (∀ a, wpQuiet P opsl.toArray C Q rest a → K a) → QSP P ⟨dst, op, oty, pos, after, some (gi, want)⟩ ⟨l.toArray, ds⟩ C K) :
    wpQuiet P opsl.toArray C Q (⟨dst, op, oty, pos, after, some (gi, want)⟩ :: rest) ⟨l.toArray, ds⟩ :=
  wpQuiet_step fun K hK => by rw [if_pos (by rw [wanted_g hv.nth]; simp)]; exact qsp_out (h K hK)
theorem c_skipT [ho : NthO opsl gi t] [hv : Nth l t (.bool false)] [hp : PutI l dst undef l'] (h : wpQuiet P opsl.toArray C Q rest ⟨l'.toArray, ds⟩) : wpQuiet P opsl.toArray C Q (⟨dst, op, oty, pos, after, some (gi, true)⟩ :: rest) ⟨l.toArray, ds⟩ :=
  wpQuiet_step fun K hK => by rw [if_neg (by rw [wanted_g hv.nth]; simp)]; refine hK _ ?_; rw [hp.put]; exact h
theorem c_skipF [ho : NthO opsl gi t] [hv : Nth l t (.bool true)] [hp : PutI l dst undef l'] (h : wpQuiet P opsl.toArray C Q rest ⟨l'.toArray, ds⟩) : wpQuiet P opsl.toArray C Q (⟨dst, op, oty, pos, after, some (gi, false)⟩ :: rest) ⟨l.toArray, ds⟩ :=
  wpQuiet_step fun K hK => by rw [if_neg (by rw [wanted_g hv.nth]; simp)]; refine hK _ ?_; rw [hp.put]; exact h
/-- An operation that yields one value whatever the world; a call. -/
theorem c_pure {v : Value} (hr : ∀ w, (execOp a.eval o).run P w = .ok (.value v) w) (h : K (a.put o.dst v)) : QSP P o a C K :=
  qsp_of ⟨v, fun w hw => by unfold Oper.quietAt; rw [hr w]; exact ⟨rfl, rfl⟩, h⟩
theorem c_call {n : FuncId} {args : Array Value} {v : Value} (hr : ∀ w, (execOp a.eval o).run P w = .ok (.enter n args) w) (hc : ∀ w, C w → Calls P n args w fun e w' => e = .returned v ∧ C w') (h : K (a.put o.dst v)) : QSP P o a C K :=
  qsp_of ⟨v, fun w hw => by unfold Oper.quietAt; rw [hr w]; exact ⟨rfl, hc w hw⟩, h⟩
theorem c_load {d : Nat} {ty : TypeId} {x : Operand} {x0 : Value} [h0 : Nth l d x0] (hi : ∃ w, C w) (h : ∀ w, C w → OWP P ⟨some d, .load ty x, oty, pos, after, g⟩ ⟨l.toArray, ds⟩ w (fun a' w' => w' = w ∧ a' = ⟨l'.toArray, ds⟩) (fun _ _ _ => False)) (hk : K ⟨l'.toArray, ds⟩) : QSP P ⟨some d, .load ty x, oty, pos, after, g⟩ ⟨l.toArray, ds⟩ C K := by
  have hl : d < l.length := (List.getElem?_eq_some_iff.1 h0.nth).1
  have key : ∀ w, C w → ∃ y, (Instr.loadAt ty (Act.eval ⟨l.toArray, ds⟩ x)).run P w = .ok y w ∧ l' = l.set d y := fun w hw => by
    have h2 := owp_out (h w hw)
    unfold Oper.wp execOp at h2
    simp only [Sem.run_bind] at h2
    cases hr : (Instr.loadAt ty (Act.eval ⟨l.toArray, ds⟩ x)).run P w with
    | ok y w' =>
      rw [hr] at h2
      simp only [Result.andThen_ok, Sem.run_pure] at h2
      obtain ⟨e1, e2⟩ := h2
      refine ⟨y, by rw [e1], ?_⟩
      simp only [Act.put, Act.mk.injEq, and_true] at e2
      have e3 := congrArg Array.toList e2
      simpa using e3.symm
    | halt e w' =>
      rw [hr] at h2
      revert h2
      cases e <;> (intro h2; exact absurd h2 (by simp [Result.andThen, Oper.upon]))
  obtain ⟨w0, hw0⟩ := hi
  obtain ⟨y0, -, e0⟩ := key w0 hw0
  refine qsp_of ⟨y0, fun w hw => ?_, by rw [put_set, ← e0]; exact hk⟩
  obtain ⟨y, hr, e⟩ := key w hw
  unfold Oper.quietAt execOp
  simp only [Sem.run_bind, hr, Result.andThen_ok, Sem.run_pure]
  refine ⟨rfl, ?_⟩
  have e3 := congrArg (fun x : List Value => x[d]?) (e.symm.trans e0)
  simpa [hl] using e3
end
section
variable {P : Program} {At : PS → World → Prop} {b : Nat} {u w : World} {s : PS} {L : List Ent}
theorem wp_region_calm {id : Nat} {Q : Exit → Act → World → Prop} {a : Act} {l : List Oper} (M : Mem At b u w s L) (hm : P.follows .mixedOrders = true) (hB : Region.lexB .any l.toArray = true)
    (h : wpQuiet P l.toArray (fun wx => Mem At b u wx s L) (fun a' => ∀ w', Mem At b u w' s L → Q .normal a' w') l a) : (Code.region id l.toArray true).wp P Q a w :=
  wp_region_quiet (C := fun wx => Mem At b u wx s L) hm hB M.drew (by simpa using h)
end
end Go.Proofs.YthlnheckaoeooaaDoor
