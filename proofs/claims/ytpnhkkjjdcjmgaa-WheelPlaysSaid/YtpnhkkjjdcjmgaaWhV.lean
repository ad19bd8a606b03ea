/-
  A slice of timers of one's own as one block; slices.IndexFunc, slices.DeleteFunc by a timer's number.
-/
import Derived.Test.YtpnhkkjjdcjmgaaWhU
namespace Go.Proofs.Ytpnhkkjjdcjmgaa
open Go.RowKit
set_option linter.unusedVariables false
set_option linter.unusedSimpArgs false

/-- The cells of timers. -/
def rowsC : List Tm → List Value
  | [] => []
  | t :: l => tmC t ++ rowsC l
theorem rowsC_len : ∀ l : List Tm, (rowsC l).length = l.length * 3
  | [] => rfl
  | t :: l => by
    unfold rowsC
    rw [List.length_append, rowsC_len l, List.length_cons]
    simp only [tmC, List.length_cons, List.length_nil]; omega
theorem rowsC_get : ∀ (l : List Tm) (sp : List Value) (j : Nat) (h : j < l.length) (q : Nat), q < 3 → (rowsC l ++ sp)[j * 3 + q]? = (tmC l[j])[q]?
  | t :: l, sp, 0, _, q, hq => by
    unfold rowsC
    rw [List.append_assoc, List.getElem?_append_left (by simp [tmC]; omega)]
    simp
  | t :: l, sp, j + 1, h, q, hq => by
    have ih := rowsC_get l sp j (by simpa using h) q hq
    unfold rowsC
    rw [List.append_assoc, List.getElem?_append_right (by simp [tmC]; omega)]
    rw [show (j + 1) * 3 + q - (tmC t).length = j * 3 + q by simp only [tmC, List.length_cons, List.length_nil]; omega]
    rw [ih]
    rfl
theorem rowsC_laid : ∀ (l : List Tm) (sp : List Value) (i : Nat) (y : Tm), i < l.length → laid (rowsC l ++ sp) (i * 3) (tmC y) = rowsC (l.set i y) ++ sp
  | t :: l, sp, 0, y, _ => by simp [laid, rowsC, tmC]
  | t :: l, sp, i + 1, y, h => by
    have ih := rowsC_laid l sp i y (by simpa using h)
    unfold laid at ih ⊢
    rw [show (i + 1) * 3 = i * 3 + 3 by omega]
    rw [show i * 3 + 3 + (tmC y).length = i * 3 + (tmC y).length + 3 by omega]
    show ((tmC t ++ rowsC l) ++ sp).take (i * 3 + 3) ++ tmC y ++ ((tmC t ++ rowsC l) ++ sp).drop (i * 3 + (tmC y).length + 3) = (tmC t ++ rowsC (l.set i y)) ++ sp
    have e1 : ∀ X : List Value, ((tmC t ++ rowsC l) ++ X).take (i * 3 + 3) = tmC t ++ (rowsC l ++ X).take (i * 3) := fun X => by simp [tmC, List.take_succ_cons]
    have e2 : ∀ (X : List Value) (m : Nat), ((tmC t ++ rowsC l) ++ X).drop (m + 3) = (rowsC l ++ X).drop m := fun X m => by simp [tmC, List.drop_succ_cons]
    rw [e1, e2, List.append_assoc (tmC t), List.append_assoc (tmC t), ih, List.append_assoc]
section
variable {At : PS → World → Prop} {b : Nat} {u w : World} {s : PS} {L : List Ent} {e : TypeId}
/-- A slice of timers that has any: its block. -/
theorem Mem.opened {v : Value} {xs : List Tm} (M : Mem At b u w s (slc u.heap.size e 3 tmF v xs :: L)) (hx : xs ≠ []) :
    ∃ g sp rc, v = .slice (some ⟨g, 0, none⟩) xs.length rc ∧ (rowsC xs ++ sp).length = rc * 3 ∧ xs.length ≤ rc ∧ rc ≤ maxLen ∧ Mem At b u w s (own g (rowsC xs ++ sp) e :: L) := by
  obtain ⟨rs, ⟨hl, hrow⟩, hxs⟩ := M.say _ (List.mem_cons_self ..)
  rcases hrow with ⟨_, h0⟩ | ⟨g, cap, cur, rfl, hge, hh, hnc, hcm, hsz, htk⟩
  · exact absurd (List.eq_nil_of_length_eq_zero h0) hx
  · have hrs : rs = rowsC xs := by
      apply List.ext_getElem?
      intro m
      by_cases hm : m < xs.length * 3
      · have hj : m / 3 < xs.length := by omega
        obtain ⟨row, h1, h2, h3⟩ := hxs (m / 3) hj
        have h4 := h2 (m % 3) (by omega)
        have h5 : row = tmC xs[m / 3] := h3
        rw [show m / 3 * 3 + m % 3 = m by omega] at h4
        rw [h4, h5]
        have h6 := rowsC_get xs [] (m / 3) hj (m % 3) (by omega)
        rw [List.append_nil, show m / 3 * 3 + m % 3 = m by omega] at h6
        exact h6.symm
      · rw [List.getElem?_eq_none (by omega), List.getElem?_eq_none (by rw [rowsC_len]; omega)]
    have hcur : rowsC xs ++ cur.toList.drop (xs.length * 3) = cur.toList := by rw [← hrs, ← htk, List.take_append_drop]
    refine ⟨g, cur.toList.drop (xs.length * 3), cap, rfl, by rw [hcur]; simpa using hsz, hnc, hcm, ?_⟩
    refine M.turn _ (own_firm _ _ _) (fun z hz => ?_) (fun F G h1 h2 hF => ?_)
    · have e1 : g = z := by injection hz
      subst e1
      rfl
    · show w.heap[g]? = _
      rw [hcur, Array.toArray_toList]
      exact hh
/-- .. and back again: the first ones of what the block has. -/
theorem Mem.closed {g rc : Nat} {xs : List Tm} {sp : List Value} (M : Mem At b u w s (own g (rowsC xs ++ sp) e :: L)) (hl : (rowsC xs ++ sp).length = rc * 3) (hn : xs.length ≤ rc) (hm : rc ≤ maxLen) :
    Mem At b u w s (slc u.heap.size e 3 tmF (.slice (some ⟨g, 0, none⟩) xs.length rc) xs :: L) := by
  have hO := M.own_ (List.mem_cons_self ..)
  have hne := M.ne (List.mem_cons_self ..)
  refine M.turn _ (slc_firm (plainF_firm _) _ _) (fun z hz => ?_) (fun F G h1 h2 hF => ?_)
  · have e1 : g = z := by injection hz
    subst e1
    rfl
  · refine ⟨rowsC xs, ⟨rowsC_len xs, .inr ⟨g, rc, (rowsC xs ++ sp).toArray, rfl, hne.1, hO, hn, hm, by simpa using hl, ?_⟩⟩, fun i hi => ⟨tmC xs[i], rfl, fun j hj => ?_, rfl⟩⟩
    · rw [List.take_append_of_le_length (by rw [rowsC_len]; omega), List.take_of_length_le (by rw [rowsC_len]; omega)]
    · have := rowsC_get xs [] i hi j hj
      rwa [List.append_nil] at this
theorem Mem.rowR {g : Nat} {xs : List Tm} {sp : List Value} (M : Mem At b u w s (own g (rowsC xs ++ sp) e :: L)) {j : Nat} (hj : j < xs.length) : w.rangeAt g (j * 3) [.int .i64 xs[j].id, .int .i64 xs[j].at_, .int .i64 xs[j].ord] := fun q v hq => by
  have hO := M.own_ (List.mem_cons_self ..)
  have hq3 : q < 3 := by have := (List.getElem?_eq_some_iff.1 hq).1; simpa using this
  rw [hO.cell, rowsC_get xs sp j hj q hq3]
  exact hq
end
theorem rows_ix {g j n rc : Nat} (hj : j < n) (wx : World) : (Instr.indexAt 32 (.slice (some ⟨g, 0, none⟩) n rc) (.int .i64 j)).run Try.prog wx = .ok (.pointer (some ⟨g, j * 3, none⟩)) wx := by
  simp [Instr.indexAt, run_underlying Try.underlying32, asIntOf, size_tm wx]
  rw [if_pos hj, Go.WideShapes.add_plain, Nat.zero_add]
end Go.Proofs.Ytpnhkkjjdcjmgaa
