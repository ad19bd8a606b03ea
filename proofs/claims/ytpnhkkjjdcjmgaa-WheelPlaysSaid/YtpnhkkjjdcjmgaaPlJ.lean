/-
  A slice's rows appended to a slice of one's own. For every program. No condition.
-/
import Derived.Test.YtpnhkkjjdcjmgaaFoot
namespace Go.Proofs.Ytpnhkkjjdcjmgaa
open Go.RowKit
set_option linter.unusedVariables false
set_option linter.unusedSimpArgs false

theorem run_append_rows {α : Type} {P : Program} {t e : TypeId} {i : TypeInfo} {z : Value} {k bytes : Nat} (ht : P.underlying t = some (.slice e)) (hi : P.info? e = some i) (hz : i.zero = some z)
    (hsize : i.size = k) (hby : i.bytes = bytes) (hzs : z.cells.size = k) (hk : 0 < k) {F G : Nat → Prop} {R : (Nat → Prop) → World → List Value → α → Prop} (hR : Firm R) (h1 : ∀ F w row x, R F w row x → ∀ u ∈ row, u.oneCell' = true)
    {w : World} {B : Nat} {v : Value} {xs : List α} (hO : OwnF G B w e k R v xs) {ao : Option Addr} {n cap : Nat} {ys : List α} (h : SlF F w k R ao n cap ys) (hpos : 0 < n) (hbytes : (xs.length + n) * bytes ≤ 140737488355328) (hb0 : 0 < bytes) (hB : B ≤ w.heap.size)
    (hFG : ∀ row x, R F w row x → R (off_ G v) w row x) :
    ∃ v' w', (Builtin.append_ #[t, t] t #[v, .slice ao n cap]).run P w = .ok v' w' ∧ OwnF G B w' e k R v' (xs ++ ys) ∧ Below B w w' ∧ w.grownBy w' v.ownBlock ∧ (v'.ownBlock = v.ownBlock ∨ v'.ownBlock = some w.heap.size) := by
  have hbase := hO.base
  obtain ⟨rs, hv, hxs⟩ := hO
  have hl : rs.length = xs.length * k := hv.1
  obtain ⟨hn, hcap, hmax, hnil, hrows⟩ := h
  have key : ∀ i : Nat, ∃ row : List Value, row.length = k ∧ (i < n → ∃ b off, ao = some ⟨b, off, none⟩ ∧ b < w.heap.size ∧ RowAt w b (off + i * k) k row ∧ ∃ hi : i < ys.length, R F w row ys[i]) := by
    intro i
    by_cases hi : i < n
    · obtain ⟨b, off, row, e, hF, hb, hr, hx⟩ := hrows i (by omega)
      exact ⟨row, hr.1, fun _ => ⟨b, off, e, hb, hr, by omega, hx⟩⟩
    · exact ⟨List.replicate k undef, by simp, fun h => absurd h hi⟩
  obtain ⟨rows, hrw⟩ : ∃ rows : Nat → List Value, ∀ i, (rows i).length = k ∧ (i < n → ∃ b off, ao = some ⟨b, off, none⟩ ∧ b < w.heap.size ∧ RowAt w b (off + i * k) k (rows i) ∧ ∃ hi : i < ys.length, R F w (rows i) ys[i]) :=
    ⟨fun i => Classical.choose (key i), fun i => Classical.choose_spec (key i)⟩
  obtain ⟨hfl, hfi⟩ := flat_row rows (fun i => (hrw i).1) n
  obtain ⟨b, off, hao, hblt, _⟩ := (hrw 0).2 hpos
  subst hao
  have hcell : ∀ i j, i < n → j < k → w.cell? ⟨b, off + (i * k + j), none⟩ = some ((rows i).getD j undef) := by
    intro i j hi hj
    obtain ⟨b', off', e, _, hr, _⟩ := (hrw i).2 hi
    injection e with e; injection e with e1 e2; subst e1; subst e2
    have := hr.2 j hj
    rwa [Nat.add_assoc] at this
  have hdm : ∀ m, m < n * k → ∃ i j, i < n ∧ j < k ∧ m = i * k + j := fun m hm => ⟨m / k, m % k, (Nat.div_lt_iff_lt_mul hk).2 hm, Nat.mod_lt _ hk, by rw [Nat.mul_comm]; exact (Nat.div_add_mod m k).symm⟩
  have hrow1 : ∀ i, i < n → ∀ u ∈ rows i, u.oneCell' = true := fun i hi u hu => by
    obtain ⟨_, _, _, _, _, _, hx⟩ := (hrw i).2 hi
    exact h1 _ _ _ _ hx u hu
  have hmx : xs.length + n ≤ maxLen := by
    unfold maxLen
    have : (xs.length + n) * 1 ≤ (xs.length + n) * bytes := Nat.mul_le_mul_left _ hb0
    omega
  obtain ⟨v', w', hrun, hown, hgrown, hnn, hob⟩ := run_append_own_at (P := P) w B t t e i z k bytes ht hi hz hsize hby hzs hk v xs.length rs hv
    ⟨b, off, none⟩ n cap ((List.range n).flatMap rows) hfl (fun m u hu => by
      have hm : m < n * k := by rw [← hfl]; exact (List.getElem?_eq_some_iff.1 hu).1
      obtain ⟨i, j, hi, hj, rfl⟩ := hdm m hm
      rw [hfi i j hi hj] at hu
      rw [Go.WideShapes.add_plain, hcell i j hi hj]
      simp [List.getD, hu])
    (fun u hu => by
      obtain ⟨i, hi, hu⟩ := List.mem_flatMap.1 hu
      exact hrow1 i (List.mem_range.1 hi) u hu)
    hmx hbytes hB
  have hsame : Same (off_ G v) (off_ G v') w w' := ⟨hgrown.size, fun b hF hlt => ⟨⟨hF.1, by
    rcases hob with e | e
    · rw [e]; exact hF.2
    · rw [e]; intro h; injection h; omega⟩, hgrown.block b hlt (fun e => hF.2 e.symm)⟩⟩
  have hbel : Below B w w' := (Below.refl _ _).grown hgrown hB hbase
  refine ⟨v', w', hrun, ⟨rs ++ (List.range n).flatMap rows, by rw [List.length_append, ← hn]; exact hown, fun i hi => ?_⟩, hbel, hgrown, hob⟩
  rw [List.length_append] at hi
  by_cases hlt : i < xs.length
  · obtain ⟨r, h3, h4, h5⟩ := hxs i hlt
    refine ⟨r, h3, fun j hj => ?_, ?_⟩
    · rw [List.getElem?_append_left ?_]
      · exact h4 j hj
      · rw [hl]
        have : (i + 1) * k ≤ xs.length * k := Nat.mul_le_mul_right k (by omega)
        rw [Nat.add_mul] at this; omega
    · rw [List.getElem_append_left hlt]
      exact hR _ _ _ _ _ _ hsame h5
  · have hq : i - xs.length < n := by omega
    obtain ⟨_, _, _, _, _, hx', hx⟩ := (hrw (i - xs.length)).2 hq
    refine ⟨rows (i - xs.length), (hrw _).1, fun j hj => ?_, ?_⟩
    · have e1 : i * k + j = rs.length + ((i - xs.length) * k + j) := by
        rw [hl, ← Nat.add_assoc, ← Nat.add_mul]
        congr 2
        omega
      rw [e1, List.getElem?_append_right (by omega), Nat.add_sub_cancel_left]
      exact hfi _ _ hq hj
    · rw [List.getElem_append_right (by omega)]
      exact hR _ _ _ _ _ _ hsame (hFG _ _ hx)
end Go.Proofs.Ytpnhkkjjdcjmgaa
