/-
  The walks of package bound and its reference, sixth part: a row cloned, a matrix owned, a pair checked, two matrices joined.
-/
import Derived.Test.YtldbgbcabenegaaBndM
import Derived.Handy
namespace Go.Proofs.Ytldbgbcabenegaa
open Go.RowKit
set_option linter.unusedVariables false
set_option linter.unusedSimpArgs false

set_option maxHeartbeats 1000000 in
set_option maxRecDepth 100000 in
theorem cloneI_any (F : Nat → Prop) (ao : Option Addr) (n cap : Nat) (xs : List Int) (w : World) (hX : SlF F w 1 intF ao n cap xs) (h0 : 0 < n) (h1 : n ≤ 1000) :
    Calls Try.prog 36 #[.slice ao n cap] w fun e w' => ∃ g rc cur, e = .returned (.slice (some ⟨g, 0, none⟩) n rc) ∧ Below w.heap.size w w' ∧ w.heap.size ≤ g ∧ n ≤ rc ∧ rc ≤ maxLen ∧ w'.heap[g]? = some (.cells cur 3 (0, 0)) ∧ ∀ c, c < n → cur[c]? = some (.int .i64 (xs.getD c 0)) := by
  obtain ⟨i0, hi, hz0, hz1, hz2⟩ := info_parts info_int
  have NL : Hid (n = xs.length) := hX.len
  cases ao with
  | none =>
    have hc : cap = 0 := hX.2.2.2.1 rfl
    have hle := hX.le
    omega
  | some a =>
    have hb1 := Joins.below_alloc1 w (.cells #[] 3)
    have hX1 := hX.below intF_firm hb1
    obtain ⟨b, off, row, e, _⟩ := hX.2.2.2.2 0 (by have := NL.out; omega)
    injection e with e
    subst e
    have hcells : ∀ j u, (xs.map (Value.int .i64))[j]? = some u → (w.alloc (.cells #[] 3)).cell? ((⟨b, off, none⟩ : Addr).add j) = some u := by
      intro j u hu
      have hj : j < xs.length := by have := (List.getElem?_eq_some_iff.1 hu).1; simpa using this
      obtain ⟨b', off', row, e, _, _, hr, hx⟩ := hX1.2.2.2.2 j hj
      injection e with e; injection e with e1 e2; subst e1; subst e2
      obtain rfl := intF_one hx
      have := hr.2 0 (by omega)
      rw [List.getElem?_map, List.getElem?_eq_getElem hj] at hu
      simp only [Option.map_some, Option.some.injEq] at hu
      rw [Go.WideShapes.add_plain, ← hu]
      simpa using this
    obtain ⟨v', w', hrun, hown, hgrow, hnil, hob⟩ := run_append_own_at (P := Try.prog) (w.alloc (.cells #[] 3)) w.heap.size 38 38 3 i0 (.int .i64 0) 1 8 Try.underlying38 hi hz0 hz1 hz2 rfl (by omega) (.slice (some ⟨w.heap.size, 0, none⟩) 0 0) 0 [] (owns_literal w _ _)
      ⟨b, off, none⟩ n cap (xs.map (Value.int .i64)) (by have := NL.out; simp; omega) hcells (fun u hu => by obtain ⟨x, _, rfl⟩ := List.mem_map.1 hu; rfl) (by unfold maxLen; omega) (by omega) (by simp)
    have hbel : Below w.heap.size (w.alloc (.cells #[] 3)) w' := (Below.refl _ _).grown hgrow (by simp) (fun g hg => by simp [Value.ownBlock] at hg; omega)
    rw [Nat.zero_add, List.nil_append] at hown
    have hB : Below w.heap.size w w' := hb1.trans hbel
    rcases hown.2 with ⟨_, h0'⟩ | ⟨g, rc, cur, rfl, hg, hh, hnc, hcm, hsz, htk⟩
    · omega
    · have hnilq := fun wx => Lib.run_eql_slice_nil (P := Try.prog) wx 38 3 (some ⟨b, off, none⟩) n cap 0 0 Try.underlying38
      have RES : Hid (∃ g' rc' cur', Ending.returned (.slice (some ⟨g, 0, none⟩) n rc) = .returned (.slice (some ⟨g', 0, none⟩) n rc') ∧ Below w.heap.size w w' ∧ w.heap.size ≤ g' ∧ n ≤ rc' ∧ rc' ≤ maxLen ∧ w'.heap[g']? = some (.cells cur' 3 (0, 0)) ∧ ∀ c, c < n → cur'[c]? = some (.int .i64 (xs.getD c 0))) := by
        refine ⟨g, rc, cur, rfl, hB, hg, hnc, hcm, hh, fun c hc => ?_⟩
        have h2 : cur.toList[c]? = (xs.map (Value.int .i64))[c]? := by rw [← htk, List.getElem?_take, if_pos (by omega)]
        have hcx : c < xs.length := by have := NL.out; omega
        rw [← Array.getElem?_toList, h2, List.getElem?_map, List.getElem?_eq_getElem hcx]
        simp [List.getD, List.getElem?_eq_getElem hcx]
      clear hh htk hsz hgrow hown hcells hX1 hX hbel hB hob hnil
      go_enter Try.func36, Try.ntmps36
      go_wp2_with (first | (at_builtin; refine wpList_append_run rfl _ _ 38 rfl rfl rfl rfl hrun ?_) | fail)
      go_ret
      exact RES.out

theorem firstN_allz {f : Nat → Int} {n : Nat} (h : firstN f n = 0) : AllZ f n := by
  induction n with
  | zero => exact allZ_zero f
  | succ n ih =>
    simp only [firstN] at h
    by_cases h0 : firstN f n = 0
    · rw [if_pos h0] at h
      exact allZ_succ (ih h0) h
    · rw [if_neg h0] at h
      exact absurd h h0
/-- A matrix that may be is square. -/
theorem matE_square {m : List (List Int)} (h : matE m = 0) : m.length ≤ 12 ∧ ∀ i, i < m.length → (m.getD i []).length = m.length := by
  unfold matE at h
  by_cases h12 : 12 < m.length
  · rw [if_pos h12] at h; omega
  · rw [if_neg h12] at h
    refine ⟨by omega, fun i hi => ?_⟩
    have := firstN_allz h i hi
    unfold lineE at this
    by_cases hl : (m.getD i []).length = m.length
    · exact hl
    · rw [if_neg hl] at this; omega
def at2 (m : List (List Int)) (r c : Nat) : Int := (m.getD r []).getD c 0
theorem gridL_at2 {m : List (List Int)} (h : ∀ i, i < m.length → (m.getD i []).length = m.length) : gridL m.length (at2 m) = m := by
  apply List.ext_getElem
  · simp [gridL]
  · intro i h1 h2
    simp only [gridL, List.getElem_map, List.getElem_range]
    have hl := h i h2
    rw [line_getD m i h2] at hl
    apply List.ext_getElem
    · simp [hl]
    · intro j h3 h4
      simp [at2, List.getD, List.getElem?_eq_getElem h2, List.getElem?_eq_getElem h4]

/-- A row in a block of its own. -/
def blkF (n : Nat) : (Nat → Prop) → World → List Value → Nat × (Nat → Int) → Prop := fun F w row p =>
  F p.1 ∧ ∃ rc cur, row = [.slice (some ⟨p.1, 0, none⟩) n rc] ∧ n ≤ rc ∧ rc ≤ maxLen ∧ w.heap[p.1]? = some (.cells cur 3 (0, 0)) ∧ ∀ c, c < n → cur[c]? = some (.int .i64 (p.2 c))
theorem blkF_firm (n : Nat) : Firm (blkF n) := fun F G w w' row p hs ⟨hF, rc, cur, e, h1, h2, hh, hc⟩ => by
  have hlt : p.1 < w.heap.size := (Array.getElem?_eq_some_iff.1 hh).1
  exact ⟨(hs.2 _ hF hlt).1, rc, cur, e, h1, h2, by rw [(hs.2 _ hF hlt).2]; exact hh, hc⟩
theorem OwnF.grid {F G : Nat → Prop} {B : Nat} {w : World} {o : Value} {xs : List (Nat × (Nat → Int))} {n : Nat} (h : OwnF F B w 38 1 (blkF n) o xs) (hn : xs.length = n) (hG : ∀ b, b < w.heap.size → (F b ∨ B ≤ b) → G b) (hap : ∀ r s (hr : r < xs.length) (hs : s < xs.length), r ≠ s → (xs[r]).1 ≠ (xs[s]).1) :
    ∃ ao cap, o = .slice ao n cap ∧ Grid G w ao n cap (fun r => (xs.getD r (0, fun _ => 0)).1) (fun r c => (xs.getD r (0, fun _ => 0)).2 c) := by
  obtain ⟨rs, h1, h2⟩ := h
  subst hn
  have hget : ∀ r (hr : r < xs.length), xs.getD r (0, fun _ => 0) = xs[r] := fun r hr => by simp [List.getD, List.getElem?_eq_getElem hr]
  rcases h1.2 with ⟨rfl, h0⟩ | ⟨g, cap, cur, rfl, hg, hh, hnc, hcm, hsz, htk⟩
  · exact ⟨none, 0, by rw [h0], ⟨by omega, by unfold maxLen; omega, fun _ => rfl, fun r hr => by omega, fun r s hr => by omega⟩⟩
  · have hglt : g < w.heap.size := (Array.getElem?_eq_some_iff.1 hh).1
    refine ⟨_, cap, rfl, hnc, hcm, by simp, fun r hr => ?_, fun r s hr hs hrs => ?_⟩
    · obtain ⟨row, h3, h4, hF, rc, cur', e, h5, h6, hh', hc⟩ := h2 r hr
      refine ⟨g, rc, cur', rfl, hG g hglt (Or.inr hg), ?_, hglt, ?_, h5, h6, by rw [hget r hr]; exact hh', by rw [hget r hr]; exact hc, ?_⟩
      · rw [hget r hr]
        intro e
        exact hF.2 (by simp [Value.ownBlock, e])
      · have := h1.cellAt r (by omega)
        (try simp only [Nat.zero_add] at this)
        rw [this]
        have h7 := h4 0 (by omega)
        simp only [Nat.mul_one, Nat.add_zero] at h7
        rw [h7, e, hget r hr]
        rfl
      · rw [hget r hr]
        exact hG _ (Array.getElem?_eq_some_iff.1 hh').1 (Or.inl hF.1)
    · simp only [hget r hr, hget s hs]
      exact hap r s hr hs hrs
end Go.Proofs.Ytldbgbcabenegaa
