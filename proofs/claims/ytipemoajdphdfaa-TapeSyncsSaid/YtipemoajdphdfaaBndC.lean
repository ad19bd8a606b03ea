/-
  The walks of package bound and its reference, second part: a matrix copied.
-/
import Derived.Test.YtipemoajdphdfaaBndW
import Derived.Maps.AppendAt
import Derived.Lib.Builder
import Derived.RegionTactic
import Derived.Deep.RegionLaw
namespace Go.Proofs.Ytipemoajdphdfaa
open Go.RowKit
set_option linter.unusedVariables false
set_option linter.unusedSimpArgs false

theorem info_int : (Try.prog.info? 3).map (fun i => (i.zero, i.size, i.bytes)) = some (some (.int .i64 0), 1, 8) := by kernel_rfl
theorem info_ints : (Try.prog.info? 67).map (fun i => (i.zero, i.size, i.bytes)) = some (some (.slice none 0 0), 1, 24) := by kernel_rfl

theorem ownsRow_below {w w' : World} {base size n : Nat} {e : TypeId} {v : Value} {xs : List Value} (h : w.ownsRow base e size v n xs) (hb : Below w.heap.size w w') : w'.ownsRow base e size v n xs := by
  refine ⟨h.1, ?_⟩
  rcases h.2 with hn | ⟨g, cap, cur, rfl, hb', hgg, rest⟩
  · exact .inl hn
  · exact .inr ⟨g, cap, cur, rfl, hb', by rw [hb.block g (Array.getElem?_eq_some_iff.1 hgg).1]; exact hgg, rest⟩
theorem ownsRow_base {w : World} {base base' size n : Nat} {e : TypeId} {v : Value} {xs : List Value} (h : w.ownsRow base e size v n xs) (hb : base' ≤ base) : w.ownsRow base' e size v n xs :=
  ⟨h.1, h.2.imp id (fun ⟨g, cap, cur, e1, e2, r⟩ => ⟨g, cap, cur, e1, Nat.le_trans hb e2, r⟩)⟩
theorem owned_one {w : World} {base size n : Nat} {e : TypeId} {v : Value} {xs : List Value} (h : w.ownsRow base e size v n xs) : v.oneCell' = true := by
  rcases h.2 with ⟨rfl, _⟩ | ⟨g, cap, cur, rfl, _⟩ <;> rfl

theorem owned_slice {w : World} {base size n : Nat} {e : TypeId} {v : Value} {xs : List Value} (h : w.ownsRow base e size v n xs) : ∃ ra rc, v = .slice ra n rc := by
  rcases h.2 with ⟨rfl, rfl⟩ | ⟨g, cap, cur, rfl, _⟩
  · exact ⟨none, 0, rfl⟩
  · exact ⟨_, cap, rfl⟩

/-- A slice of one-cell elements that the call owns, as a list. -/
theorem slr_own {α : Type} {R : World → List Value → α → Prop} {w : World} {base n : Nat} {e : TypeId} {v : Value} {rs : List Value} {xs : List α} (h : w.ownsRow base e 1 v n rs) (hn : n = xs.length)
    (hR : ∀ i (h : i < xs.length), ∃ u, rs[i]? = some u ∧ R w [u] xs[i]) : ∃ ao cap, v = .slice ao n cap ∧ SlR w 1 R ao n cap xs := by
  rcases h.2 with ⟨rfl, rfl⟩ | ⟨g, cap, cur, rfl, hg, hh, hnc, hcm, hsz, htk⟩
  · exact ⟨none, 0, rfl, hn, Nat.le_refl _, by unfold maxLen; omega, fun _ => rfl, fun i hi => by omega⟩
  · refine ⟨_, cap, rfl, hn, hnc, hcm, by simp, fun i hi => ?_⟩
    obtain ⟨u, hu, hr⟩ := hR i hi
    refine ⟨g, 0, [u], rfl, (Array.getElem?_eq_some_iff.1 hh).1, ⟨rfl, fun j hj => ?_⟩, hr⟩
    obtain rfl : j = 0 := by omega
    have := h.cellAt i (by omega)
    simp only [Nat.zero_add, Nat.mul_one, Nat.add_zero, List.getD_cons_zero]
    rw [this, hu]

/-- The rows of a matrix that the call has made so far. -/
def Made (B : Nat) (m : List (List Int)) (w : World) (o : Value) (k : Nat) : Prop :=
  ∃ rs : List Value, w.ownsRow B 67 1 o k rs ∧ ∀ j (h : j < m.length), j < k → ∃ v, rs[j]? = some v ∧ w.ownsRow B 3 1 v m[j].length (m[j].map (Value.int .i64))
theorem Made.below {B k : Nat} {m : List (List Int)} {w w' : World} {o : Value} (h : Made B m w o k) (hb : Below w.heap.size w w') : Made B m w' o k := by
  obtain ⟨rs, h1, h2⟩ := h
  refine ⟨rs, ownsRow_below h1 hb, fun j hj hk => ?_⟩
  obtain ⟨v, h3, h4⟩ := h2 j hj hk
  exact ⟨v, h3, ownsRow_below h4 hb⟩
theorem own_ne {w : World} {B B' n n' : Nat} {v v' : Value} {xs xs' : List Value} (h : w.ownsRow B 3 1 v n xs) (h' : w.ownsRow B' 67 1 v' n' xs') : v.ownBlock = none ∨ v.ownBlock ≠ v'.ownBlock := by
  rcases h.2 with ⟨rfl, _⟩ | ⟨g, cap, cur, rfl, _, hh, _⟩
  · exact Or.inl rfl
  · refine Or.inr fun e => ?_
    rcases h'.2 with ⟨rfl, _⟩ | ⟨g', cap', cur', rfl, _, hh', _⟩
    · simp [Value.ownBlock] at e
    · simp [Value.ownBlock] at e
      subst e
      rw [hh] at hh'
      simp at hh'
theorem Made.append {B k : Nat} {m : List (List Int)} {w w' : World} {o o' r : Value} {rs : List Value} (h1 : w.ownsRow B 67 1 o k rs) (h2 : ∀ j (h : j < m.length), j < k → ∃ v, rs[j]? = some v ∧ w.ownsRow B 3 1 v m[j].length (m[j].map (Value.int .i64)))
    (hk : k < m.length) (hr : w.ownsRow B 3 1 r m[k].length (m[k].map (Value.int .i64))) (hg : w.grownBy w' o.ownBlock) (ho : w'.ownsRow B 67 1 o' (k + 1) (rs ++ [r])) : Made B m w' o' (k + 1) := by
  have hl : rs.length = k := by have := h1.1; omega
  refine ⟨rs ++ [r], ho, fun j hj hjk => ?_⟩
  by_cases e : j = k
  · subst e
    exact ⟨r, by rw [List.getElem?_append_right (by omega), hl]; simp, hr.kept hg (own_ne hr h1)⟩
  · obtain ⟨v, h3, h4⟩ := h2 j hj (by omega)
    exact ⟨v, by rw [List.getElem?_append_left (by omega)]; exact h3, h4.kept hg (own_ne h4 h1)⟩
theorem Made.done {B : Nat} {m : List (List Int)} {w : World} {o : Value} (h : Made B m w o m.length) (h8 : ∀ j (h : j < m.length), m[j].length * 8 ≤ 140737488355328) : ∃ ao cap, o = .slice ao m.length cap ∧ SlR w 1 lineR ao m.length cap m := by
  obtain ⟨rs, h1, h2⟩ := h
  refine slr_own h1 rfl (fun i hi => ?_)
  obtain ⟨v, h3, h4⟩ := h2 i hi hi
  obtain ⟨ao, cap, rfl, hS⟩ := slr_own (R := intR) (xs := m[i]) h4 rfl (fun j hj => ⟨.int .i64 m[i][j], by simp [List.getElem?_eq_getElem hj], rfl⟩)
  exact ⟨_, h3, ao, _, cap, rfl, hS, h8 i hi⟩
theorem lines8 {w : World} {ao : Option Addr} {n cap : Nat} {m : List (List Int)} (h : SlR w 1 lineR ao n cap m) : ∀ j (h : j < m.length), m[j].length * 8 ≤ 140737488355328 := fun j hj => by
  obtain ⟨_, _, _, _, h4⟩ := h
  obtain ⟨b, off, row, _, _, _, _, _, _, _, _, h8⟩ := h4 j hj
  exact h8

set_option maxHeartbeats 2000000 in
theorem matCopy_any (ao : Option Addr) (n cap : Nat) (m : List (List Int)) (w : World) (hM : SlR w 1 lineR ao n cap m) (h24 : n * 24 ≤ 140737488355328) :
    Calls Try.prog 15 #[.slice ao n cap] w fun e w' => ∃ ao' cap', e = .returned (.slice ao' n cap') ∧ Below w.heap.size w w' ∧ SlR w' 1 lineR ao' n cap' m := by
  obtain ⟨i0, hi, hz0, hz1, hz2⟩ := info_parts info_int
  obtain ⟨i1, hi', hy0, hy1, hy2⟩ := info_parts info_ints
  have NL : Hid (n = m.length) := hM.len
  have hle := hM.le
  go_enter Try.func15, Try.ntmps15
  go_wp2_with fail
  go_loopw [3, 4] (fun o i wr => ∃ k : Nat, k ≤ n ∧ i = .int .i64 k ∧ Below w.heap.size w wr ∧ Made w.heap.size m wr o k) (fun _ i _ => n - (intOf i).toNat)
  case atStart => exact ⟨0, by omega, rfl, Below.refl _ _, [], World.ownsRow_nil _ _ _ _, fun j _ h => absurd h (Nat.not_lt_zero j)⟩
  case round =>
    obtain ⟨k, hk, rfl, hbr, hmd⟩ := hrel
    have MD : Hid (Made w.heap.size m wr _ k) := hmd
    clear hmd
    obtain ⟨hc_wr, hf_wr⟩ := bcell hbr; have hs_wr := hbr.size; (try simp only [World.size_alloc, World.size_drew] at hs_wr)
    have hMr := hM.mono lineR_stays hbr
    by_cases hlt : k < n
    · obtain ⟨b, off, row, hix, hblt, hrow, hrr⟩ := hMr.index (P := Try.prog) Try.underlying23 size_ints (i := k) (by have := NL.out; omega)
      obtain ⟨ao2, n2, cap2, rfl, hR, h8⟩ := hrr
      have c0 := hrow.one
      simp only [Nat.mul_one] at hix c0
      have hkl : k < m.length := by have := NL.out; omega
      have N2 : Hid (n2 = m[k].length) := hR.len
      have hle2 := hR.le
      obtain ⟨wo, rfl⟩ : ∃ wo : World, wo = wr := ⟨_, rfl⟩
      go_wp2_with fail
      go_loopw [5, 6] (fun r j wi => ∃ q : Nat, q ≤ n2 ∧ j = .int .i64 q ∧ Below wo.heap.size wo wi ∧ wi.ownsRow wo.heap.size 3 1 r q ((m[k].take q).map (Value.int .i64))) (fun _ j _ => n2 - (intOf j).toNat)
      case atStart => exact ⟨0, by omega, rfl, Below.refl _ _, by simpa using World.ownsRow_nil _ _ _ _⟩
      case round =>
        obtain ⟨q, hq, rfl, hbi, hown⟩ := hrel
        obtain ⟨hc_wr, hf_wr⟩ := bcell hbi; have hs_wr := hbi.size; (try simp only [World.size_alloc, World.size_drew] at hs_wr)
        have cb := (hbi.cell (p := ⟨b, off + k, none⟩) hblt).trans c0
        have hRi := hR.mono intR_stays hbi
        by_cases hqn : q < n2
        · have hql : q < m[k].length := by have := N2.out; omega
          obtain ⟨b2, off2, row2, hix2, hblt2, hrow2, hrr2⟩ := hRi.index (P := Try.prog) Try.underlying67 size_int (i := q) hql
          have hrr3 : row2 = [.int .i64 m[k][q]] := hrr2
          subst hrr3
          have d0 := hrow2.one
          simp only [Nat.mul_one] at hix2 d0
          have h8' : m[k].length * 8 ≤ 140737488355328 := h8
          have hwi : wo.heap.size ≤ wr.heap.size := hbi.size
          go_wp2_with (first
            | (at_builtin; refine wpList_append_own_at _ rfl _ _ 67 rfl wo.heap.size 3 i0 (.int .i64 0) 1 8 Try.underlying67 hi hz0 hz1 hz2 rfl (by decide) _ _ _ rfl (hown.alloc _) ⟨wr.heap.size, 0, none⟩ 1 1 [.int .i64 m[k][q]] rfl rfl (cell_one_new _ _ _) (by intro u hu; simp at hu; subst hu; rfl) (by unfold maxLen; omega) (by have := N2.out; omega) (by simp; omega) ?_; intro v' w5 hown' hgrow hnil hloc)
            | fail)
          have htk : (m[k].take (q + 1)).map (Value.int .i64) = (m[k].take q).map (Value.int .i64) ++ [.int .i64 m[k][q]] := by
            rw [← List.take_append_getElem hql, List.map_append]; rfl
          rw [← htk] at hown'
          exact ⟨⟨q + 1, by omega, by go_num, (Below.alloc hbi hwi _).grown hgrow (by simp; omega) (fun k hk => (hown.lt k hk).1), hown'⟩, by simp [intOf]; omega⟩
        · have hqq : q = m[k].length := by have := N2.out; omega
          have hown2 := hown
          rw [hqq, List.take_length] at hown2
          clear hown hqq
          have HO : Hid (wr.ownsRow wo.heap.size 3 1 u5 m[k].length (m[k].map (Value.int .i64))) := hown2
          clear hown2
          obtain ⟨ra, rc, rfl⟩ := owned_slice HO.out
          obtain ⟨rs, g1, g2⟩ := (MD.out.below hbi).below (Joins.below_alloc1 wr (.cells #[.slice ra m[k].length rc] 67))
          have g5 : (wr.alloc (.cells #[.slice ra m[k].length rc] 67)).ownsRow w.heap.size 3 1 (.slice ra m[k].length rc) m[k].length (m[k].map (Value.int .i64)) := ownsRow_base (ownsRow_below HO.out (Joins.below_alloc1 wr _)) hbr.size
          have G2 : Hid (∀ j (h : j < m.length), j < k → ∃ v, rs[j]? = some v ∧ (wr.alloc (.cells #[.slice ra m[k].length rc] 67)).ownsRow w.heap.size 3 1 v m[j].length (m[j].map (Value.int .i64))) := g2
          clear g2
          have hwi : w.heap.size ≤ wr.heap.size := Nat.le_trans hbr.size hbi.size
          go_wp2_with (first
            | (at_builtin; go_loud (refine wpList_append_own_at _ rfl _ _ 23 rfl w.heap.size 67 i1 (.slice none 0 0) 1 24 Try.underlying23 hi' hy0 hy1 hy2 rfl (by decide) _ _ _ rfl g1 ⟨wr.heap.size, 0, none⟩ 1 1 [.slice ra m[k].length rc] rfl rfl (cell_one_new _ _ _) (fun u hu => by rw [List.mem_singleton.1 hu]; exact owned_one g5) (by unfold maxLen; omega) (by omega) (by simp; omega) ?_); intro v' w5 hown' hgrow hnil hloc)
            | fail)
          exact ⟨⟨k + 1, by omega, by go_num, (Below.alloc (hbr.trans (hbi.mono hbr.size)) hwi _).grown hgrow (by simp; omega) (fun k hk => (g1.lt k hk).1), Made.append g1 G2.out hkl g5 hgrow hown'⟩, by simp [intOf]; omega⟩
    · have hkn : Hid (k = m.length) := by show k = m.length; have := NL.out; omega
      go_wp2
      go_ret
      have h1 := hkn.out
      have h2 := MD.out
      subst h1
      obtain ⟨ao', cap', rfl, hS⟩ := h2.done (lines8 hM)
      have h3 := NL.out
      subst h3
      exact ⟨ao', cap', rfl, hbr, hS⟩
end Go.Proofs.Ytipemoajdphdfaa
