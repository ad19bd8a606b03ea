/-
  The walks of arena: lending.
-/
import Derived.Test.YtciomaeieggbiaaArnW
namespace Go.Proofs.Ytciomaeieggbiaa
open Go.RowKit
set_option linter.unusedVariables false
set_option linter.unusedSimpArgs false

def LendPost (B b : Nat) (cs : List Cl) (f c : Int) (code p t : Int) (w : World) (e : Ending) (w' : World) : Prop :=
  e = .returned (.tuple #[.agg #[.int .i64 p, .int .i64 t], .int .i64 code]) ∧ ArenaAt B b cs f c w' ∧ Below B w w' ∧ Spares b w w'
theorem still_arena {B b : Nat} {cs : List Cl} {f c : Int} {w w' : World} (h : ArenaAt B b cs f c w) (hb : Below w.heap.size w w') (hB : B ≤ w.heap.size) : ArenaAt B b cs f c w' ∧ Below B w w' ∧ Spares b w w' :=
  ⟨h.below hb, hb.mono hB, Spares.below h.lt hb⟩
set_option maxHeartbeats 2000000 in
set_option maxRecDepth 100000 in
theorem lend_range (B b : Nat) (cs : List Cl) (f c n : Int) (w : World) (h : ArenaAt B b cs f c w) (hB : B ≤ w.heap.size) (hn : ¬ (1 ≤ n ∧ n ≤ 1048576)) :
    Calls Try.prog 53 #[.pointer (some ⟨b, 0, none⟩), .int .i64 n] w (LendPost B b cs f c 2 0 0 w) := by
  have HA := Lib.hid h
  clear h
  by_cases h1 : n < 1
  · go_enter Try.func53, Try.ntmps53
    go_wp2
    refine bodyPost_ret (v := .tuple #[.agg #[.int .i64 0, .int .i64 0], .int .i64 2]) (by simp [results, Try.results53, go_sem, World.cell?_setCell_other]) rfl ?_
    exact ⟨rfl, still_arena HA.out (by repeat (first | exact Below.refl _ _ | assumption | refine below_step ?_ (by assumption) | refine below_step ?_ (Joins.below_draws _ _ _) | (refine Below.alloc ?_ (by first | omega | (simp; done) | (simp; omega)) _) | (refine Below.setCell ?_ (by first | omega | (simp; done) | (simp; omega)) _) | refine Below.drew ?_)) hB⟩
  · have h2 : 1048576 < n := by omega
    clear hn
    go_enter Try.func53, Try.ntmps53
    go_wp2
    refine bodyPost_ret (v := .tuple #[.agg #[.int .i64 0, .int .i64 0], .int .i64 2]) (by simp [results, Try.results53, go_sem, World.cell?_setCell_other]) rfl ?_
    exact ⟨rfl, still_arena HA.out (by repeat (first | exact Below.refl _ _ | assumption | refine below_step ?_ (by assumption) | refine below_step ?_ (Joins.below_draws _ _ _) | (refine Below.alloc ?_ (by first | omega | (simp; done) | (simp; omega)) _) | (refine Below.setCell ?_ (by first | omega | (simp; done) | (simp; omega)) _) | refine Below.drew ?_)) hB⟩
set_option maxHeartbeats 2000000 in
set_option maxRecDepth 100000 in
theorem lend_full (B b : Nat) (cs : List Cl) (f n : Int) (w : World) (h : ArenaAt B b cs f 120 w) (hB : B ≤ w.heap.size) (hn : 1 ≤ n ∧ n ≤ 1048576) :
    Calls Try.prog 53 #[.pointer (some ⟨b, 0, none⟩), .int .i64 n] w (LendPost B b cs f 120 8 0 0 w) := by
  have HA := Lib.hid h
  obtain ⟨ao, m, cap, hm, hc1, hc2, c0, c1, c2, fz, hbk, hown, hg⟩ := h.open
  have hlt := h.lt
  obtain ⟨n1, n2⟩ := hn
  clear h hown hg hbk
  go_enter Try.func53, Try.ntmps53
  go_wp2
  refine bodyPost_ret (v := .tuple #[.agg #[.int .i64 0, .int .i64 0], .int .i64 8]) (by simp [results, Try.results53, go_sem, World.cell?_setCell_other]) rfl ?_
  exact ⟨rfl, still_arena HA.out (by repeat (first | exact Below.refl _ _ | assumption | refine below_step ?_ (by assumption) | refine below_step ?_ (Joins.below_draws _ _ _) | (refine Below.alloc ?_ (by first | omega | (simp; done) | (simp; omega)) _) | (refine Below.setCell ?_ (by first | omega | (simp; done) | (simp; omega)) _) | refine Below.drew ?_)) hB⟩
set_option maxHeartbeats 2000000 in
set_option maxRecDepth 100000 in
theorem lend_old (B b : Nat) (cs : List Cl) (c : Nat) (i : Nat) (n : Int) (w : World) (h : ArenaAt B b cs i c w) (hB : B ≤ w.heap.size) (hn : 1 ≤ n ∧ n ≤ 1048576) (hc : c < 120) (hi : i < cs.length) (ht : cs[i].turn ≤ 2000) :
    Calls Try.prog 53 #[.pointer (some ⟨b, 0, none⟩), .int .i64 n] w (LendPost B b (cs.set i ⟨true, cs[i].turn + 1, n, cs[i].next⟩) cs[i].next (c + 1) 0 i (cs[i].turn + 1 : Nat) w) := by
  have HA := Lib.hid h
  obtain ⟨ao, m, cap, hm, hc1, hc2, c0, c1, c2, fz, hbk, hown, hg⟩ := h.open
  have hlt := h.lt
  obtain ⟨g, rfl, hgb, hBg, hglt, fg, hcells⟩ := hg (by omega)
  obtain ⟨d0, d1, d2, d3⟩ := hcells i hi
  obtain ⟨n1, n2⟩ := hn
  have hc' : (c : Int) < 120 := by omega
  have hne : ((c : Int) == 120) = false := by simp; omega
  have him : i < m := by omega
  have HO := Lib.hid hown
  have HK := Lib.hid hbk
  have HM := Lib.hid hm
  have hgb' : b ≠ g := fun e => hgb e.symm
  clear h hown hbk hcells hm
  generalize hx : cs[i] = x at d0 d1 d2 d3 ht ⊢
  have HX := Lib.hid hx
  clear hx
  obtain ⟨u, t, nn, nx⟩ := x
  simp only at d0 d1 d2 d3 ht ⊢
  have ht' : (t : Int) ≤ 2000 := by omega
  go_enter Try.func53, Try.ntmps53
  go_wp2
  refine bodyPost_ret (v := .tuple #[.agg #[.int .i64 i, .int .i64 (t + 1)], .int .i64 0]) (by simp [results, Try.results53, go_sem, World.cell?_setCell_other]) rfl ?_
  have S1 := (arena_put HK.out HO.out hgb (.int .i64 nx)).1
  have T2 := ArenaAt.store (HA.out.1) S1.1 S1.2 HM.out hgb i hi 0 (by omega) ⟨true, t, nn, nx⟩ (.bool true) (by rw [HX.out]; rfl)
  have T3 := ArenaAt.store (HA.out.1) T2.1 T2.2 (by rw [List.length_set]; exact HM.out) hgb i (by rw [List.length_set]; exact hi) 2 (by omega) ⟨true, t, n, nx⟩ (.int .i64 n) (by rw [List.getElem_set_self]; rfl)
  have T4 := ArenaAt.store (HA.out.1) T3.1 T3.2 (by rw [List.length_set, List.length_set]; exact HM.out) hgb i (by rw [List.length_set, List.length_set]; exact hi) 1 (by omega) ⟨true, t + 1, n, nx⟩ (.int .i64 (t + 1)) (by rw [List.getElem_set_self]; rfl)
  have T5 := (arena_put T4.1 T4.2 hgb (.int .i64 (c + 1))).2
  rw [List.set_set, List.set_set] at T5
  have hA : ArenaAt B b (cs.set i ⟨true, t + 1, n, nx⟩) nx (c + 1) _ := ⟨HA.out.1, _, T5.1, by rw [List.length_set, ← HM.out]; exact T5.2⟩
  have hA2 := hA.below (Joins.below_alloc1 _ (.cells #[.int .i64 i, .int .i64 (t + 1)] 64))
  refine ⟨by rw [Int.natCast_add]; rfl, hA2, ?_, ?_⟩
  · exact Below.alloc (((((Below.refl B w).setCell (p := ⟨b, 1, none⟩) HA.out.1 _).setCell (p := ⟨g, i * 4, none⟩) hBg _).setCell (p := ⟨g, i * 4 + 2, none⟩) hBg _).setCell (p := ⟨g, i * 4 + 1, none⟩) hBg _ |>.setCell (p := ⟨b, 2, none⟩) HA.out.1 _) (by simpa using hB) _
  · refine spares_of HK.out (v' := .slice (some ⟨g, 0, none⟩) m cap) (by rw [Below.heap_alloc _ _ _ (by simpa using hlt)]; exact T5.1) (Or.inl rfl) (fun k hk hkb hkv => ?_)
    have hkg : k ≠ g := fun e => hkv (by simp [Value.ownBlock, e])
    have q1 : ∀ o, (⟨b, o, none⟩ : Addr).block ≠ k := fun o e => hkb e.symm
    have q2 : ∀ o, (⟨g, o, none⟩ : Addr).block ≠ k := fun o e => hkg e.symm
    rw [Below.heap_alloc _ _ _ (by simpa using hk)]
    rw [Below.heap_setCell _ _ _ _ (by first | exact q1 _ | exact (q1 _).symm), Below.heap_setCell _ _ _ _ (by first | exact q2 _ | exact (q2 _).symm), Below.heap_setCell _ _ _ _ (by first | exact q2 _ | exact (q2 _).symm), Below.heap_setCell _ _ _ _ (by first | exact q2 _ | exact (q2 _).symm), Below.heap_setCell _ _ _ _ (by first | exact q1 _ | exact (q1 _).symm)]
theorem info_cell : (Try.prog.info? 115).map (fun i => (i.zero, i.size, i.bytes)) = some (some (.agg #[.bool false, .int .i64 0, .int .i64 0, .int .i64 0]), 4, 32) := by kernel_rfl
theorem cell_cells : ∀ u ∈ clC ⟨false, 0, 0, -1⟩, u.oneCell' = true := fun u hu => by
  simp [clC] at hu
  rcases hu with rfl | rfl | rfl | rfl <;> rfl
theorem owned_rows {w : World} {B e : Nat} {v : Value} {cs : List Cl} {m : Nat} (h : w.ownsRow B e 4 v m (cs.flatMap clC)) (hm : m = cs.length) (hpos : 0 < m) : ∃ g cap, v = .slice (some ⟨g, 0, none⟩) m cap ∧ m ≤ cap ∧ cap ≤ 9223372036854775807 ∧ B ≤ g ∧ g < w.heap.size ∧ (∀ j, w.frozen? ⟨g, j, none⟩ = false) ∧ (∃ cur, w.heap[g]? = some (.cells cur e (0, 0))) ∧
    ∀ i (hi : i < cs.length), w.cell? ⟨g, i * 4, none⟩ = some (.bool cs[i].used) ∧ w.cell? ⟨g, i * 4 + 1, none⟩ = some (.int .i64 cs[i].turn) ∧ w.cell? ⟨g, i * 4 + 2, none⟩ = some (.int .i64 cs[i].number) ∧ w.cell? ⟨g, i * 4 + 3, none⟩ = some (.int .i64 cs[i].next) := by
  rcases h.2 with ⟨hv, h0⟩ | ⟨g, cap, cur, hv, hg, hh, hnc, hcm, hsz, htk⟩
  · omega
  · refine ⟨g, cap, hv, hnc, hcm, hg, (Array.getElem?_eq_some_iff.1 hh).1, fun j => Lib.frozen_of_heap hh j, ⟨cur, hh⟩, fun i hi => ?_⟩
    have key : ∀ j, j < 4 → w.cell? ⟨g, i * 4 + j, none⟩ = (clC cs[i])[j]? := fun j hj => by
      rw [Lib.cell_of_heap hh, ← clC_at cs i hi j hj, ← htk, List.getElem?_take, if_pos (by omega), Array.getElem?_toList]
    exact ⟨by simpa [clC] using key 0 (by omega), by simpa [clC] using key 1 (by omega), by simpa [clC] using key 2 (by omega), by simpa [clC] using key 3 (by omega)⟩
theorem arena_put0 {B b g n cap : Nat} {x y z v : Value} {e : TypeId} {rs : List Value} {w : World} (hbk : w.heap[b]? = some (.cells #[z, x, y] 62 (0, 0))) (hown : w.ownsRow B e 4 (.slice (some ⟨g, 0, none⟩) n cap) n rs) (hgb : g ≠ b) :
    (w.setCell ⟨b, 0, none⟩ v).heap[b]? = some (.cells #[v, x, y] 62 (0, 0)) ∧ (w.setCell ⟨b, 0, none⟩ v).ownsRow B e 4 (.slice (some ⟨g, 0, none⟩) n cap) n rs := by
  refine ⟨?_, owns_same hown (fun g' hg' hlt => Below.heap_setCell _ _ _ _ (fun e => hgb (by simp [Value.ownBlock] at hg'; simp at e; omega)))⟩
  simp [World.setCell, Array.getElem?_modify, hbk]
/-- What holds behind a new cell's append. -/
theorem cell_new {B b m cap : Nat} {ao : Option Addr} {cs : List Cl} {f c : Int} {w w2 : World} {v' : Value} {h0 h1 : Value} (HK : w.heap[b]? = some (.cells #[.slice ao m cap, .int .i64 f, .int .i64 c] 62 (0, 0))) (HO : w.ownsRow B 115 4 (.slice ao m cap) m (cs.flatMap clC)) (hm : m = cs.length)
    (hown' : w2.ownsRow B 115 4 v' (m + 1) (cs.flatMap clC ++ clC ⟨false, 0, 0, -1⟩)) (hgr : ((w.alloc (.cells #[h0, h1] 64)).alloc (.cells #[.bool false, .int .i64 0, .int .i64 0, .int .i64 (-1)] 115)).grownBy w2 (Value.slice ao m cap).ownBlock) :
    ∃ g cap', v' = .slice (some ⟨g, 0, none⟩) (m + 1) cap' ∧ m + 1 ≤ cap' ∧ cap' ≤ 9223372036854775807 ∧ B ≤ g ∧ g < w2.heap.size ∧ g ≠ b ∧ b ≠ g ∧ g ≠ w.heap.size ∧ (∀ j, w2.frozen? ⟨g, j, none⟩ = false) ∧
      w2.cell? ⟨g, m * 4, none⟩ = some (.bool false) ∧ w2.cell? ⟨g, m * 4 + 1, none⟩ = some (.int .i64 0) ∧ w2.cell? ⟨g, m * 4 + 2, none⟩ = some (.int .i64 0) ∧ w2.cell? ⟨g, m * 4 + 3, none⟩ = some (.int .i64 (-1)) ∧
      Hid (w2.ownsRow B 115 4 (.slice (some ⟨g, 0, none⟩) (m + 1) cap') (m + 1) ((cs ++ [(⟨false, 0, 0, -1⟩ : Cl)]).flatMap clC)) ∧ Hid (w2.heap[b]? = some (.cells #[.slice ao m cap, .int .i64 f, .int .i64 c] 62 (0, 0))) ∧
      w2.cell? ⟨b, 0, none⟩ = some (.slice ao m cap) ∧ w2.cell? ⟨b, 1, none⟩ = some (.int .i64 f) ∧ w2.cell? ⟨b, 2, none⟩ = some (.int .i64 c) ∧ (∀ j, w2.frozen? ⟨b, j, none⟩ = false) ∧
      w2.cell? ⟨w.heap.size, 0, none⟩ = some h0 ∧ w2.cell? ⟨w.heap.size, 1, none⟩ = some h1 ∧ (∀ j, w2.frozen? ⟨w.heap.size, j, none⟩ = false) ∧ w.heap.size < w2.heap.size := by
  have hlt := (Array.getElem?_eq_some_iff.1 HK).1
  have hsz := hgr.size
  simp only [World.size_alloc] at hsz
  have hown2 : w2.ownsRow B 115 4 v' (m + 1) ((cs ++ [(⟨false, 0, 0, -1⟩ : Cl)]).flatMap clC) := by simpa using hown'
  have hb2 : w2.heap[b]? = some (.cells #[.slice ao m cap, .int .i64 f, .int .i64 c] 62 (0, 0)) := by
    rw [hgr.block b (by simp; omega) (fun e => own_ne_at HO HK ne_arena e.symm), Below.heap_alloc _ _ _ (by simp; omega), Below.heap_alloc _ _ _ hlt]; exact HK
  have hr2 : w2.heap[w.heap.size]? = some (.cells #[h0, h1] 64 (0, 0)) := by
    rw [hgr.block w.heap.size (by simp; omega) (fun e => by have h3 := (HO.lt _ e.symm).2; omega), Below.heap_alloc _ _ _ (by simp)]
    exact heap_alloc_new w _
  obtain ⟨g, cap', rfl, hcap1, hcap2, hBg, hglt, fg, ⟨cur, hcur⟩, hcells⟩ := owned_rows hown2 (by simp [hm]) (by omega)
  have hgb : g ≠ b := fun e => own_ne_at hown2 hb2 ne_arena (by simp [Value.ownBlock, e])
  have hgr2 : g ≠ w.heap.size := fun e => own_ne_at hown2 hr2 (by decide) (by simp [Value.ownBlock, e])
  obtain ⟨d0, d1, d2, d3⟩ := hcells m (by simp [hm])
  have hcm : ((cs ++ [(⟨false, 0, 0, -1⟩ : Cl)])[m]'(by simp [hm])) = ⟨false, 0, 0, -1⟩ := by simp [hm]
  rw [hcm] at d0 d1 d2 d3
  exact ⟨g, cap', rfl, hcap1, hcap2, hBg, hglt, hgb, fun e => hgb e.symm, hgr2, fg, d0, d1, d2, d3, Lib.hid hown2, Lib.hid hb2, by rw [Lib.cell_of_heap hb2]; rfl, by rw [Lib.cell_of_heap hb2]; rfl, by rw [Lib.cell_of_heap hb2]; rfl, fun j => Lib.frozen_of_heap hb2 j,
    by rw [Lib.cell_of_heap hr2]; rfl, by rw [Lib.cell_of_heap hr2]; rfl, fun j => Lib.frozen_of_heap hr2 j, by omega⟩
set_option maxHeartbeats 4000000 in
set_option maxRecDepth 100000 in
theorem lend_new (B b : Nat) (cs : List Cl) (c : Nat) (n : Int) (w : World) (h : ArenaAt B b cs (-1) c w) (hB : B ≤ w.heap.size) (hn : 1 ≤ n ∧ n ≤ 1048576) (hc : c < 120) (hl : cs.length ≤ 2000) :
    Calls Try.prog 53 #[.pointer (some ⟨b, 0, none⟩), .int .i64 n] w (LendPost B b (cs ++ [⟨true, 1, n, -1⟩]) (-1) (c + 1) 0 cs.length 1 w) := by
  obtain ⟨i0, hi0, hz0, hz1, hz2⟩ := info_parts info_cell
  have HA := Lib.hid h
  obtain ⟨ao, m, cap, hm, hc1, hc2, c0, c1, c2, fz, hbk, hown, hg⟩ := h.open
  have hlt := h.lt
  obtain ⟨n1, n2⟩ := hn
  have hc' : (c : Int) < 120 := by omega
  have hne : ((c : Int) == 120) = false := by simp; omega
  have HO := Lib.hid hown
  have HK := Lib.hid hbk
  have HM := Lib.hid hm
  have hm2 : m ≤ 2000 := by omega
  have CN : Hid (∀ j u, (clC ⟨false, 0, 0, -1⟩)[j]? = some u → ((w.alloc (.cells #[.int .i64 0, .int .i64 0] 64)).alloc (.cells #[.bool false, .int .i64 0, .int .i64 0, .int .i64 (-1)] 115)).cell? ((⟨w.heap.size + 1, 0, none⟩ : Addr).add j) = some u) := fun j u hu => by
    have hh := heap_alloc_new (w.alloc (.cells #[.int .i64 0, .int .i64 0] 64)) (.cells #[.bool false, .int .i64 0, .int .i64 0, .int .i64 (-1)] 115)
    rw [World.size_alloc] at hh
    rw [Go.WideShapes.add_plain, Nat.zero_add, Lib.cell_of_heap hh]
    simpa [clC] using hu
  clear h hown hbk hm hg
  rw [← HM.out]
  go_enter Try.func53, Try.ntmps53
  go_wp2_with (first
    | (at_builtin; go_loud (refine wpList_append_own_at _ rfl _ _ 60 rfl B 115 i0 (.agg #[.bool false, .int .i64 0, .int .i64 0, .int .i64 0]) 4 32 Try.underlying60 hi0 hz0 hz1 hz2 rfl (by decide) _ m _ rfl ((HO.out.alloc _).alloc _) ⟨w.heap.size + 1, 0, none⟩ 1 1 (clC ⟨false, 0, 0, -1⟩) rfl rfl CN.out cell_cells (by unfold maxLen; omega) (by omega) (by simp; omega) ?_); intro v' w2 hown' hgrow _ hob; go_loud (obtain ⟨g, cap', rfl, hcap1, hcap2, hBg, hglt, hgb, hgb2, hgr2, fg, d0, d1, d2, d3, HO2, HK2, b0, b1, b2, fb, r0, r1, fr, hsz2⟩ := cell_new HK.out HO.out HM.out hown' hgrow); (have GR : Hid (World.grownBy _ w2 (Value.slice ao m cap).ownBlock) := Lib.hid hgrow); (have OB := Lib.hid hob); clear hown' hgrow hob)
    | fail)
  refine bodyPost_ret (v := .tuple #[.agg #[.int .i64 m, .int .i64 1], .int .i64 0]) (by simp [results, Try.results53, go_sem, World.cell?_setCell_other, hgb, hgb2, hgr2, r0, r1]) rfl ?_
  have hbB := HA.out.1
  have hlw : b ≠ w.heap.size := by omega
  have S0 := arena_put0 (v := .slice (some ⟨g, 0, none⟩) (m + 1) cap') HK2.out HO2.out hgb
  have S1 := (arena_put S0.1 S0.2 hgb (.int .i64 m)).1
  have S2 := (arena_put S1.1 S1.2 hgb (.int .i64 (-1))).1
  have hll : (cs ++ [(⟨false, 0, 0, -1⟩ : Cl)]).length = m + 1 := by simp [HM.out]
  have hge : ∀ (x : Cl) (h : m < (cs ++ [x]).length), (cs ++ [x])[m]'h = x := fun x h => by simp [HM.out]
  have hse : ∀ (x y : Cl), (cs ++ [x]).set m y = cs ++ [y] := fun x y => by simp [HM.out]
  have T3 := ArenaAt.store hbB S2.1 S2.2 hll.symm hgb m (by omega) 0 (by omega) ⟨true, 0, 0, -1⟩ (.bool true) (by rw [hge]; rfl)
  rw [hse] at T3
  have T4 := ArenaAt.store hbB T3.1 T3.2 (by simp [HM.out]) hgb m (by simp [HM.out]) 2 (by omega) ⟨true, 0, n, -1⟩ (.int .i64 n) (by rw [hge]; rfl)
  rw [hse] at T4
  have T5 := ArenaAt.store hbB T4.1 T4.2 (by simp [HM.out]) hgb m (by simp [HM.out]) 1 (by omega) ⟨true, 1, n, -1⟩ (.int .i64 1) (by rw [hge]; rfl)
  rw [hse] at T5
  have S6 := (arena_put T5.1 T5.2 hgb (.int .i64 (c + 1))).2
  have hlx : (cs ++ [(⟨true, 1, n, -1⟩ : Cl)]).length = m + 1 := by simp [HM.out]
  have hA : ArenaAt B b (cs ++ [⟨true, 1, n, -1⟩]) (-1) (c + 1) _ := ⟨hbB, _, S6.1, by rw [hlx]; exact S6.2⟩
  have hkeep : ∀ (W : World) (u1 u2 : Value) k, k ≠ w.heap.size → ((W.setCell ⟨w.heap.size, 0, none⟩ u1).setCell ⟨w.heap.size, 1, none⟩ u2).heap[k]? = W.heap[k]? := fun W u1 u2 k hk => by
    rw [Below.heap_setCell _ _ _ _ (by simpa using hk), Below.heap_setCell _ _ _ _ (by simpa using hk)]
  have hA2 := hA.same (w' := (World.setCell (World.setCell _ ⟨w.heap.size, 0, none⟩ (.int .i64 m)) ⟨w.heap.size, 1, none⟩ (.int .i64 1))) (fun k hk hor => hkeep _ _ _ k (by
    rcases hor with rfl | hor
    · exact hlw
    · have := hor _ _ _ _ _ S6.1
      simp [Value.ownBlock] at this
      omega))
  refine ⟨rfl, hA2, ?_, ?_⟩
  · refine Below.setCell (Below.setCell (Below.setCell (Below.setCell (Below.setCell (Below.setCell (Below.setCell (Below.setCell (Below.setCell (B := B) ?_ (p := ⟨b, 0, none⟩) hbB _) (p := ⟨b, 1, none⟩) hbB _) (p := ⟨b, 1, none⟩) hbB _) (p := ⟨g, m * 4, none⟩) hBg _) (p := ⟨g, m * 4 + 2, none⟩) hBg _) (p := ⟨g, m * 4 + 1, none⟩) hBg _) (p := ⟨b, 2, none⟩) hbB _) (p := ⟨w.heap.size, 0, none⟩) hB _) (p := ⟨w.heap.size, 1, none⟩) hB _
    exact (Below.alloc (Below.alloc (Below.refl _ _) hB _) (by simp; omega) _).grown GR.out (by simp; omega) (fun k hk => (HO.out.lt k hk).1)
  · refine spares_of HK.out (v' := .slice (some ⟨g, 0, none⟩) (m + 1) cap') (by rw [hkeep _ _ _ b hlw]; exact S6.1) ?_ (fun k hk hkb hkv => ?_)
    · rcases OB.out with e | e
      · exact Or.inl e
      · exact Or.inr ⟨_, e, by simp; omega⟩
    · have hkg : k ≠ g := fun e => by
        rcases OB.out with e2 | e2
        · exact hkv (by rw [e]; exact e2.symm.trans rfl)
        · have e3 : some g = some _ := e2
          injection e3 with e3
          simp at e3
          omega
      rw [hkeep _ _ _ k (by omega)]
      have q1 : ∀ o, k ≠ (⟨b, o, none⟩ : Addr).block := fun o => hkb
      have q2 : ∀ o, k ≠ (⟨g, o, none⟩ : Addr).block := fun o => hkg
      rw [Below.heap_setCell _ _ _ _ (q1 _), Below.heap_setCell _ _ _ _ (q2 _), Below.heap_setCell _ _ _ _ (q2 _), Below.heap_setCell _ _ _ _ (q2 _), Below.heap_setCell _ _ _ _ (q1 _), Below.heap_setCell _ _ _ _ (q1 _), Below.heap_setCell _ _ _ _ (q1 _)]
      rw [GR.out.block k (by simp; omega) (fun e => hkv e.symm), Below.heap_alloc _ _ _ (by simp; omega), Below.heap_alloc _ _ _ hk]
end Go.Proofs.Ytciomaeieggbiaa
