/-
  The walks of arena, fourth part: a job done.
-/
import Derived.Test.YtciomaeieggbiaaArnZ
namespace Go.Proofs.Ytciomaeieggbiaa
open Go.RowKit
set_option linter.unusedVariables false
set_option linter.unusedSimpArgs false

def DoPost (B b : Nat) (cs : List Cl) (f c : Int) (d : Fd) (w : World) (e : Ending) (w' : World) : Prop :=
  e = .returned (.agg #[.int .i64 d.code, .int .i64 d.number, .int .i64 d.place, .int .i64 d.turn]) ∧ ArenaAt B b cs f c w' ∧ Below B w w' ∧ Spares b w w'
/-- What do's own blocks hold behind a call. -/
theorem own_blocks {B b : Nat} {cs : List Cl} {f c : Int} {w w1 : World} {x0 x1 x2 x3 y0 y1 y2 y3 z0 z1 z2 z3 : Value} (h : ArenaAt B b cs f c w)
    (hsp : Spares b (((w.alloc (.cells #[x0, x1, x2, x3] 66)).alloc (.cells #[y0, y1, y2, y3] 68)).alloc (.cells #[z0, z1, z2, z3] 68)) w1) :
    w1.heap[w.heap.size]? = some (.cells #[x0, x1, x2, x3] 66 (0, 0)) ∧ w1.heap[w.heap.size + 1]? = some (.cells #[y0, y1, y2, y3] 68 (0, 0)) ∧ w1.heap[w.heap.size + 1 + 1]? = some (.cells #[z0, z1, z2, z3] 68 (0, 0)) := by
  have hlt := h.lt
  have hb : (((w.alloc (.cells #[x0, x1, x2, x3] 66)).alloc (.cells #[y0, y1, y2, y3] 68)).alloc (.cells #[z0, z1, z2, z3] 68)).heap[b]? = w.heap[b]? := by
    rw [Below.heap_alloc _ _ _ (by simp only [World.size_alloc]; omega), Below.heap_alloc _ _ _ (by simp only [World.size_alloc]; omega), Below.heap_alloc _ _ _ hlt]
  have k0 := (hsp w.heap.size (by simp only [World.size_alloc]; omega) (h.away (Nat.le_refl _) hb)).1
  have k1 := (hsp (w.heap.size + 1) (by simp only [World.size_alloc]; omega) (h.away (by omega) hb)).1
  have k2 := (hsp (w.heap.size + 1 + 1) (by simp only [World.size_alloc]; omega) (h.away (by omega) hb)).1
  refine ⟨?_, ?_, ?_⟩
  · rw [k0, Below.heap_alloc _ _ _ (by simp only [World.size_alloc]; omega), Below.heap_alloc _ _ _ (by simp only [World.size_alloc]; omega)]; exact heap_alloc_new w _
  · rw [k1, Below.heap_alloc _ _ _ (by simp only [World.size_alloc]; omega)]
    have := heap_alloc_new (w.alloc (.cells #[x0, x1, x2, x3] 66)) (.cells #[y0, y1, y2, y3] 68)
    simpa only [World.size_alloc] using this
  · rw [k2]
    have := heap_alloc_new ((w.alloc (.cells #[x0, x1, x2, x3] 66)).alloc (.cells #[y0, y1, y2, y3] 68)) (.cells #[z0, z1, z2, z3] 68)
    simpa only [World.size_alloc] using this
theorem four_cells {w : World} {b T : Nat} {x0 x1 x2 x3 : Value} (h : w.heap[b]? = some (.cells #[x0, x1, x2, x3] T (0, 0))) : w.cell? ⟨b, 0, none⟩ = some x0 ∧ w.cell? ⟨b, 1, none⟩ = some x1 ∧ w.cell? ⟨b, 2, none⟩ = some x2 ∧ w.cell? ⟨b, 3, none⟩ = some x3 ∧ ∀ j, w.frozen? ⟨b, j, none⟩ = false := by
  refine ⟨?_, ?_, ?_, ?_, fun j => Lib.frozen_of_heap h j⟩ <;> rw [Lib.cell_of_heap h] <;> rfl
/-- Where only blocks turn that were not there, or that lie off an arena's, it stays. -/
theorem ArenaAt.keep {B b : Nat} {cs : List Cl} {f c : Int} {w w' : World} {K : Nat → Prop} (h : ArenaAt B b cs f c w) (hK : ∀ k, K k → Away b k w) (hs : ∀ k, k < w.heap.size → ¬ K k → w'.heap[k]? = w.heap[k]?) : ArenaAt B b cs f c w' := by
  refine h.same fun k hk hor => hs k hk fun hKk => ?_
  obtain ⟨h1, h2⟩ := hK k hKk
  rcases hor with rfl | hor
  · exact h1 rfl
  · obtain ⟨hB, v, hbk, hown⟩ := h
    exact h2 _ _ _ _ _ hbk (hor _ _ _ _ _ hbk)
theorem done_own {B b : Nat} {cs cs' : List Cl} {f f' c c' : Int} {w w3 w1 W : World} (h : ArenaAt B b cs f c w) (hB : B ≤ w.heap.size) (hA1 : ArenaAt B b cs' f' c' w1) (h3 : Below w.heap.size w w3) (hs3 : w3.heap.size = w.heap.size + 3) (hb1 : Below B w3 w1) (hsp1 : Spares b w3 w1)
    (hk : ∀ k, ¬ (w.heap.size ≤ k ∧ k ≤ w.heap.size + 2) → W.heap[k]? = w1.heap[k]?) (hW : Below B w1 W) : ArenaAt B b cs' f' c' W ∧ Below B w W ∧ Spares b w W := by
  have hlt := h.lt
  have hs31 := hb1.size
  have hb3 : w3.heap[b]? = w.heap[b]? := h3.block b hlt
  have haw : ∀ k, (w.heap.size ≤ k ∧ k ≤ w.heap.size + 2) → Away b k w1 := fun k hk => (hsp1 k (by omega) (h.away hk.1 hb3)).2
  have hA := hA1.keep (w' := W) (K := fun k => w.heap.size ≤ k ∧ k ≤ w.heap.size + 2) haw (fun k _ hn => hk k hn)
  refine ⟨hA, (h3.mono hB).trans (hb1.trans hW), fun k hkw ha => ?_⟩
  obtain ⟨a1, a2⟩ := Spares.below hlt h3 k hkw ha
  obtain ⟨a3, a4⟩ := hsp1 k (by omega) a2
  refine ⟨(hk k (by omega)).trans (a3.trans a1), a4.1, fun v x y e fr hv => a4.2 v x y e fr ?_⟩
  rw [← hv]; exact (hk b (by omega)).symm
set_option maxHeartbeats 1000000 in
set_option maxRecDepth 100000 in
theorem do_lend (B b : Nat) (cs cs' : List Cl) (f f' c c' code n p t p' t' : Int) (w : World) (h : ArenaAt B b cs f c w) (hB : B ≤ w.heap.size)
    (HL : ∀ wx, ArenaAt B b cs f c wx → B ≤ wx.heap.size → Calls Try.prog 53 #[.pointer (some ⟨b, 0, none⟩), .int .i64 n] wx (LendPost B b cs' f' c' code p' t' wx)) :
    Calls Try.prog 23 #[.pointer (some ⟨b, 0, none⟩), .agg #[.int .i64 1, .int .i64 n, .int .i64 p, .int .i64 t]] w (DoPost B b cs' f' c' ⟨code, 0, p', t'⟩ w) := by
  have HA := Lib.hid h
  have HH := Lib.hid HL
  clear h HL
  go_enter Try.func23, Try.ntmps23
  go_wp2_with fail
  refine (HH.out _ (HA.out.below (by repeat (first | exact Below.refl _ _ | assumption | refine below_step ?_ (by assumption) | refine below_step ?_ (Joins.below_draws _ _ _) | (refine Below.alloc ?_ (by first | omega | (simp; done) | (simp; omega)) _) | (refine Below.setCell ?_ (by first | omega | (simp; done) | (simp; omega)) _) | refine Below.drew ?_))) (by simp; omega)).mono ?_
  rintro e w1 ⟨rfl, hA1, hb1, hsp1⟩
  obtain ⟨k0, k1, k2⟩ := own_blocks HA.out hsp1
  obtain ⟨x0, x1, x2, x3, xf⟩ := four_cells k0
  obtain ⟨y0, y1, y2, y3, yf⟩ := four_cells k1
  obtain ⟨z0, z1, z2, z3, zf⟩ := four_cells k2
  go_wp2
  refine bodyPost_ret (v := .agg #[.int .i64 code, .int .i64 0, .int .i64 p', .int .i64 t']) (by simp [results, Try.results23, go_sem, World.cell?_setCell_other, y0, y1, y2, y3]) rfl ?_
  refine ⟨rfl, done_own HA.out hB hA1 (w3 := ((w.alloc _).alloc _).alloc _) (by repeat (first | exact Below.refl _ _ | assumption | refine below_step ?_ (by assumption) | refine below_step ?_ (Joins.below_draws _ _ _) | (refine Below.alloc ?_ (by first | omega | (simp; done) | (simp; omega)) _) | (refine Below.setCell ?_ (by first | omega | (simp; done) | (simp; omega)) _) | refine Below.drew ?_)) (by simp) hb1 hsp1 (fun k hk => by repeat rw [Below.heap_setCell _ _ _ _ (by simp; omega)]) ?_⟩
  repeat' refine Below.setCell ?_ (by simp; omega) _
  exact Below.refl _ _

set_option maxHeartbeats 1000000 in
set_option maxRecDepth 100000 in
theorem do_back (B b : Nat) (cs cs' : List Cl) (f f' c c' code n m p t : Int) (w : World) (h : ArenaAt B b cs f c w) (hB : B ≤ w.heap.size)
    (HL : ∀ wx, ArenaAt B b cs f c wx → B ≤ wx.heap.size → Calls Try.prog 55 #[.pointer (some ⟨b, 0, none⟩), .agg #[.int .i64 p, .int .i64 t]] wx (BackPost B b cs' f' c' n code wx)) :
    Calls Try.prog 23 #[.pointer (some ⟨b, 0, none⟩), .agg #[.int .i64 3, .int .i64 m, .int .i64 p, .int .i64 t]] w (DoPost B b cs' f' c' ⟨code, n, 0, 0⟩ w) := by
  have HA := Lib.hid h
  have HH := Lib.hid HL
  clear h HL
  go_enter Try.func23, Try.ntmps23
  go_wp2_with fail
  refine (HH.out _ (HA.out.below (by repeat (first | exact Below.refl _ _ | assumption | refine below_step ?_ (by assumption) | refine below_step ?_ (Joins.below_draws _ _ _) | (refine Below.alloc ?_ (by first | omega | (simp; done) | (simp; omega)) _) | (refine Below.setCell ?_ (by first | omega | (simp; done) | (simp; omega)) _) | refine Below.drew ?_))) (by simp; omega)).mono ?_
  rintro e w1 ⟨rfl, hA1, hb1, hsp1⟩
  obtain ⟨k0, k1, k2⟩ := own_blocks HA.out hsp1
  obtain ⟨x0, x1, x2, x3, xf⟩ := four_cells k0
  obtain ⟨y0, y1, y2, y3, yf⟩ := four_cells k1
  obtain ⟨z0, z1, z2, z3, zf⟩ := four_cells k2
  go_wp2
  refine bodyPost_ret (v := .agg #[.int .i64 code, .int .i64 n, .int .i64 0, .int .i64 0]) (by simp [results, Try.results23, go_sem, World.cell?_setCell_other, y0, y1, y2, y3]) rfl ?_
  refine ⟨rfl, done_own HA.out hB hA1 (w3 := ((w.alloc _).alloc _).alloc _) (by repeat (first | exact Below.refl _ _ | assumption | refine below_step ?_ (by assumption) | refine below_step ?_ (Joins.below_draws _ _ _) | (refine Below.alloc ?_ (by first | omega | (simp; done) | (simp; omega)) _) | (refine Below.setCell ?_ (by first | omega | (simp; done) | (simp; omega)) _) | refine Below.drew ?_)) (by simp) hb1 hsp1 (fun k hk => by repeat rw [Below.heap_setCell _ _ _ _ (by simp; omega)]) ?_⟩
  repeat' refine Below.setCell ?_ (by simp; omega) _
  exact Below.refl _ _
set_option maxHeartbeats 1000000 in
set_option maxRecDepth 100000 in
theorem do_look_bad (B b : Nat) (cs : List Cl) (f c m p t : Int) (w : World) (h : ArenaAt B b cs f c w) (hB : B ≤ w.heap.size) (hl : cs.length ≤ 2000) (hf : ¬ cellFault cs p t = 0) :
    Calls Try.prog 23 #[.pointer (some ⟨b, 0, none⟩), .agg #[.int .i64 2, .int .i64 m, .int .i64 p, .int .i64 t]] w (DoPost B b cs f c ⟨cellFault cs p t, 0, 0, 0⟩ w) := by
  have HA := Lib.hid h
  have HH : Hid (∀ wx, ArenaAt B b cs f c wx → B ≤ wx.heap.size → Calls Try.prog 54 #[.pointer (some ⟨b, 0, none⟩), .agg #[.int .i64 p, .int .i64 t]] wx fun e w' => e = .returned (.tuple #[.pointer none, .int .i64 (cellFault cs p t)]) ∧ Below wx.heap.size wx w') := fun wx hA hBx => cell_bad B b cs f c p t wx hA hBx hl hf
  have hq : (cellFault cs p t == 0) = false := by simpa using hf
  clear h hf
  generalize cellFault cs p t = code at HH hq ⊢
  go_enter Try.func23, Try.ntmps23
  go_wp2_with fail
  refine (HH.out _ (HA.out.below (by repeat (first | exact Below.refl _ _ | assumption | refine below_step ?_ (by assumption) | refine below_step ?_ (Joins.below_draws _ _ _) | (refine Below.alloc ?_ (by first | omega | (simp; done) | (simp; omega)) _) | (refine Below.setCell ?_ (by first | omega | (simp; done) | (simp; omega)) _) | refine Below.drew ?_))) (by simp; omega)).mono ?_
  rintro e w1 ⟨rfl, hb1⟩
  have hA3 := HA.out.below (show Below w.heap.size w (((w.alloc (.cells #[.int .i64 2, .int .i64 m, .int .i64 p, .int .i64 t] 66)).alloc (.cells #[.int .i64 0, .int .i64 0, .int .i64 0, .int .i64 0] 68)).alloc (.cells #[.int .i64 0, .int .i64 0, .int .i64 0, .int .i64 0] 68)) from (by repeat (first | exact Below.refl _ _ | assumption | refine below_step ?_ (by assumption) | refine below_step ?_ (Joins.below_draws _ _ _) | (refine Below.alloc ?_ (by first | omega | (simp; done) | (simp; omega)) _) | (refine Below.setCell ?_ (by first | omega | (simp; done) | (simp; omega)) _) | refine Below.drew ?_)))
  obtain ⟨hA1, hb1', hsp1⟩ := still_arena hA3 hb1 (by simp; omega)
  obtain ⟨k0, k1, k2⟩ := own_blocks HA.out hsp1
  obtain ⟨x0, x1, x2, x3, xf⟩ := four_cells k0
  obtain ⟨y0, y1, y2, y3, yf⟩ := four_cells k1
  obtain ⟨z0, z1, z2, z3, zf⟩ := four_cells k2
  go_wp2
  refine bodyPost_ret (v := .agg #[.int .i64 code, .int .i64 0, .int .i64 0, .int .i64 0]) (by simp [results, Try.results23, go_sem, World.cell?_setCell_other, y0, y1, y2, y3]) rfl ?_
  refine ⟨rfl, done_own HA.out hB hA1 (w3 := ((w.alloc _).alloc _).alloc _) (by repeat (first | exact Below.refl _ _ | assumption | refine below_step ?_ (by assumption) | refine below_step ?_ (Joins.below_draws _ _ _) | (refine Below.alloc ?_ (by first | omega | (simp; done) | (simp; omega)) _) | (refine Below.setCell ?_ (by first | omega | (simp; done) | (simp; omega)) _) | refine Below.drew ?_)) (by simp) hb1' hsp1 (fun k hk => by repeat rw [Below.heap_setCell _ _ _ _ (by simp; omega)]) ?_⟩
  repeat' refine Below.setCell ?_ (by simp; omega) _
  exact Below.refl _ _
set_option maxHeartbeats 1000000 in
set_option maxRecDepth 100000 in
theorem do_look_good (B b : Nat) (cs : List Cl) (f c m : Int) (q t : Nat) (w : World) (h : ArenaAt B b cs f c w) (hB : B ≤ w.heap.size) (hl : cs.length ≤ 2000) (hq : q < cs.length) (ht : 1 ≤ t) (hu : cs[q].used = true) (hne : cs[q].turn = t) :
    Calls Try.prog 23 #[.pointer (some ⟨b, 0, none⟩), .agg #[.int .i64 2, .int .i64 m, .int .i64 q, .int .i64 t]] w (DoPost B b cs f c ⟨0, cs[q].number, 0, 0⟩ w) := by
  have HA := Lib.hid h
  have HH : Hid (∀ wx, ArenaAt B b cs f c wx → B ≤ wx.heap.size → Calls Try.prog 54 #[.pointer (some ⟨b, 0, none⟩), .agg #[.int .i64 q, .int .i64 t]] wx fun e w' => ∃ g n cap, wx.heap[b]? = some (.cells #[.slice (some ⟨g, 0, none⟩) n cap, .int .i64 f, .int .i64 c] 62 (0, 0)) ∧ e = .returned (.tuple #[.pointer (some ⟨g, q * 4, none⟩), .int .i64 0]) ∧ Below wx.heap.size wx w') := fun wx hA hBx => cell_good B b cs f c q t wx hA hBx hl hq ht hu hne
  clear h
  go_enter Try.func23, Try.ntmps23
  go_wp2_with fail
  refine (HH.out _ (HA.out.below (by repeat (first | exact Below.refl _ _ | assumption | refine below_step ?_ (by assumption) | refine below_step ?_ (Joins.below_draws _ _ _) | (refine Below.alloc ?_ (by first | omega | (simp; done) | (simp; omega)) _) | (refine Below.setCell ?_ (by first | omega | (simp; done) | (simp; omega)) _) | refine Below.drew ?_))) (by simp; omega)).mono ?_
  rintro e w1 ⟨g1, n1, cap1, hk1, rfl, hb1⟩
  have hA3 := HA.out.below (show Below w.heap.size w (((w.alloc (.cells #[.int .i64 2, .int .i64 m, .int .i64 q, .int .i64 t] 66)).alloc (.cells #[.int .i64 0, .int .i64 0, .int .i64 0, .int .i64 0] 68)).alloc (.cells #[.int .i64 0, .int .i64 0, .int .i64 0, .int .i64 0] 68)) from (by repeat (first | exact Below.refl _ _ | assumption | refine below_step ?_ (by assumption) | refine below_step ?_ (Joins.below_draws _ _ _) | (refine Below.alloc ?_ (by first | omega | (simp; done) | (simp; omega)) _) | (refine Below.setCell ?_ (by first | omega | (simp; done) | (simp; omega)) _) | refine Below.drew ?_)))
  have hlt3 := hA3.lt
  obtain ⟨hA1, hb1', hsp1⟩ := still_arena hA3 hb1 (by simp; omega)
  obtain ⟨ao, m1, cap, hm, hm1, hm2, c0, c1, c2, fz, hbk, hown, hg⟩ := hA1.open
  obtain ⟨g, rfl, hgb, hBg, hglt, fg, hcells⟩ := hg (by omega)
  have hbw1 := hb1.block b hlt3
  rw [hk1, hbk] at hbw1
  simp only [Option.some.injEq, Obj.cells.injEq] at hbw1
  obtain ⟨rfl, rfl, rfl⟩ : g = g1 ∧ m1 = n1 ∧ cap = cap1 := by simpa using hbw1.1
  obtain ⟨d0, d1, d2, d3⟩ := hcells q hq
  obtain ⟨k0, k1, k2⟩ := own_blocks HA.out hsp1
  obtain ⟨x0, x1, x2, x3, xf⟩ := four_cells k0
  obtain ⟨y0, y1, y2, y3, yf⟩ := four_cells k1
  obtain ⟨z0, z1, z2, z3, zf⟩ := four_cells k2
  have hg0 : g ≠ w.heap.size := fun e => own_ne_at hown k0 (by decide) (by simp [Value.ownBlock, e])
  have hg1 : g ≠ w.heap.size + 1 := fun e => own_ne_at hown k1 (by decide) (by simp [Value.ownBlock, e])
  have hg2 : g ≠ w.heap.size + 1 + 1 := fun e => own_ne_at hown k2 (by decide) (by simp [Value.ownBlock, e])
  generalize hn : cs[q].number = nn at d2 ⊢
  have HN := Lib.hid hn
  clear hn
  clear hbw1 hk1 hbk hown hcells k0 k1 k2 d0 d1 d3 hm
  go_wp2
  refine bodyPost_ret (v := .agg #[.int .i64 0, .int .i64 nn, .int .i64 0, .int .i64 0]) (by simp [results, Try.results23, go_sem, World.cell?_setCell_other, y0, y1, y2, y3]) rfl ?_
  refine ⟨by rw [HN.out], done_own HA.out hB hA1 (w3 := ((w.alloc _).alloc _).alloc _) (by repeat (first | exact Below.refl _ _ | assumption | refine below_step ?_ (by assumption) | refine below_step ?_ (Joins.below_draws _ _ _) | (refine Below.alloc ?_ (by first | omega | (simp; done) | (simp; omega)) _) | (refine Below.setCell ?_ (by first | omega | (simp; done) | (simp; omega)) _) | refine Below.drew ?_)) (by simp) hb1' hsp1 (fun k hk => by repeat rw [Below.heap_setCell _ _ _ _ (by simp; omega)]) ?_⟩
  repeat' refine Below.setCell ?_ (by simp; omega) _
  exact Below.refl _ _
set_option maxHeartbeats 1000000 in
set_option maxRecDepth 100000 in
theorem do_count (B b : Nat) (cs : List Cl) (f c m p t : Int) (w : World) (h : ArenaAt B b cs f c w) (hB : B ≤ w.heap.size) :
    Calls Try.prog 23 #[.pointer (some ⟨b, 0, none⟩), .agg #[.int .i64 4, .int .i64 m, .int .i64 p, .int .i64 t]] w (DoPost B b cs f c ⟨0, c, 0, 0⟩ w) := by
  have HA := Lib.hid h
  have hA3 := HA.out.below (show Below w.heap.size w (((w.alloc (.cells #[.int .i64 4, .int .i64 m, .int .i64 p, .int .i64 t] 66)).alloc (.cells #[.int .i64 0, .int .i64 0, .int .i64 0, .int .i64 0] 68)).alloc (.cells #[.int .i64 0, .int .i64 0, .int .i64 0, .int .i64 0] 68)) from (by repeat (first | exact Below.refl _ _ | assumption | refine below_step ?_ (by assumption) | refine below_step ?_ (Joins.below_draws _ _ _) | (refine Below.alloc ?_ (by first | omega | (simp; done) | (simp; omega)) _) | (refine Below.setCell ?_ (by first | omega | (simp; done) | (simp; omega)) _) | refine Below.drew ?_)))
  obtain ⟨ao, m1, cap, hm, hm1, hm2, c0, c1, c2, fz, hbk, hown, hg⟩ := hA3.open
  have hlt := h.lt
  have hne : b ≠ w.heap.size := by omega
  have hne1 : b ≠ w.heap.size + 1 := by omega
  have hne2 : b ≠ w.heap.size + 1 + 1 := by omega
  clear h hbk hown hg hm hA3
  go_enter Try.func23, Try.ntmps23
  go_wp2
  refine bodyPost_ret (v := .agg #[.int .i64 0, .int .i64 c, .int .i64 0, .int .i64 0]) (by simp [results, Try.results23, go_sem, World.cell?_setCell_other]) rfl ?_
  exact ⟨rfl, still_arena HA.out (by repeat (first | exact Below.refl _ _ | assumption | refine below_step ?_ (by assumption) | refine below_step ?_ (Joins.below_draws _ _ _) | (refine Below.alloc ?_ (by first | omega | (simp; done) | (simp; omega)) _) | (refine Below.setCell ?_ (by first | omega | (simp; done) | (simp; omega)) _) | refine Below.drew ?_)) hB⟩
set_option maxHeartbeats 1000000 in
set_option maxRecDepth 100000 in
theorem do_kind (B b : Nat) (cs : List Cl) (f c k m p t : Int) (w : World) (h : ArenaAt B b cs f c w) (hB : B ≤ w.heap.size) (h1 : ¬ k = 1) (h2 : ¬ k = 2) (h3 : ¬ k = 3) (h4 : ¬ k = 4) :
    Calls Try.prog 23 #[.pointer (some ⟨b, 0, none⟩), .agg #[.int .i64 k, .int .i64 m, .int .i64 p, .int .i64 t]] w (DoPost B b cs f c ⟨3, 0, 0, 0⟩ w) := by
  have HA := Lib.hid h
  have q1 : (k == 1) = false := by simpa using h1
  have q2 : (k == 2) = false := by simpa using h2
  have q3 : (k == 3) = false := by simpa using h3
  have q4 : (k == 4) = false := by simpa using h4
  clear h h1 h2 h3 h4
  go_enter Try.func23, Try.ntmps23
  go_wp2
  refine bodyPost_ret (v := .agg #[.int .i64 3, .int .i64 0, .int .i64 0, .int .i64 0]) (by simp [results, Try.results23, go_sem, World.cell?_setCell_other]) rfl ?_
  exact ⟨rfl, still_arena HA.out (by repeat (first | exact Below.refl _ _ | assumption | refine below_step ?_ (by assumption) | refine below_step ?_ (Joins.below_draws _ _ _) | (refine Below.alloc ?_ (by first | omega | (simp; done) | (simp; omega)) _) | (refine Below.setCell ?_ (by first | omega | (simp; done) | (simp; omega)) _) | refine Below.drew ?_)) hB⟩
end Go.Proofs.Ytciomaeieggbiaa
