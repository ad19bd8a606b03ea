/-
  The walk of package wire's reader of bytes: an operation.
-/
import Derived.Test.YtciomaeieggbiaaRdV
namespace Go.Proofs.Ytciomaeieggbiaa
open Go.RowKit
set_option linter.unusedVariables false
set_option linter.unusedSimpArgs false

theorem seven_cells {w : World} {b : Nat} {a0 a1 a2 a3 a4 a5 a6 : Value} {t : TypeId} (h : w.heap[b]? = some (.cells #[a0, a1, a2, a3, a4, a5, a6] t (0, 0))) :
    w.cell? ⟨b, 0, none⟩ = some a0 ∧ w.cell? ⟨b, 1, none⟩ = some a1 ∧ w.cell? ⟨b, 2, none⟩ = some a2 ∧ w.cell? ⟨b, 3, none⟩ = some a3 ∧ w.cell? ⟨b, 4, none⟩ = some a4 ∧ w.cell? ⟨b, 5, none⟩ = some a5 ∧ w.cell? ⟨b, 6, none⟩ = some a6 ∧ ∀ o, w.frozen? ⟨b, o, none⟩ = false :=
  ⟨by rw [Lib.cell_of_heap h]; rfl, by rw [Lib.cell_of_heap h]; rfl, by rw [Lib.cell_of_heap h]; rfl, by rw [Lib.cell_of_heap h]; rfl, by rw [Lib.cell_of_heap h]; rfl, by rw [Lib.cell_of_heap h]; rfl, by rw [Lib.cell_of_heap h]; rfl, fun o => Lib.frozen_of_heap h o⟩
def opC (k : Int) (t : ByteArray) (s e : Int) (v : Value) (d : Int) (c : Bool) : Obj := .cells #[.int .i64 k, .string t, .int .i64 s, .int .i64 e, v, .int .i64 d, .bool c] 33 (0, 0)
def OpPost (b D : Nat) (R : (Opn × List Val) × Sc) (w : World) (x : Ending) (w' : World) : Prop := ∃ ao cap, x = .returned (R.1.1.val (.slice ao R.1.2.length cap)) ∧ RdrAt b D R.2 w' ∧ Only b w w' ∧ SlF (from_ w.heap.size) w' 3 valF ao R.1.2.length cap R.1.2
theorem RdrAt.sevens {b D g : Nat} {s : Sc} {w : World} (h : RdrAt b D s w) (hb : g ≠ b) (hD : D ≤ g) (x0 x1 x2 x3 x4 x5 x6 : Value) : RdrAt b D s (((((((w.setCell ⟨g, 0, none⟩ x0).setCell ⟨g, 1, none⟩ x1).setCell ⟨g, 2, none⟩ x2).setCell ⟨g, 3, none⟩ x3).setCell ⟨g, 4, none⟩ x4).setCell ⟨g, 5, none⟩ x5).setCell ⟨g, 6, none⟩ x6) :=
  ((((((h.setNew (p := ⟨g, 0, none⟩) hb hD x0).setNew (p := ⟨g, 1, none⟩) hb hD x1).setNew (p := ⟨g, 2, none⟩) hb hD x2).setNew (p := ⟨g, 3, none⟩) hb hD x3).setNew (p := ⟨g, 4, none⟩) hb hD x4).setNew (p := ⟨g, 5, none⟩) hb hD x5).setNew (p := ⟨g, 6, none⟩) hb hD x6
theorem Only.sevens {b g : Nat} {u w : World} (h : Only b u w) (hg : u.heap.size ≤ g) (x0 x1 x2 x3 x4 x5 x6 : Value) : Only b u (((((((w.setCell ⟨g, 0, none⟩ x0).setCell ⟨g, 1, none⟩ x1).setCell ⟨g, 2, none⟩ x2).setCell ⟨g, 3, none⟩ x3).setCell ⟨g, 4, none⟩ x4).setCell ⟨g, 5, none⟩ x5).setCell ⟨g, 6, none⟩ x6) :=
  ((((((h.setNew (p := ⟨g, 0, none⟩) hg x0).setNew (p := ⟨g, 1, none⟩) hg x1).setNew (p := ⟨g, 2, none⟩) hg x2).setNew (p := ⟨g, 3, none⟩) hg x3).setNew (p := ⟨g, 4, none⟩) hg x4).setNew (p := ⟨g, 5, none⟩) hg x5).setNew (p := ⟨g, 6, none⟩) hg x6

set_option maxHeartbeats 4000000 in
set_option maxRecDepth 100000 in
theorem rop_else (b D : Nat) (s : Sc) (w : World) (h : RdrAt b D s w) (hD : D ≤ w.heap.size) (h1 : s.small.1 ≠ 1) (h2 : s.small.1 ≠ 2) (h3 : s.small.1 ≠ 3) : Calls Try.prog 90 #[.pointer (some ⟨b, 0, none⟩)] w (OpPost b D s.op w) := by
  have hbw := h.lt
  have HS := Lib.hid (rsmall_any b D s (w.alloc (opC 0 ByteArray.empty 0 0 (.slice none 0 0) 0 false)) (h.below (Joins.below_alloc1 _ _)))
  unfold OpPost Sc.op
  simp only [if_neg h1, if_neg h2, if_neg h3]
  generalize s.small = M at HS h1 h2 h3 ⊢
  obtain ⟨k, t⟩ := M
  simp only at HS h1 h2 h3 ⊢
  have q1 : ((k : Int) == 1) = false := by simp; omega
  have q2 : ((k : Int) == 2) = false := by simp; omega
  have q3 : ((k : Int) == 3) = false := by simp; omega
  clear h1 h2 h3
  have HF := fun wx h => Lib.hid (rfail_any b D t 3 wx h (by decide))
  generalize t.stop 3 = t2 at HF ⊢
  unfold opC at HS
  go_enter Try.func90, Try.ntmps90
  go_wp2_with fail
  refine HS.out.mono ?_
  rintro e w1 ⟨rfl, h1, ho1⟩
  have hs1 := ho1.size
  simp only [World.size_alloc] at hs1
  have hrb1 : w1.heap[w.heap.size]? = _ := (ho1.block _ (by simp) (by omega)).trans (heap_alloc_new w _)
  go_wp2_with fail
  refine (HF _ (h1.below (Joins.below_alloc1 _ _))).out.mono ?_
  rintro e w2 ⟨rfl, h2, ho2⟩
  have hs2 := ho2.size
  simp only [World.size_alloc] at hs2
  have hrb2 : w2.heap[w.heap.size]? = _ := (ho2.block _ (by simp; omega) (by omega)).trans ((Below.heap_alloc _ _ _ (by omega)).trans hrb1)
  have hob2 : w2.heap[w1.heap.size]? = _ := (ho2.block _ (by simp) (by omega)).trans (heap_alloc_new w1 _)
  obtain ⟨r0, r1, r2, r3, r4, r5, r6, rf⟩ := seven_cells hrb2
  obtain ⟨o0, o1, o2, o3, o4, o5, o6, of⟩ := seven_cells hob2
  have hl1 : w.heap.size < w2.heap.size := by omega
  have hl2 : w1.heap.size < w2.heap.size := by omega
  clear hrb1 hrb2 hob2
  go_wp2
  refine bodyPost_ret (v := .agg #[.int .i64 k, .string ByteArray.empty, .int .i64 0, .int .i64 0, .slice none 0 0, .int .i64 0, .bool false]) (by simp [results, Try.results90, go_sem, r0, r1, r2, r3, r4, r5, r6, World.cell?_setCell_other] <;> rfl) rfl ?_
  exact ⟨none, 0, rfl, h2.sevens (by omega) hD _ _ _ _ _ _ _, Only.sevens (((((Only.refl b w).alloc _).trans ho1).alloc _).trans ho2) (Nat.le_refl _) _ _ _ _ _ _ _, SlF.nil⟩

set_option maxHeartbeats 4000000 in
set_option maxRecDepth 100000 in
theorem rop_query (b D : Nat) (s : Sc) (w : World) (h : RdrAt b D s w) (hD : D ≤ w.heap.size) (h3 : s.small.1 = 3) : Calls Try.prog 90 #[.pointer (some ⟨b, 0, none⟩)] w (OpPost b D s.op w) := by
  have hbw := h.lt
  have HS := Lib.hid (rsmall_any b D s (w.alloc (opC 0 ByteArray.empty 0 0 (.slice none 0 0) 0 false)) (h.below (Joins.below_alloc1 _ _)))
  unfold OpPost Sc.op
  have n1 : ¬ s.small.1 = 1 := by omega
  have n2 : ¬ s.small.1 = 2 := by omega
  simp only [if_neg n1, if_neg n2, if_pos h3]
  clear n1 n2
  generalize s.small = M at HS h3 ⊢
  obtain ⟨k, t⟩ := M
  simp only at HS h3 ⊢
  subst h3
  have HF := fun wx h => Lib.hid (rtext_any b D t wx h)
  generalize t.text = L at HF ⊢
  obtain ⟨z, t2⟩ := L
  simp only at HF ⊢
  unfold opC at HS
  go_enter Try.func90, Try.ntmps90
  go_wp2_with fail
  refine HS.out.mono ?_
  rintro e w1 ⟨rfl, h1, ho1⟩
  have hs1 := ho1.size
  simp only [World.size_alloc] at hs1
  have hrb1 : w1.heap[w.heap.size]? = _ := (ho1.block _ (by simp) (by omega)).trans (heap_alloc_new w _)
  go_wp2_with fail
  refine (HF _ (h1.below (Joins.below_alloc1 _ _))).out.mono ?_
  rintro e w2 ⟨rfl, h2, ho2⟩
  have hs2 := ho2.size
  simp only [World.size_alloc] at hs2
  have hrb2 : w2.heap[w.heap.size]? = _ := (ho2.block _ (by simp; omega) (by omega)).trans ((Below.heap_alloc _ _ _ (by omega)).trans hrb1)
  have hob2 : w2.heap[w1.heap.size]? = _ := (ho2.block _ (by simp) (by omega)).trans (heap_alloc_new w1 _)
  obtain ⟨r0, r1, r2, r3, r4, r5, r6, rf⟩ := seven_cells hrb2
  obtain ⟨o0, o1, o2, o3, o4, o5, o6, of⟩ := seven_cells hob2
  have hl1 : w.heap.size < w2.heap.size := by omega
  have hl2 : w1.heap.size < w2.heap.size := by omega
  have hne : w1.heap.size ≠ w.heap.size := by omega
  have hne2 : w.heap.size ≠ w1.heap.size := by omega
  clear hrb1 hrb2 hob2
  go_wp2
  refine bodyPost_ret (v := .agg #[.int .i64 3, .string z, .int .i64 0, .int .i64 0, .slice none 0 0, .int .i64 0, .bool false]) (by simp [results, Try.results90, go_sem, r0, r1, r2, r3, r4, r5, r6, World.cell?_setCell_other] <;> rfl) rfl ?_
  exact ⟨none, 0, rfl, (h2.setNew (p := ⟨w1.heap.size, 1, none⟩) (by show w1.heap.size ≠ b; omega) (by show D ≤ w1.heap.size; omega) _).sevens (by omega) hD _ _ _ _ _ _ _, Only.sevens ((((((Only.refl b w).alloc _).trans ho1).alloc _).trans ho2).setNew (p := ⟨w1.heap.size, 1, none⟩) (by show w.heap.size ≤ w1.heap.size; omega) _) (Nat.le_refl _) _ _ _ _ _ _ _, SlF.nil⟩

set_option maxHeartbeats 4000000 in
set_option maxRecDepth 100000 in
theorem rop_advance (b D : Nat) (s : Sc) (w : World) (h : RdrAt b D s w) (hD : D ≤ w.heap.size) (h2 : s.small.1 = 2) : Calls Try.prog 90 #[.pointer (some ⟨b, 0, none⟩)] w (OpPost b D s.op w) := by
  have hbw := h.lt
  have HS := Lib.hid (rsmall_any b D s (w.alloc (opC 0 ByteArray.empty 0 0 (.slice none 0 0) 0 false)) (h.below (Joins.below_alloc1 _ _)))
  unfold OpPost Sc.op
  simp only [if_pos h2]
  generalize s.small = M at HS h2 ⊢
  obtain ⟨k, t⟩ := M
  simp only at HS h2 ⊢
  subst h2
  have HF := fun wx h => Lib.hid (rlong_any b D t wx h)
  have hm := Sc.long_lt t
  generalize t.long = L at HF hm ⊢
  obtain ⟨m, t2⟩ := L
  simp only at HF hm ⊢
  have hmw : IntKind.i64.wrap (m : Int) = m := IntWalk.i64_in _ (by omega)
  clear hm
  have HG := fun wx h => Lib.hid (rsmall_any b D t2 wx h)
  have hc := Sc.small_lt t2
  generalize t2.small = L at HG hc ⊢
  obtain ⟨c, t3⟩ := L
  simp only at HG hc ⊢
  unfold opC at HS
  go_enter Try.func90, Try.ntmps90
  go_wp2_with fail
  refine HS.out.mono ?_
  rintro e w1 ⟨rfl, h1, ho1⟩
  have hs1 := ho1.size
  simp only [World.size_alloc] at hs1
  have hrb1 : w1.heap[w.heap.size]? = _ := (ho1.block _ (by simp) (by omega)).trans (heap_alloc_new w _)
  go_wp2_with fail
  refine (HF _ (h1.below (Joins.below_alloc1 _ _))).out.mono ?_
  rintro e w2 ⟨rfl, h2, ho2⟩
  have hs2 := ho2.size
  simp only [World.size_alloc] at hs2
  have hrb2 : w2.heap[w.heap.size]? = _ := (ho2.block _ (by simp; omega) (by omega)).trans ((Below.heap_alloc _ _ _ (by omega)).trans hrb1)
  have hob2 : w2.heap[w1.heap.size]? = _ := (ho2.block _ (by simp) (by omega)).trans (heap_alloc_new w1 _)
  have hl1 : w.heap.size < w2.heap.size := by omega
  have hl2 : w1.heap.size < w2.heap.size := by omega
  have hne : w1.heap.size ≠ w.heap.size := by omega
  have hne2 : w.heap.size ≠ w1.heap.size := by omega
  obtain ⟨o0, o1, o2, o3, o4, o5, o6, of⟩ := seven_cells hob2
  have hob2' : (w2.setCell ⟨w1.heap.size, 5, none⟩ (.int .i64 m)).heap[w1.heap.size]? = some (opC 2 ByteArray.empty 0 0 (.slice none 0 0) m false) := by
    simp only [World.setCell, Array.getElem?_modify, hob2]; rfl
  unfold opC at hob2'
  have hrb2' : (w2.setCell ⟨w1.heap.size, 5, none⟩ (.int .i64 m)).heap[w.heap.size]? = _ := (Below.heap_setCell _ _ _ _ hne2).trans hrb2
  have HOB := Lib.hid hob2'
  have HRB := Lib.hid hrb2'
  clear hob2 hrb2 hrb1 hob2' hrb2'
  have HA := Lib.hid (h2.setNew (p := ⟨w1.heap.size, 5, none⟩) (by show w1.heap.size ≠ b; omega) (by show D ≤ w1.heap.size; omega) (.int .i64 m))
  have KA := Lib.hid ((((((Only.refl b w).alloc _).trans ho1).alloc _).trans ho2).setNew (p := ⟨w1.heap.size, 5, none⟩) (by show w.heap.size ≤ w1.heap.size; omega) (.int .i64 m))
  go_wp2_with fail
  refine (HG _ HA.out).out.mono ?_
  rintro e w3 ⟨rfl, h3, ho3⟩
  have hs3 := ho3.size
  simp only [World.size_setCell] at hs3
  have hob3 : w3.heap[w1.heap.size]? = _ := (ho3.block _ (by simp; omega) (by omega)).trans HOB.out
  have hrb3 : w3.heap[w.heap.size]? = _ := (ho3.block _ (by simp; omega) (by omega)).trans HRB.out
  have HOB3 := Lib.hid hob3
  have HRB3 := Lib.hid hrb3
  obtain ⟨r0, r1, r2, r3, r4, r5, r6, rf⟩ := seven_cells hrb3
  obtain ⟨p0, p1, p2, p3, p4, p5, p6, pf⟩ := seven_cells hob3
  have hl3 : w.heap.size < w3.heap.size := by omega
  have hl4 : w1.heap.size < w3.heap.size := by omega
  clear hob3 hrb3
  have KB := Lib.hid (KA.out.trans ho3)
  by_cases hc0 : c = 0
  · subst hc0
    go_wp2
    refine bodyPost_ret (v := .agg #[.int .i64 2, .string ByteArray.empty, .int .i64 0, .int .i64 0, .slice none 0 0, .int .i64 m, .bool false]) (by simp [results, Try.results90, go_sem, r0, r1, r2, r3, r4, r5, r6, World.cell?_setCell_other] <;> rfl) rfl ?_
    exact ⟨none, 0, rfl, h3.sevens (by omega) hD _ _ _ _ _ _ _, KB.out.sevens (Nat.le_refl _) _ _ _ _ _ _ _, SlF.nil⟩
  · by_cases hc1 : c = 1
    · subst hc1
      go_wp2
      refine bodyPost_ret (v := .agg #[.int .i64 2, .string ByteArray.empty, .int .i64 0, .int .i64 0, .slice none 0 0, .int .i64 m, .bool true]) (by simp [results, Try.results90, go_sem, r0, r1, r2, r3, r4, r5, r6, World.cell?_setCell_other] <;> rfl) rfl ?_
      exact ⟨none, 0, rfl, (h3.setNew (p := ⟨w1.heap.size, 6, none⟩) (by show w1.heap.size ≠ b; omega) (by show D ≤ w1.heap.size; omega) _).sevens (by omega) hD _ _ _ _ _ _ _, (KB.out.setNew (p := ⟨w1.heap.size, 6, none⟩) (by show w.heap.size ≤ w1.heap.size; omega) _).sevens (Nat.le_refl _) _ _ _ _ _ _ _, SlF.nil⟩
    · have d0 : ((c : Int) == 0) = false := by simp; omega
      have d1 : ((c : Int) == 1) = false := by simp; omega
      have DE : Hid (decide (c = 1) = false) := by show _ = _; simp; omega
      have DI : Hid (¬ c ≤ 1) := by show ¬ _; omega
      clear hc0 hc1
      go_wp2_with fail
      refine (rfail_any b D t3 4 _ h3 (by decide)).mono ?_
      rintro e w4 ⟨rfl, h4, ho4⟩
      have hs4 := ho4.size
      have hob4 : w4.heap[w1.heap.size]? = _ := (ho4.block _ (by omega) (by omega)).trans HOB3.out
      have hrb4 : w4.heap[w.heap.size]? = _ := (ho4.block _ (by omega) (by omega)).trans HRB3.out
      clear r0 r1 r2 r3 r4 r5 r6 rf p0 p1 p2 p3 p4 p5 p6 pf o0 o1 o2 o3 o4 o5 o6 of
      obtain ⟨r0, r1, r2, r3, r4, r5, r6, rf⟩ := seven_cells hrb4
      obtain ⟨p0, p1, p2, p3, p4, p5, p6, pf⟩ := seven_cells hob4
      have hl5 : w.heap.size < w4.heap.size := by omega
      have hl6 : w1.heap.size < w4.heap.size := by omega
      clear hob4 hrb4
      go_wp2
      refine bodyPost_ret (v := .agg #[.int .i64 2, .string ByteArray.empty, .int .i64 0, .int .i64 0, .slice none 0 0, .int .i64 m, .bool false]) (by simp [results, Try.results90, go_sem, r0, r1, r2, r3, r4, r5, r6, World.cell?_setCell_other] <;> rfl) rfl ?_
      rw [DE.out]
      exact ⟨none, 0, rfl, h4.sevens (by omega) hD _ _ _ _ _ _ _, (KB.out.trans ho4).sevens (Nat.le_refl _) _ _ _ _ _ _ _, SlF.nil⟩

theorem SlF.setLow {α : Type} {B k : Nat} {w : World} {R : (Nat → Prop) → World → List Value → α → Prop} {ao : Option Addr} {n cap : Nat} {xs : List α} (h : SlF (from_ B) w k R ao n cap xs) (hR : Firm R) {p : Addr} (hp : p.block < B) (u : Value) : SlF (from_ B) (w.setCell p u) k R ao n cap xs :=
  h.same hR (Same.setCell u (by show ¬ (B ≤ p.block); omega))
theorem SlF.sevens {α : Type} {B k g : Nat} {w : World} {R : (Nat → Prop) → World → List Value → α → Prop} {ao : Option Addr} {n cap : Nat} {xs : List α} (h : SlF (from_ B) w k R ao n cap xs) (hR : Firm R) (hg : g < B) (x0 x1 x2 x3 x4 x5 x6 : Value) : SlF (from_ B) (((((((w.setCell ⟨g, 0, none⟩ x0).setCell ⟨g, 1, none⟩ x1).setCell ⟨g, 2, none⟩ x2).setCell ⟨g, 3, none⟩ x3).setCell ⟨g, 4, none⟩ x4).setCell ⟨g, 5, none⟩ x5).setCell ⟨g, 6, none⟩ x6) k R ao n cap xs :=
  ((((((h.setLow hR (p := ⟨g, 0, none⟩) hg x0).setLow hR (p := ⟨g, 1, none⟩) hg x1).setLow hR (p := ⟨g, 2, none⟩) hg x2).setLow hR (p := ⟨g, 3, none⟩) hg x3).setLow hR (p := ⟨g, 4, none⟩) hg x4).setLow hR (p := ⟨g, 5, none⟩) hg x5).setLow hR (p := ⟨g, 6, none⟩) hg x6
theorem SlF.above {α : Type} {B C k : Nat} {w : World} {R : (Nat → Prop) → World → List Value → α → Prop} {ao : Option Addr} {n cap : Nat} {xs : List α} (h : SlF (from_ B) w k R ao n cap xs) (hR : Firm R) (hC : C ≤ B) : SlF (from_ C) w k R ao n cap xs :=
  h.wide hR fun b hb _ => Nat.le_trans hC hb

set_option maxHeartbeats 4000000 in
set_option maxRecDepth 100000 in
theorem rop_insert (b D : Nat) (s : Sc) (w : World) (h : RdrAt b D s w) (hD : D ≤ w.heap.size) (h1 : s.small.1 = 1) : Calls Try.prog 90 #[.pointer (some ⟨b, 0, none⟩)] w (OpPost b D s.op w) := by
  have hbw := h.lt
  have HS := Lib.hid (rsmall_any b D s (w.alloc (opC 0 ByteArray.empty 0 0 (.slice none 0 0) 0 false)) (h.below (Joins.below_alloc1 _ _)))
  unfold OpPost Sc.op
  have n2 : ¬ s.small.1 = 2 := by omega
  simp only [if_neg n2, if_pos h1]
  clear n2
  generalize s.small = M at HS h1 ⊢
  obtain ⟨k, t⟩ := M
  simp only at HS h1 ⊢
  subst h1
  have HF := fun wx h => Lib.hid (rtext_any b D t wx h)
  generalize t.text = L at HF ⊢
  obtain ⟨z, t2⟩ := L
  simp only at HF ⊢
  have HG := fun wx h => Lib.hid (rlong_any b D t2 wx h)
  have hm := Sc.long_lt t2
  generalize t2.long = L at HG hm ⊢
  obtain ⟨m1, t3⟩ := L
  simp only at HG hm ⊢
  have hmw : IntKind.i64.wrap (m1 : Int) = m1 := IntWalk.i64_in _ (by omega)
  clear hm
  have HI := fun wx h => Lib.hid (rlong_any b D t3 wx h)
  have hm := Sc.long_lt t3
  generalize t3.long = L at HI hm ⊢
  obtain ⟨m2, t4⟩ := L
  simp only at HI hm ⊢
  have hmw2 : IntKind.i64.wrap (m2 : Int) = m2 := IntWalk.i64_in _ (by omega)
  clear hm
  have HJ := fun wx h hD => Lib.hid (rvals_any b D t4 wx h hD)
  unfold ListPost at HJ
  generalize t4.list = L at HJ ⊢
  obtain ⟨vs, t5⟩ := L
  simp only at HJ ⊢
  unfold opC at HS
  go_enter Try.func90, Try.ntmps90
  go_wp2_with fail
  refine HS.out.mono ?_
  rintro e w1 ⟨rfl, h1, ho1⟩
  have hs1 := ho1.size
  simp only [World.size_alloc] at hs1
  have hrb1 : w1.heap[w.heap.size]? = _ := (ho1.block _ (by simp) (by omega)).trans (heap_alloc_new w _)
  go_wp2_with fail
  refine (HF _ (h1.below (Joins.below_alloc1 _ _))).out.mono ?_
  rintro e w2 ⟨rfl, h2, ho2⟩
  have hs2 := ho2.size
  simp only [World.size_alloc] at hs2
  have hrb2 : w2.heap[w.heap.size]? = _ := (ho2.block _ (by simp; omega) (by omega)).trans ((Below.heap_alloc _ _ _ (by omega)).trans hrb1)
  have hob2 : w2.heap[w1.heap.size]? = _ := (ho2.block _ (by simp) (by omega)).trans (heap_alloc_new w1 _)
  have hl1 : w.heap.size < w2.heap.size := by omega
  have hl2 : w1.heap.size < w2.heap.size := by omega
  have hne : w1.heap.size ≠ w.heap.size := by omega
  have hne2 : w.heap.size ≠ w1.heap.size := by omega
  obtain ⟨o0, o1, o2, o3, o4, o5, o6, of⟩ := seven_cells hob2
  have hob2' : (w2.setCell ⟨w1.heap.size, 1, none⟩ (.string z)).heap[w1.heap.size]? = some (opC 1 z 0 0 (.slice none 0 0) 0 false) := by
    simp only [World.setCell, Array.getElem?_modify, hob2]; rfl
  unfold opC at hob2'
  have hrb2' : (w2.setCell ⟨w1.heap.size, 1, none⟩ (.string z)).heap[w.heap.size]? = _ := (Below.heap_setCell _ _ _ _ hne2).trans hrb2
  have HOB := Lib.hid hob2'
  have HRB := Lib.hid hrb2'
  clear hob2 hrb2 hrb1 hob2' hrb2'
  have HA := Lib.hid (h2.setNew (p := ⟨w1.heap.size, 1, none⟩) (by show w1.heap.size ≠ b; omega) (by show D ≤ w1.heap.size; omega) (.string z))
  have KA := Lib.hid ((((((Only.refl b w).alloc _).trans ho1).alloc _).trans ho2).setNew (p := ⟨w1.heap.size, 1, none⟩) (by show w.heap.size ≤ w1.heap.size; omega) (.string z))
  go_wp2_with fail
  refine (HG _ HA.out).out.mono ?_
  rintro e w3 ⟨rfl, h3, ho3⟩
  have hs3 := ho3.size
  simp only [World.size_setCell] at hs3
  have hob3 : w3.heap[w1.heap.size]? = _ := (ho3.block _ (by simp; omega) (by omega)).trans HOB.out
  have hrb3 : w3.heap[w.heap.size]? = _ := (ho3.block _ (by simp; omega) (by omega)).trans HRB.out
  have HOB3 := Lib.hid hob3
  have HRB3 := Lib.hid hrb3
  clear hob3 hrb3 o0 o1 o2 o3 o4 o5 o6 of
  have KB := Lib.hid (KA.out.trans ho3)
  go_wp2_with fail
  refine (HI _ h3).out.mono ?_
  rintro e w4 ⟨rfl, h4, ho4⟩
  have hs4 := ho4.size
  have hob4 : w4.heap[w1.heap.size]? = _ := (ho4.block _ (by omega) (by omega)).trans HOB3.out
  have hrb4 : w4.heap[w.heap.size]? = _ := (ho4.block _ (by omega) (by omega)).trans HRB3.out
  obtain ⟨o0, o1, o2, o3, o4, o5, o6, of⟩ := seven_cells hob4
  have hl3 : w.heap.size < w4.heap.size := by omega
  have hl4 : w1.heap.size < w4.heap.size := by omega
  have hob4' : ((w4.setCell ⟨w1.heap.size, 2, none⟩ (.int .i64 m1)).setCell ⟨w1.heap.size, 3, none⟩ (.int .i64 m2)).heap[w1.heap.size]? = some (opC 1 z m1 m2 (.slice none 0 0) 0 false) := by
    simp only [World.setCell, Array.getElem?_modify, hob4]; rfl
  unfold opC at hob4'
  have hrb4' : ((w4.setCell ⟨w1.heap.size, 2, none⟩ (.int .i64 m1)).setCell ⟨w1.heap.size, 3, none⟩ (.int .i64 m2)).heap[w.heap.size]? = _ := (Below.heap_setCell _ _ _ _ hne2).trans ((Below.heap_setCell _ _ _ _ hne2).trans hrb4)
  have HOB4 := Lib.hid hob4'
  have HRB4 := Lib.hid hrb4'
  have HB := Lib.hid ((h4.setNew (p := ⟨w1.heap.size, 2, none⟩) (by show w1.heap.size ≠ b; omega) (by show D ≤ w1.heap.size; omega) (.int .i64 m1)).setNew (p := ⟨w1.heap.size, 3, none⟩) (by show w1.heap.size ≠ b; omega) (by show D ≤ w1.heap.size; omega) (.int .i64 m2))
  have KC := Lib.hid (((KB.out.trans ho4).setNew (p := ⟨w1.heap.size, 2, none⟩) (by show w.heap.size ≤ w1.heap.size; omega) (.int .i64 m1)).setNew (p := ⟨w1.heap.size, 3, none⟩) (by show w.heap.size ≤ w1.heap.size; omega) (.int .i64 m2))
  clear hob4 hrb4 hob4' hrb4'
  go_wp2_with fail
  refine (HJ _ HB.out (by simp; omega)).out.mono ?_
  rintro e w5 ⟨ao, cap, rfl, h5, ho5, hS⟩
  have hs5 := ho5.size
  simp only [World.size_setCell] at hs5 hS
  have hob5 : w5.heap[w1.heap.size]? = _ := (ho5.block _ (by simp; omega) (by omega)).trans HOB4.out
  have hrb5 : w5.heap[w.heap.size]? = _ := (ho5.block _ (by simp; omega) (by omega)).trans HRB4.out
  clear o0 o1 o2 o3 o4 o5 o6 of
  obtain ⟨r0, r1, r2, r3, r4, r5, r6, rf⟩ := seven_cells hrb5
  obtain ⟨p0, p1, p2, p3, p4, p5, p6, pf⟩ := seven_cells hob5
  have hl5 : w.heap.size < w5.heap.size := by omega
  have hl6 : w1.heap.size < w5.heap.size := by omega
  have HSS := Lib.hid hS
  clear hob5 hrb5 hS
  have KD := Lib.hid (KC.out.trans ho5)
  go_wp2
  refine bodyPost_ret (v := .agg #[.int .i64 1, .string z, .int .i64 m1, .int .i64 m2, .slice ao vs.length cap, .int .i64 0, .bool false]) (by simp [results, Try.results90, go_sem, r0, r1, r2, r3, r4, r5, r6, World.cell?_setCell_other] <;> rfl) rfl ?_
  exact ⟨ao, cap, rfl, (h5.setNew (p := ⟨w1.heap.size, 4, none⟩) (by show w1.heap.size ≠ b; omega) (by show D ≤ w1.heap.size; omega) _).sevens (by omega) hD _ _ _ _ _ _ _, (KD.out.setNew (p := ⟨w1.heap.size, 4, none⟩) (by show w.heap.size ≤ w1.heap.size; omega) _).sevens (Nat.le_refl _) _ _ _ _ _ _ _, ((HSS.out.setLow valF_firm (p := ⟨w1.heap.size, 4, none⟩) (by show w1.heap.size < _; omega) _).sevens valF_firm (by omega) _ _ _ _ _ _ _).above valF_firm (by omega)⟩

theorem rop_any (b D : Nat) (s : Sc) (w : World) (h : RdrAt b D s w) (hD : D ≤ w.heap.size) : Calls Try.prog 90 #[.pointer (some ⟨b, 0, none⟩)] w (OpPost b D s.op w) := by
  by_cases h1 : s.small.1 = 1
  · exact rop_insert b D s w h hD h1
  · by_cases h2 : s.small.1 = 2
    · exact rop_advance b D s w h hD h2
    · by_cases h3 : s.small.1 = 3
      · exact rop_query b D s w h hD h3
      · exact rop_else b D s w h hD h1 h2 h3
end Go.Proofs.Ytciomaeieggbiaa
