/-
  The walk of package wire's reader of bytes: values.
-/
import Derived.Test.YtciomaeieggbiaaRdX
namespace Go.Proofs.Ytciomaeieggbiaa
open Go.RowKit
set_option linter.unusedVariables false
set_option linter.unusedSimpArgs false

theorem empty_len : ByteArray.empty.size ≤ maxLen := Nat.zero_le _
theorem text_max {z : ByteArray} (h : z.size ≤ 255) : z.size ≤ maxLen := by unfold maxLen; omega
def nowhere : Nat → Prop := fun _ => False
def valF : (Nat → Prop) → World → List Value → Val → Prop := fun _ w row v => valR w row v
theorem valF_firm : Firm valF := fun _ _ _ _ _ _ _ h => h
theorem info_val : (Try.prog.info? 84).map (fun i => (i.zero, i.size, i.bytes)) = some (some (.agg #[.int .i64 0, .int .i64 0, .string ByteArray.empty]), 3, 32) := by kernel_rfl
theorem OwnF.only {α : Type} {b B : Nat} {w w' : World} {e k : Nat} {R : (Nat → Prop) → World → List Value → α → Prop} {o : Value} {xs : List α} (h : OwnF nowhere B w e k R o xs) (hR : Firm R) (ho : Only b w w') (hb : b < B) : OwnF nowhere B w' e k R o xs :=
  h.same hR ho.size fun g hg hor => ho.block g hg (by rcases hor with h0 | h0; exact h0.elim; have := h.base g h0; omega)
theorem vals_on (n : Nat) (l : List UInt8) : Sc.vals (n + 1) (.on l) = ((Sc.on l).val.1 :: (Sc.vals n (Sc.on l).val.2).1, (Sc.vals n (Sc.on l).val.2).2) := rfl
theorem vals_bad (n : Nat) (e : Int) : Sc.vals n (.bad e) = ([], .bad e) := by cases n <;> rfl
theorem vals_none (s : Sc) : Sc.vals 0 s = ([], s) := by cases s <;> rfl
theorem three_cells {w : World} {b : Nat} {x y z : Value} {t : TypeId} (h : w.heap[b]? = some (.cells #[x, y, z] t (0, 0))) :
    w.cell? ⟨b, 0, none⟩ = some x ∧ w.cell? ⟨b, 1, none⟩ = some y ∧ w.cell? ⟨b, 2, none⟩ = some z ∧ ∀ o, w.frozen? ⟨b, o, none⟩ = false :=
  ⟨by rw [Lib.cell_of_heap h]; rfl, by rw [Lib.cell_of_heap h]; rfl, by rw [Lib.cell_of_heap h]; rfl, fun o => Lib.frozen_of_heap h o⟩
theorem set_three1 {w : World} {b : Nat} {x y z u : Value} {t : TypeId} {f : Nat × Nat} (h : w.heap[b]? = some (.cells #[x, y, z] t f)) : (w.setCell ⟨b, 1, none⟩ u).heap[b]? = some (.cells #[x, u, z] t f) := by simp [World.setCell, Array.getElem?_modify, h]
theorem set_three2 {w : World} {b : Nat} {x y z u : Value} {t : TypeId} {f : Nat × Nat} (h : w.heap[b]? = some (.cells #[x, y, z] t f)) : (w.setCell ⟨b, 2, none⟩ u).heap[b]? = some (.cells #[x, y, u] t f) := by simp [World.setCell, Array.getElem?_modify, h]
theorem OwnF.setNew {α : Type} {B : Nat} {w : World} {e k : Nat} {R : (Nat → Prop) → World → List Value → α → Prop} {o : Value} {xs : List α} (h : OwnF nowhere B w e k R o xs) (hR : Firm R) {p : Addr} (hp : o.ownBlock ≠ some p.block) (u : Value) : OwnF nowhere B (w.setCell p u) e k R o xs :=
  h.same hR (by rw [World.size_setCell]; exact Nat.le_refl _) fun g hg hor => Below.heap_setCell _ _ _ _ (by rcases hor with h0 | h0; exact h0.elim; intro e; subst e; exact hp h0)
theorem OwnF.lt {α : Type} {F : Nat → Prop} {B : Nat} {w : World} {e k : Nat} {R : (Nat → Prop) → World → List Value → α → Prop} {o : Value} {xs : List α} (h : OwnF F B w e k R o xs) {g : Nat} (hg : w.heap.size ≤ g) : o.ownBlock ≠ some g := by
  obtain ⟨rs, h1, _⟩ := h
  rcases h1.2 with ⟨rfl, _⟩ | ⟨g', cap, cur, rfl, _, hh, _⟩
  · intro h; simp [Value.ownBlock] at h
  · have := (Array.getElem?_eq_some_iff.1 hh).1
    intro h; simp [Value.ownBlock] at h; omega
theorem Only.then {b : Nat} {u v w : World} (h : Only b u v) (k : Below u.heap.size v w) : Only b u w :=
  ⟨k.os.trans h.os, k.tape.trans h.tape, k.output.trans h.output, Nat.le_trans h.size k.size, fun i hi hb => (k.block i hi).trans (h.block i hi hb)⟩
theorem RdrAt.grown {b D : Nat} {s : Sc} {w w' : World} {row : Option Nat} (h : RdrAt b D s w) (hg : w.grownBy w' row) (hr : ∀ g, row = some g → b < g ∧ D ≤ g) : RdrAt b D s w' := by
  have hlt := h.lt
  obtain ⟨hf, ao, n, cap, hk, hS, hn⟩ := h
  exact ⟨hf, ao, n, cap, (hg.block b hlt (fun e => by have := hr b e.symm; omega)).trans hk, hS.same byteF_firm ⟨hg.size, fun g hF hlt => ⟨hF, hg.block g hlt (fun e => by have := hr g e.symm; have := hF.2; omega)⟩⟩, hn⟩
/-- A value in its block, put behind what has been read. -/
theorem val_ready {b B : Nat} {wr w2 w3 : World} {ra : Option Addr} {rc : Nat} {acc : List Val} {X : Obj} (hO : OwnF nowhere B wr 84 3 valF (.slice ra acc.length rc) acc) (ho2 : Only b wr w2) (ho3 : Only b (w2.alloc X) w3) (hb : b < B) (p : Addr) (hp : p.block = w2.heap.size) (u : Value) (Y : Obj) :
    OwnF nowhere B ((w3.setCell p u).alloc Y) 84 3 valF (.slice ra acc.length rc) acc :=
  ((((((hO.only valF_firm ho2 hb).alloc valF_firm X).only valF_firm ho3 hb)).setNew valF_firm (by rw [hp]; exact hO.lt ho2.size) u)).alloc valF_firm Y
theorem val_ready0 {b B : Nat} {wr w2 w3 : World} {ra : Option Addr} {rc : Nat} {acc : List Val} {X : Obj} (hO : OwnF nowhere B wr 84 3 valF (.slice ra acc.length rc) acc) (ho2 : Only b wr w2) (ho3 : Only b (w2.alloc X) w3) (hb : b < B) (Y : Obj) :
    OwnF nowhere B (w3.alloc Y) 84 3 valF (.slice ra acc.length rc) acc :=
  ((((hO.only valF_firm ho2 hb).alloc valF_firm X).only valF_firm ho3 hb)).alloc valF_firm Y
def ListPost (b D : Nat) (L : List Val × Sc) (w : World) (x : Ending) (w' : World) : Prop := ∃ ao cap, x = .returned (.slice ao L.1.length cap) ∧ RdrAt b D L.2 w' ∧ Only b w w' ∧ SlF (from_ w.heap.size) w' 3 valF ao L.1.length cap L.1

set_option maxHeartbeats 4000000 in
set_option maxRecDepth 100000 in
theorem rvals_any (b D : Nat) (s : Sc) (w : World) (h : RdrAt b D s w) (hD : D ≤ w.heap.size) : Calls Try.prog 101 #[.pointer (some ⟨b, 0, none⟩)] w (ListPost b D s.list w) := by
  obtain ⟨i0, hi, hz0, hz1, hz2⟩ := info_parts info_val
  have HC := Lib.hid (rsmall_any b D s w h)
  have hlt := Sc.small_lt s
  have hbw := h.lt
  unfold ListPost Sc.list
  generalize s.small = L at HC hlt ⊢
  obtain ⟨n, t⟩ := L
  simp only at HC hlt ⊢
  have hlt' : (n : Int) < 256 := by omega
  generalize hV : t.vals n = V
  have HV := Lib.hid hV
  clear hV
  go_enter Try.func101, Try.ntmps101
  go_wp2_with fail
  refine HC.out.mono ?_
  rintro e w1 ⟨rfl, h1, ho1⟩
  have hs1 := ho1.size
  go_wp2_with fail
  go_loopw [3, 4] (fun o n wr => ∃ (k : Nat) (acc : List Val) (t : Sc), n = .int .i64 k ∧ acc.length + k < 256 ∧ RdrAt b D t wr ∧ Only b w wr ∧ OwnF nowhere w.heap.size wr 84 3 valF o acc ∧ Hid (acc ++ (t.vals k).1 = V.1) ∧ Hid ((t.vals k).2 = V.2)) (fun _ n _ => (intOf n).toNat)
  case atStart => exact ⟨n, [], t, rfl, by simpa using hlt, h1, ho1, OwnF.empty, by show _ = _; rw [HV.out]; rfl, by show _ = _; rw [HV.out]⟩
  case round =>
    obtain ⟨k, acc, t, rfl, hk, hr, ho, hO, XX, YY⟩ := hrel
    have hwr := ho.size
    obtain ⟨ra, rc, rfl⟩ := hO.slice
    have HR := Lib.hid hr
    obtain ⟨hf, ao, m, cap, hk0, hS, hn⟩ := hr
    have hbr : b < wr.heap.size := (Array.getElem?_eq_some_iff.1 hk0).1
    obtain ⟨c0, c1, cf⟩ := two_of_heap hk0
    have HO := Lib.hid hO
    have HF := Lib.hid hf
    clear hO hS hn hk0 hf
    match t with
    | .bad e =>
      have hq : (e == 0) = false := by have := HF.out; simpa [Sc.fine] using this
      have E1 : Hid (acc = V.1) := by show _ = _; rw [← XX.out, vals_bad]; simp
      have E2 : Hid (Sc.bad e = V.2) := by show _ = _; rw [← YY.out, vals_bad]
      simp only [Sc.code] at c1
      by_cases hk0 : k = 0
      · subst hk0
        go_wp2
        go_ret
        obtain ⟨a2, c2, e2, hS2⟩ := HO.out.done valF_firm (G := from_ w.heap.size) (by omega) (fun b _ h => h.elim (fun h => h.elim) id)
        rw [e2, ← E1.out, ← E2.out]
        exact ⟨a2, c2, rfl, HR.out, ho, hS2⟩
      · have hk1 : (0 : Int) < k := by omega
        go_wp2
        go_ret
        obtain ⟨a2, c2, e2, hS2⟩ := HO.out.done valF_firm (G := from_ w.heap.size) (by omega) (fun b _ h => h.elim (fun h => h.elim) id)
        rw [e2, ← E1.out, ← E2.out]
        exact ⟨a2, c2, rfl, HR.out, ho, hS2⟩
    | .on l =>
      simp only [Sc.code] at c1
      rcases Nat.eq_zero_or_pos k with hk0 | hk0
      · subst hk0
        have E1 : Hid (acc = V.1) := by show _ = _; rw [← XX.out, vals_none]; simp
        have E2 : Hid (Sc.on l = V.2) := by show _ = _; rw [← YY.out, vals_none]
        go_wp2
        go_ret
        obtain ⟨a2, c2, e2, hS2⟩ := HO.out.done valF_firm (G := from_ w.heap.size) (by omega) (fun b _ h => h.elim (fun h => h.elim) id)
        rw [e2, ← E1.out, ← E2.out]
        exact ⟨a2, c2, rfl, HR.out, ho, hS2⟩
      · obtain ⟨j, rfl⟩ : ∃ j, k = j + 1 := ⟨k - 1, by omega⟩
        have XX2 : Hid ((acc ++ [(Sc.on l).val.1]) ++ (Sc.vals j (Sc.on l).val.2).1 = V.1) := by show _ = _; rw [← XX.out, vals_on]; simp
        have YY2 : Hid ((Sc.vals j (Sc.on l).val.2).2 = V.2) := by show _ = _; rw [← YY.out, vals_on]
        have HL := Lib.hid (Sc.val_len (.on l))
        clear XX YY
        have hk1 : (0 : Int) < (j : Int) + 1 := by omega
        have HS := Lib.hid (rsmall_any b D (.on l) wr HR.out)
        have AL : Hid (acc.length + j < 255) := by show _ < _; omega
        unfold Sc.val at XX2 YY2 HL
        generalize (Sc.on l).small = M at HS XX2 YY2 HL
        obtain ⟨kd, u⟩ := M
        simp only at HS XX2 YY2 HL
        by_cases hk1' : kd = 1
        · subst hk1'
          simp only [if_true] at XX2 YY2 HL
          go_wp2_with fail
          refine HS.out.mono ?_
          rintro e w2 ⟨rfl, h2, ho2⟩
          have hw2 := ho2.size
          have HG := Lib.hid (rsigned_any b D u (w2.alloc (.cells #[.int .i64 1, .int .i64 0, .string ByteArray.empty] 84)) (h2.below (Joins.below_alloc1 _ _)))
          generalize u.long = M at HG XX2 YY2 HL
          obtain ⟨q, u2⟩ := M
          simp only at HG XX2 YY2 HL
          generalize signedI q = z at HG XX2
          go_wp2_with fail
          refine HG.out.mono ?_
          rintro e w3 ⟨rfl, h3, ho3⟩
          have hw3 := ho3.size
          simp only [World.size_alloc] at hw3
          have hvb : w3.heap[w2.heap.size]? = some (.cells #[.int .i64 1, .int .i64 0, .string ByteArray.empty] 84 (0, 0)) := (ho3.block _ (by simp) (by omega)).trans (heap_alloc_new w2 _)
          obtain ⟨v0, v1, v2, vf⟩ := three_cells hvb
          have hvl : w2.heap.size < w3.heap.size := by omega
          have OO := Lib.hid (val_ready HO.out ho2 ho3 hbw ⟨w2.heap.size, 1, none⟩ rfl (.int .i64 z) (.cells #[.int .i64 1, .int .i64 z, .string ByteArray.empty] 84))
          have RR := Lib.hid ((h3.setNew (p := ⟨w2.heap.size, 1, none⟩) (by show w2.heap.size ≠ b; omega) (by show D ≤ w2.heap.size; omega) (.int .i64 z)).below (Joins.below_alloc1 _ (.cells #[.int .i64 1, .int .i64 z, .string ByteArray.empty] 84)))
          have KK := Lib.hid (((((ho.trans ho2).alloc (.cells #[.int .i64 1, .int .i64 0, .string ByteArray.empty] 84)).trans ho3).setNew (p := ⟨w2.heap.size, 1, none⟩) (by show w.heap.size ≤ w2.heap.size; omega) (.int .i64 z)).alloc (.cells #[.int .i64 1, .int .i64 z, .string ByteArray.empty] 84))
          have BB := Lib.hid HO.out.base
          have ALL := AL.out
          have CN : Hid (∀ q y, (valC ⟨1, z, ByteArray.empty⟩)[q]? = some y → World.cell? ((w3.setCell ⟨w2.heap.size, 1, none⟩ (.int .i64 z)).alloc (.cells #[.int .i64 1, .int .i64 z, .string ByteArray.empty] 84)) ((⟨w3.heap.size, 0, none⟩ : Addr).add q) = some y) := by
            show ∀ q y, _
            intro q y hu
            have hh := heap_alloc_new (w3.setCell ⟨w2.heap.size, 1, none⟩ (.int .i64 z)) (.cells #[.int .i64 1, .int .i64 z, .string ByteArray.empty] 84)
            simp only [World.size_setCell] at hh
            rw [Go.WideShapes.add_plain, Nat.zero_add, Lib.cell_of_heap hh]
            simpa [valC] using hu
          go_wp2_with (first
            | (at_builtin; go_loud (refine wpList_append_F rfl _ _ 31 rfl w.heap.size 84 i0 (.agg #[.int .i64 0, .int .i64 0, .string ByteArray.empty]) 3 32 Try.underlying31 hi hz0 hz1 hz2 rfl (by decide) _ acc.length rfl OO.out rfl valF_firm ⟨1, z, ByteArray.empty⟩ (valC ⟨1, z, ByteArray.empty⟩) ⟨w3.heap.size, 0, none⟩ rfl rfl CN.out (fun u hu => by simp [valC] at hu; rcases hu with rfl | rfl | rfl <;> rfl) ⟨rfl, empty_len⟩ (by omega) (by decide) (by simp; omega) ?_; intro ra2 rc2 w5 hown' hgrow hb5))
            | fail)
          exact ⟨⟨j, _, u2, rfl, by (have := AL.out; simp; omega), RR.out.grown hgrow (fun g hg => by (have := BB.out g hg; omega)), KK.out.then hb5, hown', XX2, YY2⟩, by simp [intOf]⟩
        · by_cases hk2' : kd = 2
          · subst hk2'
            rw [if_neg (by omega), if_pos rfl] at XX2 YY2 HL
            go_wp2_with fail
            refine HS.out.mono ?_
            rintro e w2 ⟨rfl, h2, ho2⟩
            have hw2 := ho2.size
            have HG := Lib.hid (rtext_any b D u (w2.alloc (.cells #[.int .i64 2, .int .i64 0, .string ByteArray.empty] 84)) (h2.below (Joins.below_alloc1 _ _)))
            have HTL := Lib.hid (Sc.text_len u)
            generalize u.text = M at HG XX2 YY2 HL HTL
            obtain ⟨z, u2⟩ := M
            simp only at HG XX2 YY2 HL HTL
            go_wp2_with fail
            refine HG.out.mono ?_
            rintro e w3 ⟨rfl, h3, ho3⟩
            have hw3 := ho3.size
            simp only [World.size_alloc] at hw3
            have hvb : w3.heap[w2.heap.size]? = some (.cells #[.int .i64 2, .int .i64 0, .string ByteArray.empty] 84 (0, 0)) := (ho3.block _ (by simp) (by omega)).trans (heap_alloc_new w2 _)
            obtain ⟨v0, v1, v2, vf⟩ := three_cells hvb
            have hvl : w2.heap.size < w3.heap.size := by omega
            have OO := Lib.hid (val_ready HO.out ho2 ho3 hbw ⟨w2.heap.size, 2, none⟩ rfl (.string z) (.cells #[.int .i64 2, .int .i64 0, .string z] 84))
            have RR := Lib.hid ((h3.setNew (p := ⟨w2.heap.size, 2, none⟩) (by show w2.heap.size ≠ b; omega) (by show D ≤ w2.heap.size; omega) (.string z)).below (Joins.below_alloc1 _ (.cells #[.int .i64 2, .int .i64 0, .string z] 84)))
            have KK := Lib.hid (((((ho.trans ho2).alloc (.cells #[.int .i64 2, .int .i64 0, .string ByteArray.empty] 84)).trans ho3).setNew (p := ⟨w2.heap.size, 2, none⟩) (by show w.heap.size ≤ w2.heap.size; omega) (.string z)).alloc (.cells #[.int .i64 2, .int .i64 0, .string z] 84))
            have BB := Lib.hid HO.out.base
            have ALL := AL.out
            have CN : Hid (∀ q y, (valC ⟨2, 0, z⟩)[q]? = some y → World.cell? ((w3.setCell ⟨w2.heap.size, 2, none⟩ (.string z)).alloc (.cells #[.int .i64 2, .int .i64 0, .string z] 84)) ((⟨w3.heap.size, 0, none⟩ : Addr).add q) = some y) := by
              show ∀ q y, _
              intro q y hu
              have hh := heap_alloc_new (w3.setCell ⟨w2.heap.size, 2, none⟩ (.string z)) (.cells #[.int .i64 2, .int .i64 0, .string z] 84)
              simp only [World.size_setCell] at hh
              rw [Go.WideShapes.add_plain, Nat.zero_add, Lib.cell_of_heap hh]
              simpa [valC] using hu
            go_wp2_with (first
              | (at_builtin; go_loud (refine wpList_append_F rfl _ _ 31 rfl w.heap.size 84 i0 (.agg #[.int .i64 0, .int .i64 0, .string ByteArray.empty]) 3 32 Try.underlying31 hi hz0 hz1 hz2 rfl (by decide) _ acc.length rfl OO.out rfl valF_firm ⟨2, 0, z⟩ (valC ⟨2, 0, z⟩) ⟨w3.heap.size, 0, none⟩ rfl rfl CN.out (fun u hu => by simp [valC] at hu; rcases hu with rfl | rfl | rfl <;> rfl) ⟨rfl, text_max HTL.out⟩ (by omega) (by decide) (by simp; omega) ?_; intro ra2 rc2 w5 hown' hgrow hb5))
              | fail)
            exact ⟨⟨j, _, u2, rfl, by (have := AL.out; simp; omega), RR.out.grown hgrow (fun g hg => by (have := BB.out g hg; omega)), KK.out.then hb5, hown', XX2, YY2⟩, by simp [intOf]⟩
          · rw [if_neg hk1', if_neg hk2'] at XX2 YY2 HL
            have q1 : ((kd : Int) == 1) = false := by simp; omega
            have q2 : ((kd : Int) == 2) = false := by simp; omega
            clear hk1' hk2'
            go_wp2_with fail
            refine HS.out.mono ?_
            rintro e w2 ⟨rfl, h2, ho2⟩
            have hw2 := ho2.size
            have HG := Lib.hid (rfail_any b D u 4 (w2.alloc (.cells #[.int .i64 kd, .int .i64 0, .string ByteArray.empty] 84)) (h2.below (Joins.below_alloc1 _ _)) (by decide))
            generalize u.stop 4 = u2 at HG XX2 YY2 HL
            go_wp2_with fail
            refine HG.out.mono ?_
            rintro e w3 ⟨rfl, h3, ho3⟩
            have hw3 := ho3.size
            simp only [World.size_alloc] at hw3
            have hvb : w3.heap[w2.heap.size]? = some (.cells #[.int .i64 kd, .int .i64 0, .string ByteArray.empty] 84 (0, 0)) := (ho3.block _ (by simp) (by omega)).trans (heap_alloc_new w2 _)
            obtain ⟨v0, v1, v2, vf⟩ := three_cells hvb
            have hvl : w2.heap.size < w3.heap.size := by omega
            have OO := Lib.hid (val_ready0 HO.out ho2 ho3 hbw (.cells #[.int .i64 kd, .int .i64 0, .string ByteArray.empty] 84))
            have RR := Lib.hid (h3.below (Joins.below_alloc1 _ (.cells #[.int .i64 kd, .int .i64 0, .string ByteArray.empty] 84)))
            have KK := Lib.hid ((((ho.trans ho2).alloc (.cells #[.int .i64 kd, .int .i64 0, .string ByteArray.empty] 84)).trans ho3).alloc (.cells #[.int .i64 kd, .int .i64 0, .string ByteArray.empty] 84))
            have BB := Lib.hid HO.out.base
            have ALL := AL.out
            have CN : Hid (∀ q y, (valC ⟨kd, 0, ByteArray.empty⟩)[q]? = some y → World.cell? (w3.alloc (.cells #[.int .i64 kd, .int .i64 0, .string ByteArray.empty] 84)) ((⟨w3.heap.size, 0, none⟩ : Addr).add q) = some y) := by
              show ∀ q y, _
              intro q y hu
              have hh := heap_alloc_new w3 (.cells #[.int .i64 kd, .int .i64 0, .string ByteArray.empty] 84)
              rw [Go.WideShapes.add_plain, Nat.zero_add, Lib.cell_of_heap hh]
              simpa [valC] using hu
            go_wp2_with (first
              | (at_builtin; go_loud (refine wpList_append_F rfl _ _ 31 rfl w.heap.size 84 i0 (.agg #[.int .i64 0, .int .i64 0, .string ByteArray.empty]) 3 32 Try.underlying31 hi hz0 hz1 hz2 rfl (by decide) _ acc.length rfl OO.out rfl valF_firm ⟨kd, 0, ByteArray.empty⟩ (valC ⟨kd, 0, ByteArray.empty⟩) ⟨w3.heap.size, 0, none⟩ rfl rfl CN.out (fun u hu => by simp [valC] at hu; rcases hu with rfl | rfl | rfl <;> rfl) ⟨rfl, empty_len⟩ (by omega) (by decide) (by simp; omega) ?_; intro ra2 rc2 w5 hown' hgrow hb5))
              | fail)
            exact ⟨⟨j, _, u2, rfl, by (have := AL.out; simp; omega), RR.out.grown hgrow (fun g hg => by (have := BB.out g hg; omega)), KK.out.then hb5, hown', XX2, YY2⟩, by simp [intOf]⟩
end Go.Proofs.Ytciomaeieggbiaa
