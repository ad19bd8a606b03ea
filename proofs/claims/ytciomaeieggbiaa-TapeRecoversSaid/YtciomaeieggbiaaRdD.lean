/-
  The walk of wire.Decode.
-/
import Derived.Test.YtciomaeieggbiaaRdO
namespace Go.Proofs.Ytciomaeieggbiaa
open Go.RowKit
set_option linter.unusedVariables false
set_option linter.unusedSimpArgs false

def DecPost (l : List UInt8) (w : World) (x : Ending) (w' : World) : Prop := ∃ ao cap, x = .returned (.tuple #[(decO l).val (.slice ao (decV l).length cap), .int .i64 (decE l)]) ∧ Below w.heap.size w w' ∧ SlF (from_ w.heap.size) w' 3 valF ao (decV l).length cap (decV l)
theorem dec_bad {l : List UInt8} (h : decE l ≠ 0) {w w' : World} {x : Ending} {e : Int} (he : decE l = e) (hx : x = .returned (.tuple #[.agg #[.int .i64 0, .string ByteArray.empty, .int .i64 0, .int .i64 0, .slice none 0 0, .int .i64 0, .bool false], .int .i64 e])) (hb : Below w.heap.size w w') : DecPost l w x w' := by
  unfold DecPost
  have e1 : decO l = noOpn := by unfold decO; rw [if_neg h]
  have e2 : decV l = [] := by unfold decV; rw [if_neg h]
  rw [e1, e2, he]
  exact ⟨none, 0, hx, hb, SlF.nil⟩
theorem sevens_block {w : World} {g : Nat} {a0 a1 a2 a3 a4 a5 a6 : Value} {t : TypeId} (h : w.heap[g]? = some (.cells #[a0, a1, a2, a3, a4, a5, a6] t (0, 0))) (x0 x1 x2 x3 x4 x5 x6 : Value) :
    (((((((w.setCell ⟨g, 0, none⟩ x0).setCell ⟨g, 1, none⟩ x1).setCell ⟨g, 2, none⟩ x2).setCell ⟨g, 3, none⟩ x3).setCell ⟨g, 4, none⟩ x4).setCell ⟨g, 5, none⟩ x5).setCell ⟨g, 6, none⟩ x6).heap[g]? = some (.cells #[x0, x1, x2, x3, x4, x5, x6] t (0, 0)) := by
  simp [World.setCell, Array.getElem?_modify, h]
theorem below_sevens {B g : Nat} {u w : World} (h : Below B u w) (hg : B ≤ g) (x0 x1 x2 x3 x4 x5 x6 : Value) : Below B u (((((((w.setCell ⟨g, 0, none⟩ x0).setCell ⟨g, 1, none⟩ x1).setCell ⟨g, 2, none⟩ x2).setCell ⟨g, 3, none⟩ x3).setCell ⟨g, 4, none⟩ x4).setCell ⟨g, 5, none⟩ x5).setCell ⟨g, 6, none⟩ x6) :=
  ((((((h.setCell (p := ⟨g, 0, none⟩) hg x0).setCell (p := ⟨g, 1, none⟩) hg x1).setCell (p := ⟨g, 2, none⟩) hg x2).setCell (p := ⟨g, 3, none⟩) hg x3).setCell (p := ⟨g, 4, none⟩) hg x4).setCell (p := ⟨g, 5, none⟩) hg x5).setCell (p := ⟨g, 6, none⟩) hg x6
theorem below_alloc_drew {B : Nat} {u w : World} (h : Below B u w) (hB : B ≤ w.heap.size) (o : Obj) : Below B u (w.alloc o).drew := (h.alloc hB o).drew
theorem block_drew {w : World} {g : Nat} {x : Obj} (h : w.heap[g]? = some x) : w.drew.heap[g]? = some x := h
theorem block_alloc_drew {w : World} {g : Nat} {x : Obj} (h : w.heap[g]? = some x) (y : Obj) : (w.alloc y).drew.heap[g]? = some x :=
  (Below.heap_alloc w y g (Array.getElem?_eq_some_iff.1 h).1).trans h
set_option maxHeartbeats 1000000 in
set_option maxRecDepth 100000 in
theorem decode_any (F : Nat → Prop) (ao : Option Addr) (n cap : Nat) (l : List UInt8) (w : World) (hX : SlF F w 1 byteF ao n cap l) : Calls Try.prog 69 #[.slice ao n cap] w (DecPost l w) := by
  have NL : Hid (n = l.length) := hX.len
  by_cases hn : 20000 < n
  · have E : Hid (decE l = 1) := by show _ = _; unfold decE; rw [if_pos (by rw [← NL.out]; exact hn)]
    have hn' : (20000 : Int) < n := by omega
    clear hn
    go_enter Try.func69, Try.ntmps69
    go_wp2
    refine bodyPost_ret (v := .tuple #[.agg #[.int .i64 0, .string ByteArray.empty, .int .i64 0, .int .i64 0, .slice none 0 0, .int .i64 0, .bool false], .int .i64 1]) (by simp [results, Try.results69, go_sem, World.cell?_setCell_other] <;> rfl) rfl ?_
    exact dec_bad (by rw [E.out]; decide) E.out rfl (by repeat (first | exact Below.refl _ _ | assumption | refine below_step ?_ (by assumption) | refine below_step ?_ (Joins.below_draws _ _ _) | (refine Below.alloc ?_ (by first | omega | (simp; done) | (simp; omega)) _) | (refine Below.setCell ?_ (by first | omega | (simp; done) | (simp; omega)) _) | refine Below.drew ?_))
  · have hn' : ¬ (20000 : Int) < n := by omega
    have HC := Lib.hid (cloneB_any F ao n cap l (w.alloc (opC 0 ByteArray.empty 0 0 (.slice none 0 0) 0 false)) (hX.below byteF_firm (Joins.below_alloc1 _ _)) (by omega))
    unfold opC at HC
    have DE : Hid (decE l = match (Sc.on l).op with | (_, .bad e) => e | (ov, .on r) => if 0 < r.length then 4 else wireE ov.1 ov.2) := by show _ = _; unfold decE; rw [if_neg (by rw [← NL.out]; exact hn)]; rfl
    have OF := Lib.hid (Sc.op_fine (s := .on l) trivial)
    have OL := Lib.hid (Sc.op_len (.on l))
    have EO : Hid (decE l = 0 → decO l = (Sc.on l).op.1.1 ∧ decV l = (Sc.on l).op.1.2) := fun h => ⟨by unfold decO; rw [if_pos h], by unfold decV; rw [if_pos h]⟩
    have HOP := fun b wx h hD => Lib.hid (rop_any b b (.on l) wx h hD)
    unfold OpPost at HOP
    generalize (Sc.on l).op = R at DE OF OL EO HOP
    obtain ⟨⟨o, vs⟩, u⟩ := R
    simp only at DE OF OL EO HOP
    obtain ⟨k, t, st, sp, d, c⟩ := o
    unfold Opn.val at HOP
    simp only at HOP OL
    clear hn
    go_enter Try.func69, Try.ntmps69
    go_wp2_with fail
    refine HC.out.mono ?_
    rintro e w1 ⟨ao1, cap1, rfl, hb1, hS1⟩
    have hs1 := hb1.size
    simp only [World.size_alloc] at hs1
    have hrb1 : w1.heap[w.heap.size]? = _ := (hb1.block _ (by simp)).trans (heap_alloc_new w _)
    have R0 : RdrAt w1.heap.size w1.heap.size (.on l) (w1.alloc (.cells #[.slice ao1 n cap1, .int .i64 0] 145)) :=
      ⟨trivial, ao1, n, cap1, heap_alloc_new w1 _, hS1.same byteF_firm ⟨by simp, fun k hF hlt => ⟨⟨by omega, hlt⟩, Below.heap_alloc _ _ _ hlt⟩⟩, fun h => absurd rfl h⟩
    go_wp2_with fail
    refine (HOP _ _ R0 (by simp)).out.mono ?_
    rintro e w2 ⟨ao2, cap2, rfl, h2, ho2, hS2⟩
    have hs2 := ho2.size
    simp only [World.size_alloc] at hs2
    have hrb2 : w2.heap[w.heap.size]? = _ := (ho2.block _ (by simp; omega) (by omega)).trans ((Below.heap_alloc _ _ _ (by omega)).trans hrb1)
    have HRB := Lib.hid hrb2
    obtain ⟨r0, r1, r2, r3, r4, r5, r6, rf⟩ := seven_cells hrb2
    simp only [World.size_alloc] at hS2
    have HH2 := Lib.hid h2
    have HS2 := Lib.hid hS2
    have KA : Hid (Below w.heap.size w w2) := (((Below.refl _ w).alloc (Nat.le_refl _) _).trans (hb1.mono (by simp))).trans (((Below.refl _ w1).alloc (by omega) _).trans (ho2.toBelow (by omega) (by simp; omega)))
    obtain ⟨hf, ao3, m3, cap3, hk3, hS3, hn3⟩ := h2
    obtain ⟨c0, c1, cf⟩ := two_of_heap hk3
    have hl1 : w.heap.size < w2.heap.size := by omega
    have hl2 : w1.heap.size < w2.heap.size := by omega
    have hne : w1.heap.size ≠ w.heap.size := by omega
    have hne2 : w.heap.size ≠ w1.heap.size := by omega
    clear hrb1 hrb2 hS2 hS1
    match u with
    | .bad e =>
      have hq : (e == 0) = false := by simpa [Sc.fine] using hf
      have hq' : (e != 0) = true := by simpa [Sc.fine] using hf
      have HE : Hid (e ≠ 0) := hf
      simp only [Sc.code] at c1
      clear hf hS3 hn3 hk3
      go_wp2
      go_region
      go_simp
      rename_i K1 h1 K2 h2
      apply h2
      generalize hWW : World.drew _ = WW
      have hrw : WW.heap[w.heap.size]? = some (.cells #[.int .i64 0, .string ByteArray.empty, .int .i64 0, .int .i64 0, .slice none 0 0, .int .i64 0, .bool false] 33 (0, 0)) := by rw [← hWW]; exact block_alloc_drew (sevens_block HRB.out _ _ _ _ _ _ _) _
      go_wp2
      obtain ⟨g0, g1, g2, g3, g4, g5, g6, gf⟩ := seven_cells hrw
      refine bodyPost_ret (v := .tuple #[.agg #[.int .i64 0, .string ByteArray.empty, .int .i64 0, .int .i64 0, .slice none 0 0, .int .i64 0, .bool false], .int .i64 e]) (by simp [results, Try.results69, go_sem, g0, g1, g2, g3, g4, g5, g6]) rfl ?_
      subst hWW
      exact dec_bad (by rw [DE.out]; exact HE.out) DE.out rfl (below_alloc_drew (below_sevens KA.out (Nat.le_refl _) _ _ _ _ _ _ _) (by simp; omega) _)
    | .on r =>
      simp only [Sc.code] at c1
      obtain rfl : m3 = r.length := hS3.len
      have HK3 := Lib.hid hk3
      clear hf hS3 hn3 hk3
      rcases Nat.eq_zero_or_pos r.length with hr | hr
      · have DE2 : Hid (decE l = wireE ⟨k, t, st, sp, d, c⟩ vs) := by show _ = _; rw [DE.out]; exact if_neg (by omega)
        rw [hr] at c0 HK3
        have hV := (HS2.out.below valF_firm (Joins.below_alloc1 w2 (.cells #[.int .i64 k, .string t, .int .i64 st, .int .i64 sp, .slice ao2 vs.length cap2, .int .i64 d, .bool c] 33))).toR
        have HW := Lib.hid (wireCheck_any ⟨k, t, st, sp, d, c⟩ ao2 vs.length cap2 vs _ (text_max OL.out) hV)
        unfold Opn.val at HW
        simp only at HW
        generalize wireE ⟨k, t, st, sp, d, c⟩ vs = E at HW DE2
        clear hV hr
        go_wp2_with fail
        refine HW.out.mono ?_
        rintro e w3 ⟨rfl, hb3⟩
        have hs3 := hb3.size
        simp only [World.size_alloc] at hs3
        have hrb3 : w3.heap[w.heap.size]? = _ := (hb3.block _ (by simp; omega)).trans ((Below.heap_alloc _ _ _ (by omega)).trans HRB.out)
        have hk4 : w3.heap[w1.heap.size]? = _ := (hb3.block _ (by simp; omega)).trans ((Below.heap_alloc _ _ _ (by omega)).trans HK3.out)
        have hob3 : w3.heap[w2.heap.size]? = _ := (hb3.block _ (by simp)).trans (heap_alloc_new w2 _)
        clear r0 r1 r2 r3 r4 r5 r6 rf c0 c1 cf
        obtain ⟨r0, r1, r2, r3, r4, r5, r6, rf⟩ := seven_cells hrb3
        obtain ⟨c0, c1, cf⟩ := two_of_heap hk4
        obtain ⟨o0, o1, o2, o3, o4, o5, o6, of⟩ := seven_cells hob3
        have hl3 : w.heap.size < w3.heap.size := by omega
        have hl4 : w1.heap.size < w3.heap.size := by omega
        have hl5 : w2.heap.size < w3.heap.size := by omega
        have ne1 : w2.heap.size ≠ w1.heap.size := by omega
        have ne2 : w1.heap.size ≠ w2.heap.size := by omega
        have ne3 : w2.heap.size ≠ w.heap.size := by omega
        have ne4 : w.heap.size ≠ w2.heap.size := by omega
        have KB : Hid (Below w.heap.size w w3) := (KA.out.alloc (by omega) _).trans (hb3.mono (by simp; omega))
        have HS3 := Lib.hid ((HS2.out.below valF_firm (Joins.below_alloc1 w2 (.cells #[.int .i64 k, .string t, .int .i64 st, .int .i64 sp, .slice ao2 vs.length cap2, .int .i64 d, .bool c] 33))).below valF_firm hb3)
        have HRB3 := Lib.hid hrb3
        clear hrb3 hk4 hob3
        by_cases hE : E = 0
        · subst hE
          go_wp2
          have hrw := sevens_block ((Below.heap_setCell w3 ⟨w1.heap.size, 1, none⟩ (.int .i64 0) w.heap.size hne2).trans HRB3.out) (.int .i64 k) (.string t) (.int .i64 st) (.int .i64 sp) (.slice ao2 vs.length cap2) (.int .i64 d) (.bool c)
          obtain ⟨g0, g1, g2, g3, g4, g5, g6, gf⟩ := seven_cells hrw
          refine bodyPost_ret (v := .tuple #[.agg #[.int .i64 k, .string t, .int .i64 st, .int .i64 sp, .slice ao2 vs.length cap2, .int .i64 d, .bool c], .int .i64 0]) (by simp only [results, Try.results69]; generalize World.setCell (World.setCell _ _ _) _ _ = WW at *; simp [go_sem, g0, g1, g2, g3, g4, g5, g6]) rfl ?_
          obtain ⟨e1, e2⟩ := EO.out DE2.out
          unfold DecPost
          rw [e1, e2, DE2.out]
          exact ⟨ao2, cap2, rfl, below_sevens (KB.out.setCell (p := ⟨w1.heap.size, 1, none⟩) (by show w.heap.size ≤ w1.heap.size; omega) _) (Nat.le_refl _) _ _ _ _ _ _ _, (((HS3.out.setLow valF_firm (p := ⟨w1.heap.size, 1, none⟩) (by show w1.heap.size < _; omega) _).sevens valF_firm (by omega) _ _ _ _ _ _ _).above valF_firm (by omega))⟩
        · have hE1 : (E == 0) = false := by simpa using hE
          have hE2 : (E != 0) = true := by simpa using hE
          have HE := Lib.hid hE
          clear hE
          go_wp2
          go_region
          go_simp
          rename_i K1 h1 K2 h2
          apply h2
          generalize hWW : World.drew _ = WW
          have hrw : WW.heap[w.heap.size]? = some (.cells #[.int .i64 0, .string ByteArray.empty, .int .i64 0, .int .i64 0, .slice none 0 0, .int .i64 0, .bool false] 33 (0, 0)) := by rw [← hWW]; exact block_drew (sevens_block ((Below.heap_setCell w3 ⟨w1.heap.size, 1, none⟩ (.int .i64 E) w.heap.size hne2).trans HRB3.out) _ _ _ _ _ _ _)
          go_wp2
          obtain ⟨g0, g1, g2, g3, g4, g5, g6, gf⟩ := seven_cells hrw
          refine bodyPost_ret (v := .tuple #[.agg #[.int .i64 0, .string ByteArray.empty, .int .i64 0, .int .i64 0, .slice none 0 0, .int .i64 0, .bool false], .int .i64 E]) (by simp [results, Try.results69, go_sem, g0, g1, g2, g3, g4, g5, g6]) rfl ?_
          subst hWW
          exact dec_bad (by rw [DE2.out]; exact HE.out) DE2.out rfl ((below_sevens (KB.out.setCell (p := ⟨w1.heap.size, 1, none⟩) (by show w.heap.size ≤ w1.heap.size; omega) _) (Nat.le_refl _) _ _ _ _ _ _ _).drew)
      · have hr' : (0 : Int) < r.length := by omega
        have DE2 : Hid (decE l = 4) := by show _ = _; rw [DE.out]; exact if_pos hr
        go_wp2_with fail
        refine (rfail_any _ _ _ 4 _ (HH2.out.below (Joins.below_alloc1 _ _)) (by decide)).mono ?_
        rintro e w3 ⟨rfl, h3, ho3⟩
        have hs3 := ho3.size
        simp only [World.size_alloc] at hs3
        have hrb3 : w3.heap[w.heap.size]? = _ := (ho3.block _ (by simp; omega) (by omega)).trans ((Below.heap_alloc _ _ _ (by omega)).trans HRB.out)
        obtain ⟨hf, ao4, m4, cap4, hk4, hS4, hn4⟩ := h3
        clear r0 r1 r2 r3 r4 r5 r6 rf c0 c1 cf
        obtain ⟨r0, r1, r2, r3, r4, r5, r6, rf⟩ := seven_cells hrb3
        obtain ⟨c0, c1, cf⟩ := two_of_heap hk4
        simp only [Sc.stop, Sc.code] at c1
        have hl3 : w.heap.size < w3.heap.size := by omega
        have hl4 : w1.heap.size < w3.heap.size := by omega
        have KB : Hid (Below w.heap.size w w3) := (KA.out.alloc (by omega) _).trans (ho3.toBelow (by omega) (by simp; omega))
        have HRB3 := Lib.hid hrb3
        clear hf hS4 hn4 hk4 hrb3 hr
        go_wp2
        go_region
        go_simp
        rename_i K1 h1 K2 h2
        apply h2
        generalize hWW : World.drew _ = WW
        have hrw : WW.heap[w.heap.size]? = some (.cells #[.int .i64 0, .string ByteArray.empty, .int .i64 0, .int .i64 0, .slice none 0 0, .int .i64 0, .bool false] 33 (0, 0)) := by rw [← hWW]; exact block_drew (sevens_block HRB3.out _ _ _ _ _ _ _)
        go_wp2
        obtain ⟨g0, g1, g2, g3, g4, g5, g6, gf⟩ := seven_cells hrw
        refine bodyPost_ret (v := .tuple #[.agg #[.int .i64 0, .string ByteArray.empty, .int .i64 0, .int .i64 0, .slice none 0 0, .int .i64 0, .bool false], .int .i64 4]) (by simp [results, Try.results69, go_sem, g0, g1, g2, g3, g4, g5, g6]) rfl ?_
        subst hWW
        exact dec_bad (by rw [DE2.out]; decide) DE2.out rfl ((below_sevens KB.out (Nat.le_refl _) _ _ _ _ _ _ _).drew)
end Go.Proofs.Ytciomaeieggbiaa
