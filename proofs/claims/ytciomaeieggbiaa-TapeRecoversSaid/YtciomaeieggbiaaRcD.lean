/-
  Acts that are read off a tape: what they are, in plain Lean; the walk of tape.decode.
-/
import Derived.Test.YtciomaeieggbiaaScA
import Derived.Test.YtciomaeieggbiaaScI
import Derived.Test.YtciomaeieggbiaaAppL
namespace Go.Proofs.Ytciomaeieggbiaa
open Go.RowKit
set_option linter.unusedVariables false
set_option linter.unusedSimpArgs false

theorem opOf_any (F : Nat → Prop) (ao : Option Addr) (n cap : Nat) (l : List UInt8) (w : World) (hX : SlF F w 1 byteF ao n cap l) : Calls Try.prog 44 #[.slice ao n cap] w (DecPost l w) := by
  by_cases hn : 20000 < n
  · exact opOf_long F ao n cap l w hX hn
  · by_cases h1 : (Sc.on l).small.1 = 1
    · exact opOf_insert F ao n cap l w hX hn h1
    · by_cases h2 : (Sc.on l).small.1 = 2
      · exact opOf_advance F ao n cap l w hX hn h2
      · by_cases h3 : (Sc.on l).small.1 = 3
        · exact opOf_query F ao n cap l w hX hn h3
        · exact opOf_else F ao n cap l w hX hn h1 h2 h3

/-- Bytes that are an act; whether they are one. -/
def isSw (l : List UInt8) : Bool := match l with | [] => false | c :: _ => c.toNat == 0
def decA (l : List UInt8) : Ac × List Val := if isSw l = true then (⟨4, noOpn, 0, ⟨(l.drop 1).toArray⟩⟩, []) else (⟨1, decO l, 0, ByteArray.empty⟩, decV l)
def decK (l : List UInt8) : Bool := if isSw l = true then decide (l.length ≤ 3001) else decide (decE l = 0)
/-- The acts that are whole, from a place on; where they end. -/
def recF : Nat → List UInt8 → Nat → List (Ac × List Val) × Nat
  | 0, _, p => ([], p)
  | k + 1, xs, p =>
    if p + 2 ≤ xs.length ∧ p + 2 + (256 * (xs.getD p 0).toNat + (xs.getD (p + 1) 0).toNat) ≤ xs.length ∧ decK ((xs.drop (p + 2)).take (256 * (xs.getD p 0).toNat + (xs.getD (p + 1) 0).toNat)) = true then
      (decA ((xs.drop (p + 2)).take (256 * (xs.getD p 0).toNat + (xs.getD (p + 1) 0).toNat)) :: (recF k xs (p + 2 + (256 * (xs.getD p 0).toNat + (xs.getD (p + 1) 0).toNat))).1, (recF k xs (p + 2 + (256 * (xs.getD p 0).toNat + (xs.getD (p + 1) 0).toNat))).2)
    else ([], p)

def Ac.cells (a : Ac) (v : Value) : List Value := [.int .i64 a.kind, .int .i64 a.op.kind, .string a.op.type, .int .i64 a.op.start, .int .i64 a.op.stop, v, .int .i64 a.op.delta, .bool a.op.collect, .int .i64 a.pick, .string a.source]
/-- An act in its row: its values hang on it. -/
def actF : (Nat → Prop) → World → List Value → Ac × List Val → Prop := fun F w row x => ∃ vo vcap, row = x.1.cells (.slice vo x.2.length vcap) ∧ SlF F w 3 valF vo x.2.length vcap x.2 ∧ x.1.op.type.size ≤ maxLen ∧ x.1.source.size ≤ maxLen
theorem actF_firm : Firm actF := fun F G w w' row x hs h => by
  obtain ⟨vo, vcap, h1, h2, h3⟩ := h
  exact ⟨vo, vcap, h1, h2.same valF_firm hs, h3⟩
def ActPost (A : Ac × List Val) (ok : Bool) (w : World) (x : Ending) (w' : World) : Prop :=
  ∃ vo vcap, x = .returned (.tuple #[A.1.val (.slice vo A.2.length vcap), .bool ok]) ∧ Below w.heap.size w w' ∧ SlF (from_ w.heap.size) w' 3 valF vo A.2.length vcap A.2

theorem ten_cells {w : World} {b : Nat} {a0 a1 a2 a3 a4 a5 a6 a7 a8 a9 : Value} {t : TypeId} (h : w.heap[b]? = some (.cells #[a0, a1, a2, a3, a4, a5, a6, a7, a8, a9] t (0, 0))) :
    w.cell? ⟨b, 0, none⟩ = some a0 ∧ w.cell? ⟨b, 1, none⟩ = some a1 ∧ w.cell? ⟨b, 2, none⟩ = some a2 ∧ w.cell? ⟨b, 3, none⟩ = some a3 ∧ w.cell? ⟨b, 4, none⟩ = some a4 ∧ w.cell? ⟨b, 5, none⟩ = some a5 ∧ w.cell? ⟨b, 6, none⟩ = some a6 ∧ w.cell? ⟨b, 7, none⟩ = some a7 ∧ w.cell? ⟨b, 8, none⟩ = some a8 ∧ w.cell? ⟨b, 9, none⟩ = some a9 ∧ ∀ o, w.frozen? ⟨b, o, none⟩ = false :=
  ⟨by rw [Lib.cell_of_heap h]; rfl, by rw [Lib.cell_of_heap h]; rfl, by rw [Lib.cell_of_heap h]; rfl, by rw [Lib.cell_of_heap h]; rfl, by rw [Lib.cell_of_heap h]; rfl, by rw [Lib.cell_of_heap h]; rfl, by rw [Lib.cell_of_heap h]; rfl, by rw [Lib.cell_of_heap h]; rfl, by rw [Lib.cell_of_heap h]; rfl, by rw [Lib.cell_of_heap h]; rfl, fun o => Lib.frozen_of_heap h o⟩
theorem dec_type_len {l : List UInt8} : (decO l).type.size ≤ maxLen := text_max (decO_len l)

theorem tens_block {w : World} {g : Nat} {a0 a1 a2 a3 a4 a5 a6 a7 a8 a9 : Value} {t : TypeId} (h : w.heap[g]? = some (.cells #[a0, a1, a2, a3, a4, a5, a6, a7, a8, a9] t (0, 0))) (x0 x1 x2 x3 x4 x5 x6 x7 x8 x9 : Value) :
    ((((((((((w.setCell ⟨g, 0, none⟩ x0).setCell ⟨g, 1, none⟩ x1).setCell ⟨g, 2, none⟩ x2).setCell ⟨g, 3, none⟩ x3).setCell ⟨g, 4, none⟩ x4).setCell ⟨g, 5, none⟩ x5).setCell ⟨g, 6, none⟩ x6).setCell ⟨g, 7, none⟩ x7).setCell ⟨g, 8, none⟩ x8).setCell ⟨g, 9, none⟩ x9).heap[g]? = some (.cells #[x0, x1, x2, x3, x4, x5, x6, x7, x8, x9] t (0, 0)) := by
  simp [World.setCell, Array.getElem?_modify, h]
theorem below_tens {B g : Nat} {u w : World} (h : Below B u w) (hg : B ≤ g) (x0 x1 x2 x3 x4 x5 x6 x7 x8 x9 : Value) : Below B u ((((((((((w.setCell ⟨g, 0, none⟩ x0).setCell ⟨g, 1, none⟩ x1).setCell ⟨g, 2, none⟩ x2).setCell ⟨g, 3, none⟩ x3).setCell ⟨g, 4, none⟩ x4).setCell ⟨g, 5, none⟩ x5).setCell ⟨g, 6, none⟩ x6).setCell ⟨g, 7, none⟩ x7).setCell ⟨g, 8, none⟩ x8).setCell ⟨g, 9, none⟩ x9) :=
  (((((((((h.setCell (p := ⟨g, 0, none⟩) hg x0).setCell (p := ⟨g, 1, none⟩) hg x1).setCell (p := ⟨g, 2, none⟩) hg x2).setCell (p := ⟨g, 3, none⟩) hg x3).setCell (p := ⟨g, 4, none⟩) hg x4).setCell (p := ⟨g, 5, none⟩) hg x5).setCell (p := ⟨g, 6, none⟩) hg x6).setCell (p := ⟨g, 7, none⟩) hg x7).setCell (p := ⟨g, 8, none⟩) hg x8).setCell (p := ⟨g, 9, none⟩) hg x9
theorem SlF.tens {α : Type} {B k g : Nat} {w : World} {R : (Nat → Prop) → World → List Value → α → Prop} {ao : Option Addr} {n cap : Nat} {xs : List α} (h : SlF (from_ B) w k R ao n cap xs) (hR : Firm R) (hg : g < B) (x0 x1 x2 x3 x4 x5 x6 x7 x8 x9 : Value) : SlF (from_ B) ((((((((((w.setCell ⟨g, 0, none⟩ x0).setCell ⟨g, 1, none⟩ x1).setCell ⟨g, 2, none⟩ x2).setCell ⟨g, 3, none⟩ x3).setCell ⟨g, 4, none⟩ x4).setCell ⟨g, 5, none⟩ x5).setCell ⟨g, 6, none⟩ x6).setCell ⟨g, 7, none⟩ x7).setCell ⟨g, 8, none⟩ x8).setCell ⟨g, 9, none⟩ x9) k R ao n cap xs :=
  (((((((((h.setLow hR (p := ⟨g, 0, none⟩) hg x0).setLow hR (p := ⟨g, 1, none⟩) hg x1).setLow hR (p := ⟨g, 2, none⟩) hg x2).setLow hR (p := ⟨g, 3, none⟩) hg x3).setLow hR (p := ⟨g, 4, none⟩) hg x4).setLow hR (p := ⟨g, 5, none⟩) hg x5).setLow hR (p := ⟨g, 6, none⟩) hg x6).setLow hR (p := ⟨g, 7, none⟩) hg x7).setLow hR (p := ⟨g, 8, none⟩) hg x8).setLow hR (p := ⟨g, 9, none⟩) hg x9

set_option maxHeartbeats 2000000 in
set_option maxRecDepth 100000 in
theorem decodeAct_swap (F : Nat → Prop) (ao : Option Addr) (n cap : Nat) (c : UInt8) (r : List UInt8) (w : World) (hX : SlF F w 1 byteF ao n cap (c :: r)) (hc : c.toNat = 0) : Calls Try.prog 43 #[.slice ao n cap] w (ActPost (⟨4, noOpn, 0, ⟨r.toArray⟩⟩, []) (decide (r.length ≤ 3000)) w) := by
  have hle := hX.le
  obtain rfl : n = r.length + 1 := hX.len
  obtain ⟨g, off, row, hix, hgF, hglt, hrow, hrr⟩ := hX.index (P := Try.prog) Try.underlying34 size_byte (i := 0) (by simp)
  have hrr3 : row = [.int .u8 c.toNat] := hrr
  subst hrr3
  have d0 := hrow.one
  simp only [Nat.zero_mul, Nat.add_zero, Int.natCast_zero] at hix d0
  rw [hc] at d0
  have hcut : ∀ wx, (Instr.sliceAt 34 (.slice ao (r.length + 1) cap) (some (.int .i64 1)) none none).run Try.prog wx = .ok (.slice (if cap = 1 then ao else ao.map (·.add (1 * 1))) (r.length + 1 - 1) (cap - 1)) wx := fun wx => run_from (P := Try.prog) Try.underlying34 size_byte ao (r.length + 1) cap 1 (by omega) wx
  have hss := hX.from 1 (by omega)
  have HCV := fun (w' : World) (h : Below w.heap.size w w') => convert_bytes (P := Try.prog) (src := 34) (dst := 9) Try.underlying34 Try.underlying5 Try.underlying9 (hss.below byteF_firm h)
  simp only [List.drop_succ_cons, List.drop_zero] at HCV
  have HC2 := HCV _ (Joins.below_alloc1 w (.cells #[.int .i64 0, .int .i64 0, .string ⟨#[]⟩, .int .i64 0, .int .i64 0, .slice none 0 0, .int .i64 0, .bool false, .int .i64 0, .string ⟨#[]⟩] 41))
  generalize hXX : (if cap = 1 then ao else ao.map (·.add (1 * 1))) = X at hcut HC2
  clear hXX HCV hss hrr
  simp only [Nat.add_sub_cancel] at hcut HC2
  have e1 : ((r.length : Int) + 1 - 1) = r.length := by omega
  by_cases hk : r.length ≤ 3000
  · have hk' : (r.length : Int) ≤ 3000 := by omega
    go_enter Try.func43, Try.ntmps43
    go_wp2
    refine bodyPost_ret (v := .tuple #[.agg #[.int .i64 4, .int .i64 0, .string ByteArray.empty, .int .i64 0, .int .i64 0, .slice none 0 0, .int .i64 0, .bool false, .int .i64 0, .string ⟨r.toArray⟩], .bool true]) (by simp [results, Try.results43, go_sem] <;> rfl) rfl ?_
    (try rw [decide_eq_true hk])
    exact ⟨none, 0, rfl, (by repeat (first | exact Below.refl _ _ | assumption | refine below_step ?_ (by assumption) | refine below_step ?_ (Joins.below_draws _ _ _) | (refine Below.alloc ?_ (by first | omega | (simp; done) | (simp; omega)) _) | (refine Below.setCell ?_ (by first | omega | (simp; done) | (simp; omega)) _) | refine Below.drew ?_)), SlF.nil⟩
  · have hk' : ¬ (r.length : Int) ≤ 3000 := by omega
    go_enter Try.func43, Try.ntmps43
    go_wp2
    refine bodyPost_ret (v := .tuple #[.agg #[.int .i64 4, .int .i64 0, .string ByteArray.empty, .int .i64 0, .int .i64 0, .slice none 0 0, .int .i64 0, .bool false, .int .i64 0, .string ⟨r.toArray⟩], .bool false]) (by simp [results, Try.results43, go_sem] <;> rfl) rfl ?_
    (try rw [decide_eq_false hk])
    exact ⟨none, 0, rfl, (by repeat (first | exact Below.refl _ _ | assumption | refine below_step ?_ (by assumption) | refine below_step ?_ (Joins.below_draws _ _ _) | (refine Below.alloc ?_ (by first | omega | (simp; done) | (simp; omega)) _) | (refine Below.setCell ?_ (by first | omega | (simp; done) | (simp; omega)) _) | refine Below.drew ?_)), SlF.nil⟩
set_option maxHeartbeats 2000000 in
set_option maxRecDepth 100000 in
theorem decodeAct_else (F : Nat → Prop) (ao : Option Addr) (n cap : Nat) (l : List UInt8) (w : World) (hX : SlF F w 1 byteF ao n cap l) (hc : isSw l = false) : Calls Try.prog 43 #[.slice ao n cap] w (ActPost (⟨1, decO l, 0, ByteArray.empty⟩, decV l) (decide (decE l = 0)) w) := by
  have hle := hX.le
  have NL : Hid (n = l.length) := hX.len
  have HD := Lib.hid (decode_any F ao n cap l (w.alloc (.cells #[.int .i64 0, .int .i64 0, .string ByteArray.empty, .int .i64 0, .int .i64 0, .slice none 0 0, .int .i64 0, .bool false, .int .i64 0, .string ByteArray.empty] 41)) (hX.below byteF_firm (Joins.below_alloc1 _ _)))
  unfold DecPost at HD
  generalize decO l = o at HD ⊢
  generalize decV l = vs at HD ⊢
  generalize decE l = E at HD ⊢
  obtain ⟨k, t, st, sp, d, cb⟩ := o
  unfold Opn.val at HD
  simp only at HD
  match l with
  | [] =>
    obtain rfl : n = 0 := NL.out
    clear hX hc NL
    go_enter Try.func43, Try.ntmps43
    go_wp2_with fail
    refine HD.out.mono ?_
    rintro e w1 ⟨ao2, cap2, rfl, hb1, hS1⟩
    have hs1 := hb1.size
    simp only [World.size_alloc] at hs1 hS1
    have hrb : w1.heap[w.heap.size]? = _ := (hb1.block _ (by simp)).trans (heap_alloc_new w _)
    go_upto_region 4 with fail
    have hW1 := (Below.heap_alloc w1 (.cells #[.int .i64 k, .string t, .int .i64 st, .int .i64 sp, .slice ao2 vs.length cap2, .int .i64 d, .bool cb] 33) w.heap.size (by omega)).trans hrb
    have hW2 := heap_alloc_new w1 (.cells #[.int .i64 k, .string t, .int .i64 st, .int .i64 sp, .slice ao2 vs.length cap2, .int .i64 d, .bool cb] 33)
    have hb2 : Below w.heap.size w (w1.alloc (.cells #[.int .i64 k, .string t, .int .i64 st, .int .i64 sp, .slice ao2 vs.length cap2, .int .i64 d, .bool cb] 33)) := (((Below.refl _ w).alloc (Nat.le_refl _) _).trans (hb1.mono (by simp))).alloc (by omega) _
    have hS2 := hS1.below valF_firm (Joins.below_alloc1 w1 (.cells #[.int .i64 k, .string t, .int .i64 st, .int .i64 sp, .slice ao2 vs.length cap2, .int .i64 d, .bool cb] 33))
    have hsz : w1.heap.size < (w1.alloc (.cells #[.int .i64 k, .string t, .int .i64 st, .int .i64 sp, .slice ao2 vs.length cap2, .int .i64 d, .bool cb] 33)).heap.size := by simp
    have hsz0 : w.heap.size < (w1.alloc (.cells #[.int .i64 k, .string t, .int .i64 st, .int .i64 sp, .slice ao2 vs.length cap2, .int .i64 d, .bool cb] 33)).heap.size := by simp; omega
    generalize w1.alloc (.cells #[.int .i64 k, .string t, .int .i64 st, .int .i64 sp, .slice ao2 vs.length cap2, .int .i64 d, .bool cb] 33) = W2 at *
    obtain ⟨r0, r1, r2, r3, r4, r5, r6, r7, r8, r9, rf⟩ := ten_cells hW1
    obtain ⟨o0, o1, o2, o3, o4, o5, o6, of⟩ := seven_cells hW2
    have HW1 := Lib.hid hW1
    have HB2 := Lib.hid hb2
    have HS2 := Lib.hid hS2
    clear hrb hW1 hW2 hb1 hS1 hb2 hS2 hs1
    have hrw := tens_block HW1.out (.int .i64 1) (.int .i64 k) (.string t) (.int .i64 st) (.int .i64 sp) (.slice ao2 vs.length cap2) (.int .i64 d) (.bool cb) (.int .i64 0) (.string ⟨#[]⟩)
    have HRW := Lib.hid hrw
    clear hrw
    by_cases hE : E = 0
    · subst hE
      go_wp2
      obtain ⟨g0, g1, g2, g3, g4, g5, g6, g7, g8, g9, gf⟩ := ten_cells HRW.out
      refine bodyPost_ret (v := .tuple #[.agg #[.int .i64 1, .int .i64 k, .string t, .int .i64 st, .int .i64 sp, .slice ao2 vs.length cap2, .int .i64 d, .bool cb, .int .i64 0, .string ByteArray.empty], .bool true]) (by simp only [results, Try.results43]; generalize World.setCell (World.setCell _ _ _) _ _ = WW at *; simp [go_sem, g0, g1, g2, g3, g4, g5, g6, g7, g8, g9] <;> rfl) rfl ?_
      exact ⟨ao2, cap2, rfl, below_tens HB2.out (Nat.le_refl _) _ _ _ _ _ _ _ _ _ _, (HS2.out.tens valF_firm (by omega) _ _ _ _ _ _ _ _ _ _).above valF_firm (by omega)⟩
    · have hE1 : (E == 0) = false := by simpa using hE
      have HE := Lib.hid (decide_eq_false hE)
      clear hE
      go_wp2
      obtain ⟨g0, g1, g2, g3, g4, g5, g6, g7, g8, g9, gf⟩ := ten_cells HRW.out
      refine bodyPost_ret (v := .tuple #[.agg #[.int .i64 1, .int .i64 k, .string t, .int .i64 st, .int .i64 sp, .slice ao2 vs.length cap2, .int .i64 d, .bool cb, .int .i64 0, .string ByteArray.empty], .bool false]) (by simp only [results, Try.results43]; generalize World.setCell (World.setCell _ _ _) _ _ = WW at *; simp [go_sem, g0, g1, g2, g3, g4, g5, g6, g7, g8, g9] <;> rfl) rfl ?_
      rw [HE.out]
      exact ⟨ao2, cap2, rfl, below_tens HB2.out (Nat.le_refl _) _ _ _ _ _ _ _ _ _ _, (HS2.out.tens valF_firm (by omega) _ _ _ _ _ _ _ _ _ _).above valF_firm (by omega)⟩
  | c :: r =>
    obtain rfl : n = r.length + 1 := NL.out
    have hc0 : ((c.toNat : Int) == 0) = false := by simpa [isSw] using hc
    obtain ⟨g, off, row, hix, hgF, hglt, hrow, hrr⟩ := hX.index (P := Try.prog) Try.underlying34 size_byte (i := 0) (by simp)
    have hrr3 : row = [.int .u8 c.toNat] := hrr
    subst hrr3
    have d0 := hrow.one
    simp only [Nat.zero_mul, Nat.add_zero, Int.natCast_zero] at hix d0
    clear hX hc NL hrr
    go_enter Try.func43, Try.ntmps43
    go_wp2_with fail
    refine HD.out.mono ?_
    rintro e w1 ⟨ao2, cap2, rfl, hb1, hS1⟩
    have hs1 := hb1.size
    simp only [World.size_alloc] at hs1 hS1
    have hrb : w1.heap[w.heap.size]? = _ := (hb1.block _ (by simp)).trans (heap_alloc_new w _)
    go_upto_region 4 with fail
    have hW1 := (Below.heap_alloc w1 (.cells #[.int .i64 k, .string t, .int .i64 st, .int .i64 sp, .slice ao2 vs.length cap2, .int .i64 d, .bool cb] 33) w.heap.size (by omega)).trans hrb
    have hW2 := heap_alloc_new w1 (.cells #[.int .i64 k, .string t, .int .i64 st, .int .i64 sp, .slice ao2 vs.length cap2, .int .i64 d, .bool cb] 33)
    have hb2 : Below w.heap.size w (w1.alloc (.cells #[.int .i64 k, .string t, .int .i64 st, .int .i64 sp, .slice ao2 vs.length cap2, .int .i64 d, .bool cb] 33)) := (((Below.refl _ w).alloc (Nat.le_refl _) _).trans (hb1.mono (by simp))).alloc (by omega) _
    have hS2 := hS1.below valF_firm (Joins.below_alloc1 w1 (.cells #[.int .i64 k, .string t, .int .i64 st, .int .i64 sp, .slice ao2 vs.length cap2, .int .i64 d, .bool cb] 33))
    have hsz : w1.heap.size < (w1.alloc (.cells #[.int .i64 k, .string t, .int .i64 st, .int .i64 sp, .slice ao2 vs.length cap2, .int .i64 d, .bool cb] 33)).heap.size := by simp
    have hsz0 : w.heap.size < (w1.alloc (.cells #[.int .i64 k, .string t, .int .i64 st, .int .i64 sp, .slice ao2 vs.length cap2, .int .i64 d, .bool cb] 33)).heap.size := by simp; omega
    generalize w1.alloc (.cells #[.int .i64 k, .string t, .int .i64 st, .int .i64 sp, .slice ao2 vs.length cap2, .int .i64 d, .bool cb] 33) = W2 at *
    obtain ⟨r0, r1, r2, r3, r4, r5, r6, r7, r8, r9, rf⟩ := ten_cells hW1
    obtain ⟨o0, o1, o2, o3, o4, o5, o6, of⟩ := seven_cells hW2
    have HW1 := Lib.hid hW1
    have HB2 := Lib.hid hb2
    have HS2 := Lib.hid hS2
    clear hrb hW1 hW2 hb1 hS1 hb2 hS2 hs1
    have hrw := tens_block HW1.out (.int .i64 1) (.int .i64 k) (.string t) (.int .i64 st) (.int .i64 sp) (.slice ao2 vs.length cap2) (.int .i64 d) (.bool cb) (.int .i64 0) (.string ⟨#[]⟩)
    have HRW := Lib.hid hrw
    clear hrw
    by_cases hE : E = 0
    · subst hE
      go_wp2
      obtain ⟨g0, g1, g2, g3, g4, g5, g6, g7, g8, g9, gf⟩ := ten_cells HRW.out
      refine bodyPost_ret (v := .tuple #[.agg #[.int .i64 1, .int .i64 k, .string t, .int .i64 st, .int .i64 sp, .slice ao2 vs.length cap2, .int .i64 d, .bool cb, .int .i64 0, .string ByteArray.empty], .bool true]) (by simp only [results, Try.results43]; generalize World.setCell (World.setCell _ _ _) _ _ = WW at *; simp [go_sem, g0, g1, g2, g3, g4, g5, g6, g7, g8, g9] <;> rfl) rfl ?_
      exact ⟨ao2, cap2, rfl, below_tens HB2.out (Nat.le_refl _) _ _ _ _ _ _ _ _ _ _, (HS2.out.tens valF_firm (by omega) _ _ _ _ _ _ _ _ _ _).above valF_firm (by omega)⟩
    · have hE1 : (E == 0) = false := by simpa using hE
      have HE := Lib.hid (decide_eq_false hE)
      clear hE
      go_wp2
      obtain ⟨g0, g1, g2, g3, g4, g5, g6, g7, g8, g9, gf⟩ := ten_cells HRW.out
      refine bodyPost_ret (v := .tuple #[.agg #[.int .i64 1, .int .i64 k, .string t, .int .i64 st, .int .i64 sp, .slice ao2 vs.length cap2, .int .i64 d, .bool cb, .int .i64 0, .string ByteArray.empty], .bool false]) (by simp only [results, Try.results43]; generalize World.setCell (World.setCell _ _ _) _ _ = WW at *; simp [go_sem, g0, g1, g2, g3, g4, g5, g6, g7, g8, g9] <;> rfl) rfl ?_
      rw [HE.out]
      exact ⟨ao2, cap2, rfl, below_tens HB2.out (Nat.le_refl _) _ _ _ _ _ _ _ _ _ _, (HS2.out.tens valF_firm (by omega) _ _ _ _ _ _ _ _ _ _).above valF_firm (by omega)⟩
theorem decodeAct_any (F : Nat → Prop) (ao : Option Addr) (n cap : Nat) (l : List UInt8) (w : World) (hX : SlF F w 1 byteF ao n cap l) : Calls Try.prog 43 #[.slice ao n cap] w (ActPost (decA l) (decK l) w) := by
  unfold decA decK
  by_cases hc : isSw l = true
  · rw [if_pos hc, if_pos hc]
    match l, hc with
    | c :: r, hc =>
      have h := decodeAct_swap F ao n cap c r w hX (by simpa [isSw] using hc)
      have e : decide ((c :: r).length ≤ 3001) = decide (r.length ≤ 3000) := by simp
      rw [e]
      exact h
  · rw [if_neg hc, if_neg hc]
    exact decodeAct_else F ao n cap l w hX (by simpa using hc)
end Go.Proofs.Ytciomaeieggbiaa
