/-
  The walk of the reference's OperationOf: what it leaves in memory; operations that insert nothing.
-/
import Derived.Test.YtciomaeieggbiaaRdS
namespace Go.Proofs.Ytciomaeieggbiaa
open Go.RowKit
set_option linter.unusedVariables false
set_option linter.unusedSimpArgs false

theorem dec_code_bad {l : List UInt8} {X : Opn × List Val} {e : Int} (h : (Sc.on l).op = (X, .bad e)) (hl : l.length ≤ 20000) : decE l = e := by
  unfold decE; rw [if_neg (by omega), h]
theorem dec_code_more {l r : List UInt8} {X : Opn × List Val} (h : (Sc.on l).op = (X, .on r)) (hl : l.length ≤ 20000) (hr : 0 < r.length) : decE l = 4 := by
  unfold decE; rw [if_neg (by omega), h]; exact if_pos hr
theorem dec_code_all {l r : List UInt8} {o : Opn} {vs : List Val} (h : (Sc.on l).op = ((o, vs), .on r)) (hl : l.length ≤ 20000) (hr : r = []) : decE l = wireE o vs := by
  subst hr
  unfold decE; rw [if_neg (by omega), h]; rfl
theorem dec_what {l : List UInt8} {o : Opn} {vs : List Val} {u : Sc} (h : (Sc.on l).op = ((o, vs), u)) (h0 : decE l = 0) : decO l = o ∧ decV l = vs := by
  unfold decO decV; rw [if_pos h0, if_pos h0, h]; exact ⟨rfl, rfl⟩

/-- Memory in the midst of the call: the result's block, the scan, the operation that is read. -/
structure St (w : World) (l : List UInt8) (a0 a1 a2 a3 a4 a5 a6 : Value) (s : Sc) (wr : World) : Prop where
  scn : ScnAt (w.heap.size + 1) w.heap.size l s wr
  res : wr.heap[w.heap.size]? = some (.cells #[.int .i64 0, .string ByteArray.empty, .int .i64 0, .int .i64 0, .slice none 0 0, .int .i64 0, .bool false] 33 (0, 0))
  op : wr.heap[w.heap.size + 1 + 1]? = some (.cells #[a0, a1, a2, a3, a4, a5, a6] 33 (0, 0))
  bel : Below w.heap.size w wr
theorem St.call {w wr wq : World} {l : List UInt8} {a0 a1 a2 a3 a4 a5 a6 : Value} {s t : Sc} (h : St w l a0 a1 a2 a3 a4 a5 a6 s wr) (hs : ScnAt (w.heap.size + 1) w.heap.size l t wq) (ho : Only (w.heap.size + 1) wr wq) : St w l a0 a1 a2 a3 a4 a5 a6 t wq := by
  have h1 := (Array.getElem?_eq_some_iff.1 h.res).1
  have h2 := (Array.getElem?_eq_some_iff.1 h.op).1
  exact ⟨hs, (ho.block _ h1 (by omega)).trans h.res, (ho.block _ h2 (by omega)).trans h.op, h.bel.trans (ho.toBelow (by omega) (by omega))⟩
theorem St.below {w wr wq : World} {l : List UInt8} {a0 a1 a2 a3 a4 a5 a6 : Value} {s : Sc} (h : St w l a0 a1 a2 a3 a4 a5 a6 s wr) (hb : Below wr.heap.size wr wq) : St w l a0 a1 a2 a3 a4 a5 a6 s wq := by
  have h1 := (Array.getElem?_eq_some_iff.1 h.res).1
  have h2 := (Array.getElem?_eq_some_iff.1 h.op).1
  exact ⟨h.scn.below hb, (hb.block _ h1).trans h.res, (hb.block _ h2).trans h.op, h.bel.trans (hb.mono (by omega))⟩
/-- A store into a block of the call's own that came later. -/
theorem St.later {w wr : World} {l : List UInt8} {a0 a1 a2 a3 a4 a5 a6 : Value} {s : Sc} (h : St w l a0 a1 a2 a3 a4 a5 a6 s wr) {q : Addr} (hq : w.heap.size + 1 + 1 < q.block) (x : Value) : St w l a0 a1 a2 a3 a4 a5 a6 s (wr.setCell q x) :=
  ⟨h.scn.setNew (by omega) (by omega) x, (Below.heap_setCell _ _ _ _ (by omega)).trans h.res, (Below.heap_setCell _ _ _ _ (by omega)).trans h.op, h.bel.setCell (by omega) x⟩
theorem St.bad {w wr : World} {l : List UInt8} {a0 a1 a2 a3 a4 a5 a6 : Value} {e : Int} (h : St w l a0 a1 a2 a3 a4 a5 a6 (.bad e) wr) :
    wr.cell? ⟨w.heap.size + 1, 2, none⟩ = some (.int .i64 e) ∧ (∀ o, wr.frozen? ⟨w.heap.size + 1, o, none⟩ = false) ∧ w.heap.size + 1 < wr.heap.size := by
  have hl := h.scn.lt
  obtain ⟨hf, ha, ao, cap, p, hk, hS, hp, hn⟩ := h.scn
  obtain ⟨c0, c1, c2, cf⟩ := three_cells hk
  exact ⟨c2, cf, hl⟩
theorem St.on {w wr : World} {l r : List UInt8} {a0 a1 a2 a3 a4 a5 a6 : Value} (h : St w l a0 a1 a2 a3 a4 a5 a6 (.on r) wr) :
    ∃ p : Nat, (∃ x, wr.cell? ⟨w.heap.size + 1, 0, none⟩ = some x) ∧ wr.cell? ⟨w.heap.size + 1, 1, none⟩ = some (.int .i64 p) ∧ wr.cell? ⟨w.heap.size + 1, 2, none⟩ = some (.int .i64 0) ∧ (∀ o, wr.frozen? ⟨w.heap.size + 1, o, none⟩ = false) ∧ w.heap.size + 1 < wr.heap.size ∧ p ≤ l.length ∧ r.length = l.length - p := by
  have hl := h.scn.lt
  obtain ⟨hf, ha, ao, cap, p, hk, hS, hp, hn⟩ := h.scn
  obtain ⟨c0, c1, c2, cf⟩ := three_cells hk
  exact ⟨p, ⟨_, c0⟩, c1, c2, cf, hl, hp, by rw [← hn r rfl]; simp⟩
theorem St.ops {w wr : World} {l : List UInt8} {a0 a1 a2 a3 a4 a5 a6 : Value} {s : Sc} (h : St w l a0 a1 a2 a3 a4 a5 a6 s wr) :
    wr.cell? ⟨w.heap.size + 1 + 1, 0, none⟩ = some a0 ∧ wr.cell? ⟨w.heap.size + 1 + 1, 1, none⟩ = some a1 ∧ wr.cell? ⟨w.heap.size + 1 + 1, 2, none⟩ = some a2 ∧ wr.cell? ⟨w.heap.size + 1 + 1, 3, none⟩ = some a3 ∧ wr.cell? ⟨w.heap.size + 1 + 1, 4, none⟩ = some a4 ∧ wr.cell? ⟨w.heap.size + 1 + 1, 5, none⟩ = some a5 ∧ wr.cell? ⟨w.heap.size + 1 + 1, 6, none⟩ = some a6 ∧ (∀ o, wr.frozen? ⟨w.heap.size + 1 + 1, o, none⟩ = false) ∧ w.heap.size + 1 + 1 < wr.heap.size := by
  obtain ⟨h0, h1, h2, h3, h4, h5, h6, hf⟩ := seven_cells h.op
  exact ⟨h0, h1, h2, h3, h4, h5, h6, hf, (Array.getElem?_eq_some_iff.1 h.op).1⟩
theorem St.ress {w wr : World} {l : List UInt8} {a0 a1 a2 a3 a4 a5 a6 : Value} {s : Sc} (h : St w l a0 a1 a2 a3 a4 a5 a6 s wr) :
    wr.cell? ⟨w.heap.size, 0, none⟩ = some (.int .i64 0) ∧ wr.cell? ⟨w.heap.size, 1, none⟩ = some (.string ByteArray.empty) ∧ wr.cell? ⟨w.heap.size, 2, none⟩ = some (.int .i64 0) ∧ wr.cell? ⟨w.heap.size, 3, none⟩ = some (.int .i64 0) ∧ wr.cell? ⟨w.heap.size, 4, none⟩ = some (.slice none 0 0) ∧ wr.cell? ⟨w.heap.size, 5, none⟩ = some (.int .i64 0) ∧ wr.cell? ⟨w.heap.size, 6, none⟩ = some (.bool false) ∧ (∀ o, wr.frozen? ⟨w.heap.size, o, none⟩ = false) ∧ w.heap.size < wr.heap.size := by
  obtain ⟨h0, h1, h2, h3, h4, h5, h6, hf⟩ := seven_cells h.res
  exact ⟨h0, h1, h2, h3, h4, h5, h6, hf, (Array.getElem?_eq_some_iff.1 h.res).1⟩
theorem St.set0 {w wr : World} {l : List UInt8} {a0 a1 a2 a3 a4 a5 a6 : Value} {s : Sc} (h : St w l a0 a1 a2 a3 a4 a5 a6 s wr) (x : Value) : St w l x a1 a2 a3 a4 a5 a6 s (wr.setCell ⟨w.heap.size + 1 + 1, 0, none⟩ x) :=
  ⟨h.scn.setNew (q := ⟨w.heap.size + 1 + 1, 0, none⟩) (by show w.heap.size + 1 + 1 ≠ w.heap.size + 1; omega) (by show w.heap.size ≤ w.heap.size + 1 + 1; omega) x, (Below.heap_setCell _ _ _ _ (by show w.heap.size ≠ w.heap.size + 1 + 1; omega)).trans h.res, by have := h.op; simp [World.setCell, Array.getElem?_modify, this], h.bel.setCell (p := ⟨w.heap.size + 1 + 1, 0, none⟩) (by show w.heap.size ≤ w.heap.size + 1 + 1; omega) x⟩
theorem St.set1 {w wr : World} {l : List UInt8} {a0 a1 a2 a3 a4 a5 a6 : Value} {s : Sc} (h : St w l a0 a1 a2 a3 a4 a5 a6 s wr) (x : Value) : St w l a0 x a2 a3 a4 a5 a6 s (wr.setCell ⟨w.heap.size + 1 + 1, 1, none⟩ x) :=
  ⟨h.scn.setNew (q := ⟨w.heap.size + 1 + 1, 1, none⟩) (by show w.heap.size + 1 + 1 ≠ w.heap.size + 1; omega) (by show w.heap.size ≤ w.heap.size + 1 + 1; omega) x, (Below.heap_setCell _ _ _ _ (by show w.heap.size ≠ w.heap.size + 1 + 1; omega)).trans h.res, by have := h.op; simp [World.setCell, Array.getElem?_modify, this], h.bel.setCell (p := ⟨w.heap.size + 1 + 1, 1, none⟩) (by show w.heap.size ≤ w.heap.size + 1 + 1; omega) x⟩
theorem St.set2 {w wr : World} {l : List UInt8} {a0 a1 a2 a3 a4 a5 a6 : Value} {s : Sc} (h : St w l a0 a1 a2 a3 a4 a5 a6 s wr) (x : Value) : St w l a0 a1 x a3 a4 a5 a6 s (wr.setCell ⟨w.heap.size + 1 + 1, 2, none⟩ x) :=
  ⟨h.scn.setNew (q := ⟨w.heap.size + 1 + 1, 2, none⟩) (by show w.heap.size + 1 + 1 ≠ w.heap.size + 1; omega) (by show w.heap.size ≤ w.heap.size + 1 + 1; omega) x, (Below.heap_setCell _ _ _ _ (by show w.heap.size ≠ w.heap.size + 1 + 1; omega)).trans h.res, by have := h.op; simp [World.setCell, Array.getElem?_modify, this], h.bel.setCell (p := ⟨w.heap.size + 1 + 1, 2, none⟩) (by show w.heap.size ≤ w.heap.size + 1 + 1; omega) x⟩
theorem St.set3 {w wr : World} {l : List UInt8} {a0 a1 a2 a3 a4 a5 a6 : Value} {s : Sc} (h : St w l a0 a1 a2 a3 a4 a5 a6 s wr) (x : Value) : St w l a0 a1 a2 x a4 a5 a6 s (wr.setCell ⟨w.heap.size + 1 + 1, 3, none⟩ x) :=
  ⟨h.scn.setNew (q := ⟨w.heap.size + 1 + 1, 3, none⟩) (by show w.heap.size + 1 + 1 ≠ w.heap.size + 1; omega) (by show w.heap.size ≤ w.heap.size + 1 + 1; omega) x, (Below.heap_setCell _ _ _ _ (by show w.heap.size ≠ w.heap.size + 1 + 1; omega)).trans h.res, by have := h.op; simp [World.setCell, Array.getElem?_modify, this], h.bel.setCell (p := ⟨w.heap.size + 1 + 1, 3, none⟩) (by show w.heap.size ≤ w.heap.size + 1 + 1; omega) x⟩
theorem St.set4 {w wr : World} {l : List UInt8} {a0 a1 a2 a3 a4 a5 a6 : Value} {s : Sc} (h : St w l a0 a1 a2 a3 a4 a5 a6 s wr) (x : Value) : St w l a0 a1 a2 a3 x a5 a6 s (wr.setCell ⟨w.heap.size + 1 + 1, 4, none⟩ x) :=
  ⟨h.scn.setNew (q := ⟨w.heap.size + 1 + 1, 4, none⟩) (by show w.heap.size + 1 + 1 ≠ w.heap.size + 1; omega) (by show w.heap.size ≤ w.heap.size + 1 + 1; omega) x, (Below.heap_setCell _ _ _ _ (by show w.heap.size ≠ w.heap.size + 1 + 1; omega)).trans h.res, by have := h.op; simp [World.setCell, Array.getElem?_modify, this], h.bel.setCell (p := ⟨w.heap.size + 1 + 1, 4, none⟩) (by show w.heap.size ≤ w.heap.size + 1 + 1; omega) x⟩
theorem St.set5 {w wr : World} {l : List UInt8} {a0 a1 a2 a3 a4 a5 a6 : Value} {s : Sc} (h : St w l a0 a1 a2 a3 a4 a5 a6 s wr) (x : Value) : St w l a0 a1 a2 a3 a4 x a6 s (wr.setCell ⟨w.heap.size + 1 + 1, 5, none⟩ x) :=
  ⟨h.scn.setNew (q := ⟨w.heap.size + 1 + 1, 5, none⟩) (by show w.heap.size + 1 + 1 ≠ w.heap.size + 1; omega) (by show w.heap.size ≤ w.heap.size + 1 + 1; omega) x, (Below.heap_setCell _ _ _ _ (by show w.heap.size ≠ w.heap.size + 1 + 1; omega)).trans h.res, by have := h.op; simp [World.setCell, Array.getElem?_modify, this], h.bel.setCell (p := ⟨w.heap.size + 1 + 1, 5, none⟩) (by show w.heap.size ≤ w.heap.size + 1 + 1; omega) x⟩
theorem St.set6 {w wr : World} {l : List UInt8} {a0 a1 a2 a3 a4 a5 a6 : Value} {s : Sc} (h : St w l a0 a1 a2 a3 a4 a5 a6 s wr) (x : Value) : St w l a0 a1 a2 a3 a4 a5 x s (wr.setCell ⟨w.heap.size + 1 + 1, 6, none⟩ x) :=
  ⟨h.scn.setNew (q := ⟨w.heap.size + 1 + 1, 6, none⟩) (by show w.heap.size + 1 + 1 ≠ w.heap.size + 1; omega) (by show w.heap.size ≤ w.heap.size + 1 + 1; omega) x, (Below.heap_setCell _ _ _ _ (by show w.heap.size ≠ w.heap.size + 1 + 1; omega)).trans h.res, by have := h.op; simp [World.setCell, Array.getElem?_modify, this], h.bel.setCell (p := ⟨w.heap.size + 1 + 1, 6, none⟩) (by show w.heap.size ≤ w.heap.size + 1 + 1; omega) x⟩

/-- .. at the beginning. -/
theorem st_start {F : Nat → Prop} {w : World} {ao : Option Addr} {cap : Nat} {l : List UInt8} (hX : SlF F w 1 byteF ao l.length cap l) (hl : l.length ≤ 20000) :
    St w l (.int .i64 0) (.string ByteArray.empty) (.int .i64 0) (.int .i64 0) (.slice none 0 0) (.int .i64 0) (.bool false) (.on l) (((w.alloc (.cells #[.int .i64 0, .string ByteArray.empty, .int .i64 0, .int .i64 0, .slice none 0 0, .int .i64 0, .bool false] 33)).alloc (.cells #[.slice ao l.length cap, .int .i64 0, .int .i64 0] 126)).alloc (.cells #[.int .i64 0, .string ByteArray.empty, .int .i64 0, .int .i64 0, .slice none 0 0, .int .i64 0, .bool false] 33)) := by
  have hb3 : Below w.heap.size w (((w.alloc (.cells #[.int .i64 0, .string ByteArray.empty, .int .i64 0, .int .i64 0, .slice none 0 0, .int .i64 0, .bool false] 33)).alloc (.cells #[.slice ao l.length cap, .int .i64 0, .int .i64 0] 126)).alloc (.cells #[.int .i64 0, .string ByteArray.empty, .int .i64 0, .int .i64 0, .slice none 0 0, .int .i64 0, .bool false] 33)) := (((Below.refl _ w).alloc (Nat.le_refl _) _).alloc (by simp) _).alloc (by simp; omega) _
  refine ⟨⟨trivial, hl, ao, cap, 0, ?_, ?_, Nat.zero_le _, fun m h => by injection h⟩, ?_, ?_, hb3⟩
  · exact (Below.heap_alloc _ _ _ (by simp)).trans (by have := heap_alloc_new (w.alloc (.cells #[.int .i64 0, .string ByteArray.empty, .int .i64 0, .int .i64 0, .slice none 0 0, .int .i64 0, .bool false] 33)) (.cells #[.slice ao l.length cap, .int .i64 0, .int .i64 0] 126); rwa [World.size_alloc] at this)
  · exact hX.same byteF_firm ⟨hb3.size, fun b hF hlt => ⟨⟨by omega, hlt⟩, hb3.block b hlt⟩⟩
  · exact (Below.heap_alloc _ _ _ (by simp; omega)).trans ((Below.heap_alloc _ _ _ (by simp)).trans (heap_alloc_new w _))
  · have := heap_alloc_new ((w.alloc (.cells #[.int .i64 0, .string ByteArray.empty, .int .i64 0, .int .i64 0, .slice none 0 0, .int .i64 0, .bool false] 33)).alloc (.cells #[.slice ao l.length cap, .int .i64 0, .int .i64 0] 126)) (.cells #[.int .i64 0, .string ByteArray.empty, .int .i64 0, .int .i64 0, .slice none 0 0, .int .i64 0, .bool false] 33); rwa [World.size_alloc, World.size_alloc] at this

set_option maxHeartbeats 1000000 in
set_option maxRecDepth 100000 in
theorem opOf_long (F : Nat → Prop) (ao : Option Addr) (n cap : Nat) (l : List UInt8) (w : World) (hX : SlF F w 1 byteF ao n cap l) (hn : 20000 < n) : Calls Try.prog 44 #[.slice ao n cap] w (DecPost l w) := by
  have NL : Hid (n = l.length) := hX.len
  have E : Hid (decE l = 1) := by show _ = _; unfold decE; rw [if_pos (by rw [← NL.out]; exact hn)]
  have hn' : (20000 : Int) < n := by omega
  clear hn
  go_enter Try.func44, Try.ntmps44
  go_wp2
  refine bodyPost_ret (v := .tuple #[.agg #[.int .i64 0, .string ByteArray.empty, .int .i64 0, .int .i64 0, .slice none 0 0, .int .i64 0, .bool false], .int .i64 1]) (by simp [results, Try.results44, go_sem, World.cell?_setCell_other] <;> rfl) rfl ?_
  exact dec_bad (by rw [E.out]; decide) E.out rfl (by repeat (first | exact Below.refl _ _ | assumption | refine below_step ?_ (by assumption) | refine below_step ?_ (Joins.below_draws _ _ _) | (refine Below.alloc ?_ (by first | omega | (simp; done) | (simp; omega)) _) | (refine Below.setCell ?_ (by first | omega | (simp; done) | (simp; omega)) _) | refine Below.drew ?_))

set_option maxHeartbeats 2000000 in
set_option maxRecDepth 100000 in
theorem opOf_else (F : Nat → Prop) (ao : Option Addr) (n cap : Nat) (l : List UInt8) (w : World) (hX : SlF F w 1 byteF ao n cap l) (hn : ¬ 20000 < n) (h1 : (Sc.on l).small.1 ≠ 1) (h2 : (Sc.on l).small.1 ≠ 2) (h3 : (Sc.on l).small.1 ≠ 3) : Calls Try.prog 44 #[.slice ao n cap] w (DecPost l w) := by
  obtain rfl : n = l.length := hX.len
  have HL : Hid (l.length ≤ 20000) := by show _ ≤ _; omega
  have hn' : ¬ (20000 : Int) < l.length := by omega
  have S0 := Lib.hid (st_start hX HL.out)
  have HS := Lib.hid (sone_any _ _ _ _ _ S0.out.scn)
  have OPE : Hid ((Sc.on l).op = (Sc.on l).op) := Lib.hid rfl
  conv at OPE => arg 1; rhs; unfold Sc.op
  simp only [if_neg h1, if_neg h2, if_neg h3] at OPE
  generalize (Sc.on l).small = M at HS h1 h2 h3 OPE
  obtain ⟨k, t⟩ := M
  simp only at HS h1 h2 h3 OPE
  have q1 : ((k : Int) == 1) = false := by simp; omega
  have q2 : ((k : Int) == 2) = false := by simp; omega
  have q3 : ((k : Int) == 3) = false := by simp; omega
  clear h1 h2 h3
  have TL : Hid (ByteArray.empty.size ≤ maxLen) := empty_len
  have HF := fun wx h => Lib.hid (sstop_any (w.heap.size + 1) w.heap.size l t 3 wx h (by decide))
  generalize t.stop 3 = u at HF OPE
  obtain ⟨n, NN⟩ : ∃ n, Hid (n = l.length) := ⟨_, rfl⟩
  have NL := NN
  rw [← NN.out] at hn' HS S0 ⊢
  clear hX hn NN
  go_enter Try.func44, Try.ntmps44
  go_wp2_with fail
  refine HS.out.mono ?_
  rintro x w1 ⟨rfl, h1, ho1⟩
  have S1 := Lib.hid (S0.out.call h1 ho1)
  obtain ⟨o0, o1, o2, o3, o4, o5, o6, of, lo⟩ := S1.out.ops
  clear h1 ho1
  have S2 := Lib.hid (S1.out.set0 (.int .i64 k))
  go_wp2_with fail
  refine (HF _ S2.out.scn).out.mono ?_
  rintro x w2 ⟨rfl, h2, ho2⟩
  have S3 := Lib.hid (S2.out.call h2 ho2)
  clear o0 o1 o2 o3 o4 o5 o6 of lo
  clear h2 ho2
  match u with
  | .bad e =>
    have NE : Hid (e ≠ 0) := S3.out.scn.1
    have DE : Hid (decE l = e) := dec_code_bad OPE.out HL.out
    have q1 : (e == 0) = false := by simpa using NE.out
    have q2 : (e != 0) = true := by simpa using NE.out
    have SF := Lib.hid (S3.out)
    obtain ⟨c2, cf, lb⟩ := S3.out.bad
    obtain ⟨o0, o1, o2, o3, o4, o5, o6, of, lo⟩ := S3.out.ops
    obtain ⟨r0, r1, r2, r3, r4, r5, r6, rf, lr⟩ := S3.out.ress
    go_wp2
    go_region
    go_simp
    rename_i K1 h1 K2 h2
    apply h2
    generalize hWW : World.drew _ = WW
    have hrw : WW.heap[w.heap.size]? = some (.cells #[.int .i64 0, .string ByteArray.empty, .int .i64 0, .int .i64 0, .slice none 0 0, .int .i64 0, .bool false] 33 (0, 0)) := by rw [← hWW]; exact block_drew (sevens_block SF.out.res _ _ _ _ _ _ _)
    go_wp2
    obtain ⟨g0, g1, g2, g3, g4, g5, g6, gf⟩ := seven_cells hrw
    refine bodyPost_ret (v := .tuple #[.agg #[.int .i64 0, .string ByteArray.empty, .int .i64 0, .int .i64 0, .slice none 0 0, .int .i64 0, .bool false], .int .i64 e]) (by simp [results, Try.results44, go_sem, g0, g1, g2, g3, g4, g5, g6]) rfl ?_
    subst hWW
    exact dec_bad (by rw [DE.out]; first | exact NE.out | decide) DE.out rfl (below_sevens SF.out.bel (Nat.le_refl _) _ _ _ _ _ _ _).drew
  | .on r =>
    have SF := Lib.hid (S3.out)
    have HVF := Lib.hid ((SlF.nil : SlF (from_ (w.heap.size + 1 + 1 + 1)) w2 3 valF none 0 0 []))
    obtain ⟨p, c0, c1, c2, cf, lb, hpl, hpr⟩ := S3.out.on
    obtain ⟨o0, o1, o2, o3, o4, o5, o6, of, lo⟩ := S3.out.ops
    obtain ⟨r0, r1, r2, r3, r4, r5, r6, rf, lr⟩ := S3.out.ress
    rcases Nat.eq_zero_or_pos r.length with hr | hr
    · have hnp : ¬ (p : Int) < n := by have := NL.out; omega
      have DE2 : Hid (decE l = wireE ⟨k, ByteArray.empty, 0, 0, 0, false⟩ []) := dec_code_all OPE.out HL.out (List.eq_nil_of_length_eq_zero hr)
      have EO : Hid (decE l = 0 → decO l = ⟨k, ByteArray.empty, 0, 0, 0, false⟩ ∧ decV l = []) := dec_what OPE.out
      have HW := Lib.hid (wireFault_any ⟨k, ByteArray.empty, 0, 0, 0, false⟩ _ _ _ [] _ (TL.out) HVF.out.toR)
      unfold Opn.val at HW
      simp only at HW
      generalize wireE ⟨k, ByteArray.empty, 0, 0, 0, false⟩ [] = E at HW DE2
      clear hr hpr
      go_wp2_with fail
      refine HW.out.mono ?_
      rintro x wq ⟨rfl, hbq⟩
      have SQ := Lib.hid (SF.out.below hbq)
      have HVQ := Lib.hid (HVF.out.below valF_firm hbq)
      clear c0 c1 c2 cf lb o0 o1 o2 o3 o4 o5 o6 of lo r0 r1 r2 r3 r4 r5 r6 rf lr
      obtain ⟨p', c0, c1, c2, cf, lb, hpl', hpr'⟩ := SQ.out.on
      obtain ⟨o0, o1, o2, o3, o4, o5, o6, of, lo⟩ := SQ.out.ops
      obtain ⟨r0, r1, r2, r3, r4, r5, r6, rf, lr⟩ := SQ.out.ress
      clear hpl' hpr' hnp
      by_cases hE : E = 0
      · subst hE
        go_wp2
        have hrw := sevens_block ((Below.heap_setCell wq ⟨w.heap.size + 1, 2, none⟩ (.int .i64 0) w.heap.size (by show w.heap.size ≠ w.heap.size + 1; omega)).trans SQ.out.res) (.int .i64 k) (.string ByteArray.empty) (.int .i64 0) (.int .i64 0) (.slice none 0 0) (.int .i64 0) (.bool false)
        obtain ⟨g0, g1, g2, g3, g4, g5, g6, gf⟩ := seven_cells hrw
        refine bodyPost_ret (v := .tuple #[.agg #[.int .i64 k, .string ByteArray.empty, .int .i64 0, .int .i64 0, .slice none 0 0, .int .i64 0, .bool false], .int .i64 0]) (by simp only [results, Try.results44]; generalize World.setCell (World.setCell _ _ _) _ _ = WW at *; simp [go_sem, g0, g1, g2, g3, g4, g5, g6]) rfl ?_
        obtain ⟨e1, e2⟩ := EO.out DE2.out
        unfold DecPost
        rw [e1, e2, DE2.out]
        exact ⟨_, _, rfl, below_sevens (SQ.out.bel.setCell (p := ⟨w.heap.size + 1, 2, none⟩) (by show w.heap.size ≤ w.heap.size + 1; omega) _) (Nat.le_refl _) _ _ _ _ _ _ _, (((HVQ.out.setLow valF_firm (p := ⟨w.heap.size + 1, 2, none⟩) (by show w.heap.size + 1 < _; omega) _).sevens valF_firm (by omega) _ _ _ _ _ _ _).above valF_firm (by omega))⟩
      · have q1 : (E == 0) = false := by simpa using hE
        have q2 : (E != 0) = true := by simpa using hE
        have NE := Lib.hid hE
        have DE := DE2
        clear hE
        go_wp2
        go_region
        go_simp
        rename_i K1 h1 K2 h2
        apply h2
        generalize hWW : World.drew _ = WW
        have hrw : WW.heap[w.heap.size]? = some (.cells #[.int .i64 0, .string ByteArray.empty, .int .i64 0, .int .i64 0, .slice none 0 0, .int .i64 0, .bool false] 33 (0, 0)) := by rw [← hWW]; exact block_drew (sevens_block ((Below.heap_setCell wq ⟨w.heap.size + 1, 2, none⟩ (.int .i64 E) w.heap.size (by show w.heap.size ≠ w.heap.size + 1; omega)).trans SQ.out.res) _ _ _ _ _ _ _)
        go_wp2
        obtain ⟨g0, g1, g2, g3, g4, g5, g6, gf⟩ := seven_cells hrw
        refine bodyPost_ret (v := .tuple #[.agg #[.int .i64 0, .string ByteArray.empty, .int .i64 0, .int .i64 0, .slice none 0 0, .int .i64 0, .bool false], .int .i64 E]) (by simp [results, Try.results44, go_sem, g0, g1, g2, g3, g4, g5, g6]) rfl ?_
        subst hWW
        exact dec_bad (by rw [DE.out]; first | exact NE.out | decide) DE.out rfl (below_sevens (SQ.out.bel.setCell (p := ⟨w.heap.size + 1, 2, none⟩) (by show w.heap.size ≤ w.heap.size + 1; omega) _) (Nat.le_refl _) _ _ _ _ _ _ _).drew
    · have hnp : (p : Int) < n := by have := NL.out; omega
      have DE : Hid (decE l = 4) := dec_code_more OPE.out HL.out hr
      have NE : Hid ((4 : Int) ≠ 0) := by show ¬ _ = _; decide
      go_wp2
      go_region
      go_simp
      rename_i K1 h1 K2 h2
      apply h2
      generalize hWW : World.drew _ = WW
      have hrw : WW.heap[w.heap.size]? = some (.cells #[.int .i64 0, .string ByteArray.empty, .int .i64 0, .int .i64 0, .slice none 0 0, .int .i64 0, .bool false] 33 (0, 0)) := by rw [← hWW]; exact block_drew (sevens_block ((Below.heap_setCell _ ⟨w.heap.size + 1, 2, none⟩ (.int .i64 4) w.heap.size (by show w.heap.size ≠ w.heap.size + 1; omega)).trans SF.out.res) _ _ _ _ _ _ _)
      go_wp2
      obtain ⟨g0, g1, g2, g3, g4, g5, g6, gf⟩ := seven_cells hrw
      refine bodyPost_ret (v := .tuple #[.agg #[.int .i64 0, .string ByteArray.empty, .int .i64 0, .int .i64 0, .slice none 0 0, .int .i64 0, .bool false], .int .i64 4]) (by simp [results, Try.results44, go_sem, g0, g1, g2, g3, g4, g5, g6]) rfl ?_
      subst hWW
      exact dec_bad (by rw [DE.out]; first | exact NE.out | decide) DE.out rfl (below_sevens (SF.out.bel.setCell (p := ⟨w.heap.size + 1, 2, none⟩) (by show w.heap.size ≤ w.heap.size + 1; omega) _) (Nat.le_refl _) _ _ _ _ _ _ _).drew

set_option maxHeartbeats 2000000 in
set_option maxRecDepth 100000 in
theorem opOf_query (F : Nat → Prop) (ao : Option Addr) (n cap : Nat) (l : List UInt8) (w : World) (hX : SlF F w 1 byteF ao n cap l) (hn : ¬ 20000 < n) (h3 : (Sc.on l).small.1 = 3) : Calls Try.prog 44 #[.slice ao n cap] w (DecPost l w) := by
  obtain rfl : n = l.length := hX.len
  have HL : Hid (l.length ≤ 20000) := by show _ ≤ _; omega
  have hn' : ¬ (20000 : Int) < l.length := by omega
  have S0 := Lib.hid (st_start hX HL.out)
  have HS := Lib.hid (sone_any _ _ _ _ _ S0.out.scn)
  have OPE : Hid ((Sc.on l).op = (Sc.on l).op) := Lib.hid rfl
  conv at OPE => arg 1; rhs; unfold Sc.op
  have n1 : ¬ (Sc.on l).small.1 = 1 := by omega
  have n2 : ¬ (Sc.on l).small.1 = 2 := by omega
  simp only [if_neg n1, if_neg n2, if_pos h3] at OPE
  clear n1 n2
  generalize (Sc.on l).small = M at HS h3 OPE
  obtain ⟨k, t⟩ := M
  simp only at HS h3 OPE
  subst h3
  have TL0 := Sc.text_len t
  have HF := fun wx h => Lib.hid (sstr_any (w.heap.size + 1) w.heap.size l t wx h)
  generalize t.text = L at HF TL0 OPE
  obtain ⟨z, u⟩ := L
  simp only at HF TL0 OPE
  have TL := Lib.hid (text_max TL0)
  clear TL0
  obtain ⟨n, NN⟩ : ∃ n, Hid (n = l.length) := ⟨_, rfl⟩
  have NL := NN
  rw [← NN.out] at hn' HS S0 ⊢
  clear hX hn NN
  go_enter Try.func44, Try.ntmps44
  go_wp2_with fail
  refine HS.out.mono ?_
  rintro x w1 ⟨rfl, h1, ho1⟩
  have S1 := Lib.hid (S0.out.call h1 ho1)
  obtain ⟨o0, o1, o2, o3, o4, o5, o6, of, lo⟩ := S1.out.ops
  clear h1 ho1
  have S2 := Lib.hid (S1.out.set0 (.int .i64 3))
  go_wp2_with fail
  refine (HF _ S2.out.scn).out.mono ?_
  rintro x w2 ⟨rfl, h2, ho2⟩
  have S3 := Lib.hid (S2.out.call h2 ho2)
  clear o0 o1 o2 o3 o4 o5 o6 of lo
  clear h2 ho2
  match u with
  | .bad e =>
    have NE : Hid (e ≠ 0) := S3.out.scn.1
    have DE : Hid (decE l = e) := dec_code_bad OPE.out HL.out
    have q1 : (e == 0) = false := by simpa using NE.out
    have q2 : (e != 0) = true := by simpa using NE.out
    have SF := Lib.hid (S3.out.set1 (.string z))
    obtain ⟨c2, cf, lb⟩ := S3.out.bad
    obtain ⟨o0, o1, o2, o3, o4, o5, o6, of, lo⟩ := S3.out.ops
    obtain ⟨r0, r1, r2, r3, r4, r5, r6, rf, lr⟩ := S3.out.ress
    go_wp2
    go_region
    go_simp
    rename_i K1 h1 K2 h2
    apply h2
    generalize hWW : World.drew _ = WW
    have hrw : WW.heap[w.heap.size]? = some (.cells #[.int .i64 0, .string ByteArray.empty, .int .i64 0, .int .i64 0, .slice none 0 0, .int .i64 0, .bool false] 33 (0, 0)) := by rw [← hWW]; exact block_drew (sevens_block SF.out.res _ _ _ _ _ _ _)
    go_wp2
    obtain ⟨g0, g1, g2, g3, g4, g5, g6, gf⟩ := seven_cells hrw
    refine bodyPost_ret (v := .tuple #[.agg #[.int .i64 0, .string ByteArray.empty, .int .i64 0, .int .i64 0, .slice none 0 0, .int .i64 0, .bool false], .int .i64 e]) (by simp [results, Try.results44, go_sem, g0, g1, g2, g3, g4, g5, g6]) rfl ?_
    subst hWW
    exact dec_bad (by rw [DE.out]; first | exact NE.out | decide) DE.out rfl (below_sevens SF.out.bel (Nat.le_refl _) _ _ _ _ _ _ _).drew
  | .on r =>
    have SF := Lib.hid (S3.out.set1 (.string z))
    have HVF := Lib.hid ((SlF.nil : SlF (from_ (w.heap.size + 1 + 1 + 1)) (w2.setCell ⟨w.heap.size + 1 + 1, 1, none⟩ (.string z)) 3 valF none 0 0 []))
    obtain ⟨p, c0, c1, c2, cf, lb, hpl, hpr⟩ := S3.out.on
    obtain ⟨o0, o1, o2, o3, o4, o5, o6, of, lo⟩ := S3.out.ops
    obtain ⟨r0, r1, r2, r3, r4, r5, r6, rf, lr⟩ := S3.out.ress
    rcases Nat.eq_zero_or_pos r.length with hr | hr
    · have hnp : ¬ (p : Int) < n := by have := NL.out; omega
      have DE2 : Hid (decE l = wireE ⟨3, z, 0, 0, 0, false⟩ []) := dec_code_all OPE.out HL.out (List.eq_nil_of_length_eq_zero hr)
      have EO : Hid (decE l = 0 → decO l = ⟨3, z, 0, 0, 0, false⟩ ∧ decV l = []) := dec_what OPE.out
      have HW := Lib.hid (wireFault_any ⟨3, z, 0, 0, 0, false⟩ _ _ _ [] _ (TL.out) HVF.out.toR)
      unfold Opn.val at HW
      simp only at HW
      generalize wireE ⟨3, z, 0, 0, 0, false⟩ [] = E at HW DE2
      clear hr hpr
      go_wp2_with fail
      refine HW.out.mono ?_
      rintro x wq ⟨rfl, hbq⟩
      have SQ := Lib.hid (SF.out.below hbq)
      have HVQ := Lib.hid (HVF.out.below valF_firm hbq)
      clear c0 c1 c2 cf lb o0 o1 o2 o3 o4 o5 o6 of lo r0 r1 r2 r3 r4 r5 r6 rf lr
      obtain ⟨p', c0, c1, c2, cf, lb, hpl', hpr'⟩ := SQ.out.on
      obtain ⟨o0, o1, o2, o3, o4, o5, o6, of, lo⟩ := SQ.out.ops
      obtain ⟨r0, r1, r2, r3, r4, r5, r6, rf, lr⟩ := SQ.out.ress
      clear hpl' hpr' hnp
      by_cases hE : E = 0
      · subst hE
        go_wp2
        have hrw := sevens_block ((Below.heap_setCell wq ⟨w.heap.size + 1, 2, none⟩ (.int .i64 0) w.heap.size (by show w.heap.size ≠ w.heap.size + 1; omega)).trans SQ.out.res) (.int .i64 3) (.string z) (.int .i64 0) (.int .i64 0) (.slice none 0 0) (.int .i64 0) (.bool false)
        obtain ⟨g0, g1, g2, g3, g4, g5, g6, gf⟩ := seven_cells hrw
        refine bodyPost_ret (v := .tuple #[.agg #[.int .i64 3, .string z, .int .i64 0, .int .i64 0, .slice none 0 0, .int .i64 0, .bool false], .int .i64 0]) (by simp only [results, Try.results44]; generalize World.setCell (World.setCell _ _ _) _ _ = WW at *; simp [go_sem, g0, g1, g2, g3, g4, g5, g6]) rfl ?_
        obtain ⟨e1, e2⟩ := EO.out DE2.out
        unfold DecPost
        rw [e1, e2, DE2.out]
        exact ⟨_, _, rfl, below_sevens (SQ.out.bel.setCell (p := ⟨w.heap.size + 1, 2, none⟩) (by show w.heap.size ≤ w.heap.size + 1; omega) _) (Nat.le_refl _) _ _ _ _ _ _ _, (((HVQ.out.setLow valF_firm (p := ⟨w.heap.size + 1, 2, none⟩) (by show w.heap.size + 1 < _; omega) _).sevens valF_firm (by omega) _ _ _ _ _ _ _).above valF_firm (by omega))⟩
      · have q1 : (E == 0) = false := by simpa using hE
        have q2 : (E != 0) = true := by simpa using hE
        have NE := Lib.hid hE
        have DE := DE2
        clear hE
        go_wp2
        go_region
        go_simp
        rename_i K1 h1 K2 h2
        apply h2
        generalize hWW : World.drew _ = WW
        have hrw : WW.heap[w.heap.size]? = some (.cells #[.int .i64 0, .string ByteArray.empty, .int .i64 0, .int .i64 0, .slice none 0 0, .int .i64 0, .bool false] 33 (0, 0)) := by rw [← hWW]; exact block_drew (sevens_block ((Below.heap_setCell wq ⟨w.heap.size + 1, 2, none⟩ (.int .i64 E) w.heap.size (by show w.heap.size ≠ w.heap.size + 1; omega)).trans SQ.out.res) _ _ _ _ _ _ _)
        go_wp2
        obtain ⟨g0, g1, g2, g3, g4, g5, g6, gf⟩ := seven_cells hrw
        refine bodyPost_ret (v := .tuple #[.agg #[.int .i64 0, .string ByteArray.empty, .int .i64 0, .int .i64 0, .slice none 0 0, .int .i64 0, .bool false], .int .i64 E]) (by simp [results, Try.results44, go_sem, g0, g1, g2, g3, g4, g5, g6]) rfl ?_
        subst hWW
        exact dec_bad (by rw [DE.out]; first | exact NE.out | decide) DE.out rfl (below_sevens (SQ.out.bel.setCell (p := ⟨w.heap.size + 1, 2, none⟩) (by show w.heap.size ≤ w.heap.size + 1; omega) _) (Nat.le_refl _) _ _ _ _ _ _ _).drew
    · have hnp : (p : Int) < n := by have := NL.out; omega
      have DE : Hid (decE l = 4) := dec_code_more OPE.out HL.out hr
      have NE : Hid ((4 : Int) ≠ 0) := by show ¬ _ = _; decide
      go_wp2
      go_region
      go_simp
      rename_i K1 h1 K2 h2
      apply h2
      generalize hWW : World.drew _ = WW
      have hrw : WW.heap[w.heap.size]? = some (.cells #[.int .i64 0, .string ByteArray.empty, .int .i64 0, .int .i64 0, .slice none 0 0, .int .i64 0, .bool false] 33 (0, 0)) := by rw [← hWW]; exact block_drew (sevens_block ((Below.heap_setCell _ ⟨w.heap.size + 1, 2, none⟩ (.int .i64 4) w.heap.size (by show w.heap.size ≠ w.heap.size + 1; omega)).trans SF.out.res) _ _ _ _ _ _ _)
      go_wp2
      obtain ⟨g0, g1, g2, g3, g4, g5, g6, gf⟩ := seven_cells hrw
      refine bodyPost_ret (v := .tuple #[.agg #[.int .i64 0, .string ByteArray.empty, .int .i64 0, .int .i64 0, .slice none 0 0, .int .i64 0, .bool false], .int .i64 4]) (by simp [results, Try.results44, go_sem, g0, g1, g2, g3, g4, g5, g6]) rfl ?_
      subst hWW
      exact dec_bad (by rw [DE.out]; first | exact NE.out | decide) DE.out rfl (below_sevens (SF.out.bel.setCell (p := ⟨w.heap.size + 1, 2, none⟩) (by show w.heap.size ≤ w.heap.size + 1; omega) _) (Nat.le_refl _) _ _ _ _ _ _ _).drew
end Go.Proofs.Ytciomaeieggbiaa
