/-
  The walks of package wire's reader of bytes.
-/
import Derived.Test.YtciomaeieggbiaaRdP
import Derived.Test.YtciomaeieggbiaaWriW
import Derived.Test.YtciomaeieggbiaaTapX
namespace Go.Proofs.Ytciomaeieggbiaa
open Go.RowKit
set_option linter.unusedVariables false
set_option linter.unusedSimpArgs false

/-- Of what was there, only block b has turned. -/
structure Only (b : Nat) (w w' : World) : Prop where
  os : w'.os = w.os
  tape : w'.tape = w.tape
  output : w'.output = w.output
  size : w.heap.size ≤ w'.heap.size
  block : ∀ k, k < w.heap.size → k ≠ b → w'.heap[k]? = w.heap[k]?
def Else (b D : Nat) : Nat → Prop := fun k => k ≠ b ∧ k < D
theorem Only.refl (b : Nat) (w : World) : Only b w w := ⟨rfl, rfl, rfl, Nat.le_refl _, fun _ _ _ => rfl⟩
theorem Only.trans {b : Nat} {u v w : World} (h : Only b u v) (k : Only b v w) : Only b u w :=
  ⟨k.os.trans h.os, k.tape.trans h.tape, k.output.trans h.output, Nat.le_trans h.size k.size, fun i hi hb => (k.block i (Nat.lt_of_lt_of_le hi h.size) hb).trans (h.block i hi hb)⟩
theorem Only.below {b : Nat} {w w' : World} (h : Below w.heap.size w w') : Only b w w' := ⟨h.os, h.tape, h.output, h.size, fun k hk _ => h.block k hk⟩
theorem Only.alloc {b : Nat} {u w : World} (h : Only b u w) (x : Obj) : Only b u (w.alloc x) := h.trans (Only.below (Joins.below_alloc1 w x))
theorem Only.drew {b : Nat} {u w : World} (h : Only b u w) : Only b u w.drew := h.trans ⟨rfl, rfl, rfl, Nat.le_refl _, fun _ _ _ => rfl⟩
theorem Only.draws {b : Nat} {u w : World} (h : Only b u w) (n : Nat) : Only b u (w.drewN n) := h.trans (Only.below (Joins.below_draws _ _ _))
theorem Only.setCell {b : Nat} {u w : World} (h : Only b u w) {p : Addr} (hp : p.block = b) (x : Value) : Only b u (w.setCell p x) :=
  h.trans ⟨rfl, rfl, rfl, by simp [World.setCell], fun k _ hb => Below.heap_setCell _ _ _ _ (fun e => hb (e.trans hp))⟩
/-- .. a store into a block that the call made itself. -/
theorem Only.setNew {b : Nat} {u w : World} (h : Only b u w) {p : Addr} (hp : u.heap.size ≤ p.block) (x : Value) : Only b u (w.setCell p x) :=
  ⟨h.os, h.tape, h.output, by rw [World.size_setCell]; exact h.size, fun k hk hb => (Below.heap_setCell _ _ _ _ (fun e => by omega)).trans (h.block k hk hb)⟩
theorem Only.toBelow {b B : Nat} {w w' : World} (h : Only b w w') (hB : B ≤ b) (hw : B ≤ w.heap.size) : Below B w w' := ⟨h.os, h.tape, h.output, h.size, fun k hk => h.block k (by omega) (by omega)⟩
theorem Only.same {b D : Nat} {w w' : World} (h : Only b w w') : Same (Else b D) (Else b D) w w' := ⟨h.size, fun k hk hlt => ⟨hk, h.block k hlt hk.1⟩⟩
theorem Only.cells {b : Nat} {w w' : World} (h : Only b w w') : (∀ k o, k < w.heap.size → k ≠ b → w'.cell? ⟨k, o, none⟩ = w.cell? ⟨k, o, none⟩) ∧ (∀ k o, k < w.heap.size → k ≠ b → w'.frozen? ⟨k, o, none⟩ = w.frozen? ⟨k, o, none⟩) :=
  ⟨fun k o hk hb => World.cell?_of_block (w := w) (a := ⟨k, o, none⟩) (h.block k hk hb), fun k o hk hb => World.frozen?_of_block (w := w) (a := ⟨k, o, none⟩) (h.block k hk hb)⟩

/-- A reader that has these bytes ahead of it, or these refused. -/
def RdrAt (b D : Nat) (s : Sc) (w : World) : Prop :=
  s.fine ∧ ∃ ao n cap, w.heap[b]? = some (.cells #[.slice ao n cap, .int .i64 s.code] 145 (0, 0)) ∧ SlF (Else b D) w 1 byteF ao n cap s.rest ∧ (s.code ≠ 0 → ao = none ∧ n = 0 ∧ cap = 0)
theorem RdrAt.lt {b D : Nat} {s : Sc} {w : World} (h : RdrAt b D s w) : b < w.heap.size := by
  obtain ⟨_, ao, n, cap, hb, _⟩ := h
  exact (Array.getElem?_eq_some_iff.1 hb).1
theorem RdrAt.below {b D : Nat} {s : Sc} {w w' : World} (h : RdrAt b D s w) (hb : Below w.heap.size w w') : RdrAt b D s w' := by
  have hlt := h.lt
  obtain ⟨hf, ao, n, cap, hk, hS, hn⟩ := h
  exact ⟨hf, ao, n, cap, (hb.block b hlt).trans hk, hS.below byteF_firm hb, hn⟩
/-- .. where another block turns that its bytes are not in. -/
theorem RdrAt.setNew {b D : Nat} {s : Sc} {w : World} (h : RdrAt b D s w) {p : Addr} (hne : p.block ≠ b) (hD : D ≤ p.block) (u : Value) : RdrAt b D s (w.setCell p u) := by
  obtain ⟨hf, ao, n, cap, hk, hS, hn⟩ := h
  exact ⟨hf, ao, n, cap, (Below.heap_setCell _ _ _ _ hne.symm).trans hk, hS.same byteF_firm (Same.setCell _ (fun e => by have := e.2; omega)), hn⟩
theorem set_two0 {w : World} {b : Nat} {x y u : Value} {t : TypeId} {f : Nat × Nat} (h : w.heap[b]? = some (.cells #[x, y] t f)) : (w.setCell ⟨b, 0, none⟩ u).heap[b]? = some (.cells #[u, y] t f) := by simp [World.setCell, Array.getElem?_modify, h]
theorem set_two1 {w : World} {b : Nat} {x y u : Value} {t : TypeId} {f : Nat × Nat} (h : w.heap[b]? = some (.cells #[x, y] t f)) : (w.setCell ⟨b, 1, none⟩ u).heap[b]? = some (.cells #[x, u] t f) := by simp [World.setCell, Array.getElem?_modify, h]
theorem two_of_heap {w : World} {b : Nat} {x y : Value} {t : TypeId} (h : w.heap[b]? = some (.cells #[x, y] t (0, 0))) :
    w.cell? ⟨b, 0, none⟩ = some x ∧ w.cell? ⟨b, 1, none⟩ = some y ∧ ∀ o, w.frozen? ⟨b, o, none⟩ = false :=
  ⟨by rw [Lib.cell_of_heap h]; rfl, by rw [Lib.cell_of_heap h]; rfl, fun o => Lib.frozen_of_heap h o⟩

set_option maxHeartbeats 1000000 in
theorem rfail_any (b D : Nat) (s : Sc) (e : Int) (w : World) (h : RdrAt b D s w) (he : e ≠ 0) :
    Calls Try.prog 91 #[.pointer (some ⟨b, 0, none⟩), .int .i64 e] w fun x w' => x = .returned (.tuple #[]) ∧ RdrAt b D (s.stop e) w' ∧ Only b w w' := by
  obtain ⟨hf, ao, n, cap, hk, hS, hn⟩ := h
  have HK := Lib.hid hk
  have HE := Lib.hid he
  have HF := Lib.hid hf
  obtain ⟨c0, c1, cf⟩ := two_of_heap hk
  have hlt : b < w.heap.size := (Array.getElem?_eq_some_iff.1 hk).1
  clear hS hn hk hf he
  match s with
  | .on l =>
    simp only [Sc.code] at c1
    go_enter Try.func91, Try.ntmps91
    go_wp2
    go_end0
    exact ⟨rfl, ⟨HE.out, none, 0, 0, set_two0 (set_two1 HK.out), SlF.nil, fun _ => ⟨rfl, rfl, rfl⟩⟩, ((Only.refl b w).setCell rfl _).setCell rfl _⟩
  | .bad f =>
    simp only [Sc.code] at c1
    have q1 : (f == 0) = false := by have := HF.out; simpa [Sc.fine] using this
    go_enter Try.func91, Try.ntmps91
    go_wp2
    go_end0
    exact ⟨rfl, ⟨HF.out, none, 0, 0, set_two0 HK.out, SlF.nil, fun _ => ⟨rfl, rfl, rfl⟩⟩, (Only.refl b w).setCell rfl _⟩

/-- A slice from lo on. -/
theorem SlF.from {α : Type} {F : Nat → Prop} {w : World} {k : Nat} {R : (Nat → Prop) → World → List Value → α → Prop} {ao : Option Addr} {n cap : Nat} {xs : List α} (h : SlF F w k R ao n cap xs) (lo : Nat) (hlo : lo ≤ n) :
    SlF F w k R (if cap = lo then ao else ao.map (·.add (lo * k))) (n - lo) (cap - lo) (xs.drop lo) := by
  obtain ⟨h1, h2, h3, h5, h4⟩ := h
  refine ⟨by simp; omega, by omega, by omega, fun e => ?_, fun i hi => ?_⟩
  · have : ao = none := by
      split at e
      · exact e
      · simpa using e
    have := h5 this; omega
  · simp at hi
    obtain ⟨b, off, row, e, hF, hlt, hr, hx⟩ := h4 (lo + i) (by omega)
    subst e
    refine ⟨b, off + lo * k, row, ?_, hF, hlt, ?_, by simpa using hx⟩
    · rw [if_neg (by omega)]
      show some (Addr.add _ _) = _
      rw [Go.WideShapes.add_plain]
    · rw [Nat.add_assoc, ← Nat.add_mul]
      exact hr
theorem run_from {P : Program} {t e : TypeId} {k : Nat} (ht : P.underlying t = some (.slice e)) (hs : SizeIs P e k) (ao : Option Addr) (n cap lo : Nat) (hlo : lo ≤ n) (wx : World) :
    (Instr.sliceAt t (.slice ao n cap) (some (.int .i64 lo)) none none).run P wx = .ok (.slice (if cap = lo then ao else ao.map (·.add (lo * k))) (n - lo) (cap - lo)) wx := by
  have hsw := hs wx
  have h1 : (lo : Int) ≤ n := by omega
  simp [Instr.sliceAt, Instr.slice, run_underlying ht, Instr.sliceBounds, run_sliceBound, hsw, h1]
theorem run_upto {P : Program} {t e : TypeId} {k : Nat} (ht : P.underlying t = some (.slice e)) (hs : SizeIs P e k) (ao : Option Addr) (n cap hi : Nat) (hhi : hi ≤ cap) (wx : World) :
    (Instr.sliceAt t (.slice ao n cap) none (some (.int .i64 hi)) none).run P wx = .ok (.slice ao hi cap) wx := by
  have hsw := hs wx
  have h1 : (hi : Int) ≤ cap := by omega
  simp [Instr.sliceAt, Instr.slice, run_underlying ht, Instr.sliceBounds, run_sliceBound, hsw, h1]
  intro _
  cases ao <;> simp [Addr.add]

set_option maxHeartbeats 1000000 in
set_option maxRecDepth 100000 in
theorem rsmall_any (b D : Nat) (s : Sc) (w : World) (h : RdrAt b D s w) :
    Calls Try.prog 98 #[.pointer (some ⟨b, 0, none⟩)] w fun x w' => x = .returned (.int .i64 s.small.1) ∧ RdrAt b D s.small.2 w' ∧ Only b w w' := by
  have HH := Lib.hid h
  obtain ⟨hf, ao, n, cap, hk, hS, hn⟩ := h
  have HK := Lib.hid hk
  have HF := Lib.hid hf
  obtain ⟨c0, c1, cf⟩ := two_of_heap hk
  have hlt : b < w.heap.size := (Array.getElem?_eq_some_iff.1 hk).1
  match s with
  | .on [] =>
    obtain rfl : n = 0 := hS.len
    clear hS hn hk hf
    go_enter Try.func98, Try.ntmps98
    go_wp2_with (go_at_call 91; refine (rfail_any b D _ 5 _ HH.out (by decide)).mono ?_; rintro e w1 ⟨rfl, h1, ho1⟩)
    go_ret
    exact ⟨rfl, h1, ho1⟩
  | .bad e =>
    obtain rfl : n = 0 := hS.len
    clear hS hn hk hf
    go_enter Try.func98, Try.ntmps98
    go_wp2_with (go_at_call 91; refine (rfail_any b D _ 5 _ HH.out (by decide)).mono ?_; rintro e w1 ⟨rfl, h1, ho1⟩)
    go_ret
    exact ⟨rfl, h1, ho1⟩
  | .on (c :: l) =>
    have NL : n = l.length + 1 := hS.len
    obtain ⟨g, off, row, hix, hglt, hrow, hrr⟩ := hS.toR.index (P := Try.prog) Try.underlying34 size_byte (i := 0) (by show 0 < l.length + 1; omega)
    have hrr3 : row = [.int .u8 c.toNat] := hrr
    subst hrr3
    have d0 := hrow.one
    simp only [Nat.zero_mul, Nat.add_zero, Int.natCast_zero] at hix d0
    have HS := Lib.hid (hS.from 1 (by omega))
    have hcn : (c.toNat : Int) < 256 := by have := c.toNat_lt; omega
    have n0 : ((n : Int) == 0) = false := by simp; omega
    have h1n : (1 : Int) ≤ n := by omega
    clear hS hn hk hf NL
    go_enter Try.func98, Try.ntmps98
    go_wp2
    all_goals
      go_ret
      refine ⟨rfl, ⟨trivial, _, _, _, set_two0 HK.out, ?_, fun h => absurd rfl h⟩, (Only.refl b w).setCell rfl _⟩
      have hs := HS.out
      first
        | (have hc : cap = 1 := by assumption
           rw [if_pos hc, show cap - 1 = 0 by omega] at hs
           exact hs.same byteF_firm ((Only.refl b w).setCell rfl _).same)
        | (have hc : ¬ cap = 1 := by assumption
           rw [if_neg hc] at hs
           exact hs.same byteF_firm ((Only.refl b w).setCell rfl _).same)
end Go.Proofs.Ytciomaeieggbiaa
