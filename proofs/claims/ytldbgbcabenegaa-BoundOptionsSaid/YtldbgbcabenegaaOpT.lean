/-
  The walk of package bound's turned: a matrix of two spans with the spans' points exchanged.
-/
import Derived.Test.YtldbgbcabenegaaOpB
namespace Go.Proofs.Ytldbgbcabenegaa
open Go.RowKit
set_option linter.unusedVariables false
set_option linter.unusedSimpArgs false

/-- The points of both spans change places. -/
def sw (a : Nat) : Nat := (a + 2) % 4
theorem sw_lt (a : Nat) : sw a < 4 := Nat.mod_lt _ (by decide)
theorem sw_sw {a : Nat} (h : a < 4) : sw (sw a) = a := by unfold sw; omega
/-- What has been carried over after i rows and j entries of the next one. -/
def turnS (g : Mx) (i j : Nat) : Mx := fun r c => if sw r < i ∨ (sw r = i ∧ sw c < j) then g (sw r) (sw c) else freeG r c
theorem turnS_next (g : Mx) {i j : Nat} (hi : i < 4) (hj : j < 4) (r c : Nat) (hr : r < 4) (hc : c < 4) : put2 (turnS g i j) (sw i) (sw j) (g i j) r c = turnS g i (j + 1) r c := by
  unfold put2 turnS
  by_cases h : r = sw i ∧ c = sw j
  · rw [if_pos h, h.1, h.2, sw_sw hi, sw_sw hj, if_pos (Or.inr ⟨rfl, by omega⟩)]
  · rw [if_neg h]
    have : (sw r < i ∨ sw r = i ∧ sw c < j) ↔ (sw r < i ∨ sw r = i ∧ sw c < j + 1) := by
      constructor
      · rintro (h | h)
        · exact Or.inl h
        · exact Or.inr ⟨h.1, by omega⟩
      · rintro (h' | h')
        · exact Or.inl h'
        · refine Or.inr ⟨h'.1, ?_⟩
          have : sw c ≠ j := fun e => h ⟨by rw [← h'.1, sw_sw hr], by rw [← e, sw_sw hc]⟩
          omega
    simp only [this]
theorem turnS_row (g : Mx) (i r c : Nat) (hc : c < 4) : turnS g i 4 r c = turnS g (i + 1) 0 r c := by
  unfold turnS
  have h4 := sw_lt c
  have : (sw r < i ∨ sw r = i ∧ sw c < 4) ↔ (sw r < i + 1 ∨ sw r = i + 1 ∧ sw c < 0) := by omega
  simp only [this]
theorem turnS_zero (g : Mx) (r c : Nat) : turnS g 0 0 r c = freeG r c := by
  unfold turnS
  rw [if_neg (by omega)]
theorem turnS_all (g : Mx) (r c : Nat) : turnS g 4 0 r c = g (sw r) (sw c) := by
  unfold turnS
  have := sw_lt r
  rw [if_pos (by omega)]

theorem four_at (z i : Nat) (hi : i < 4) (wx : World) : (Instr.indexAt 55 (.pointer (some ⟨z, 0, none⟩)) (.int .i64 i)).run Try.prog wx = .ok (.pointer (some ⟨z, i, none⟩)) wx := by
  simp [Instr.indexAt, run_underlying Try.underlying55, asIntOf, size_int wx, Addr.add, Instr.sureAddr]
  rw [if_pos hi]
  by_cases e0 : i = 0
  · rw [if_pos e0, e0]
  · rw [if_neg e0]
def sws : List Value := [.int .i64 2, .int .i64 3, .int .i64 0, .int .i64 1]
theorem sws_at {i : Nat} (hi : i < 4) : sws.toArray[i]? = some (.int .i64 (sw i)) := by
  match i, hi with
  | 0, _ | 1, _ | 2, _ | 3, _ => rfl

set_option maxHeartbeats 2000000 in
set_option maxRecDepth 100000 in
theorem turned_any (B : Nat) (ao : Option Addr) (cap : Nat) (gs : Nat → Nat) (g : Mx) (w : World) (hB : B ≤ w.heap.size) (hG : Grid (from_ B) w ao 4 cap gs g) :
    Calls Try.prog 20 #[.slice ao 4 cap] w fun e w' => ∃ ao' cap' gs', e = .returned (.slice ao' 4 cap') ∧ Below w.heap.size w w' ∧ Grid (from_ w.heap.size) w' ao' 4 cap' gs' (fun r c => g (sw r) (sw c)) := by
  have HG := Lib.hid hG
  have hle := hG.le
  have hmax := hG.max
  unfold maxLen at hmax
  clear hG
  have KT : Hid (∀ w1 : World, Below (w.heap.size + 1) (w.alloc (.cells sws.toArray 55)) w1 → ∀ i, i < 4 → w1.cell? ⟨w.heap.size, i, none⟩ = some (.int .i64 (sw i))) := fun w1 hb i hi => by
    rw [hb.cell (p := ⟨w.heap.size, i, none⟩) (Nat.lt_succ_self _)]
    have := sws_at hi
    simp only [World.cell?, World.alloc]
    simpa using this
  go_enter Try.func20, Try.ntmps20
  go_wp2_with fail
  refine (free_grid 4 (by omega) _).mono ?_
  rintro e w1 ⟨ao1, cap1, gs1, rfl, hb1, hG1⟩
  have hbw : Below w.heap.size w w1 := (Joins.below_alloc1 w _).trans (hb1.mono (by simp))
  simp only [World.size_alloc] at hb1 hG1
  have KC := Lib.hid (KT.out w1 hb1)
  have hs1 : w.heap.size + 1 ≤ w1.heap.size := by have := hb1.size; simpa using this
  clear KT hb1
  have hle1 := hG1.le
  have hmax1 := hG1.max
  unfold maxLen at hmax1
  have G1 : Hid (Grid (from_ (w.heap.size + 1)) w1 ao1 4 cap1 gs1 (turnS g 0 0)) := hG1.congr fun r c _ _ => (turnS_zero g r c).symm
  clear hG1
  go_wp2_with fail
  go_loopw [15] (fun k wr => ∃ q : Nat, q ≤ 4 ∧ k = .int .i64 q ∧ Below (w.heap.size + 1) w1 wr ∧ Hid (Grid (from_ (w.heap.size + 1)) wr ao1 4 cap1 gs1 (turnS g q 0))) (fun k _ => 4 - (intOf k).toNat)
  case atStart => exact ⟨0, by omega, rfl, Below.refl _ _, G1⟩
  case round =>
    obtain ⟨i, hi, rfl, hbi, GI⟩ := hrel
    clear G1
    by_cases hin : i < 4
    · have hi1 : (i : Int) < 4 := by omega
      go_wp2_with fail
      go_loopw [20] (fun k wr => ∃ q : Nat, q ≤ 4 ∧ k = .int .i64 q ∧ Below (w.heap.size + 1) w1 wr ∧ Hid (Grid (from_ (w.heap.size + 1)) wr ao1 4 cap1 gs1 (turnS g i q))) (fun k _ => 4 - (intOf k).toNat)
      case atStart => exact ⟨0, by omega, rfl, hbi, GI⟩
      case round =>
        obtain ⟨j, hj, rfl, hbj, GC⟩ := hrel
        clear GI hbi
        by_cases hjn : j < 4
        · have hj1 : (j : Int) < 4 := by omega
          have hbr : Below w.heap.size w wr := hbw.trans (hbj.mono (by omega))
          obtain ⟨Ai, rci, hAlt, hglt, hF, hne, h1, h2, hix, hcell, hent⟩ := (HG.out.below (hbr.mono (Nat.le_refl _))).at hin
          obtain ⟨e1, e2, e3⟩ := hent j hjn
          obtain ⟨Ak, rck, hAlt', hglt', hF', hne', h1', h2', hix', hcell', hent'⟩ := GC.out.at (sw_lt i)
          obtain ⟨e4, e5, e6⟩ := hent' (sw j) (sw_lt j)
          have t1 := (hbj.cell (p := ⟨w.heap.size, i, none⟩) (Nat.lt_succ_self _)).trans (KC.out i hin)
          have t2 := (hbj.cell (p := ⟨w.heap.size, j, none⟩) (Nat.lt_succ_self _)).trans (KC.out j hjn)
          have t3 := four_at w.heap.size i hin
          have t4 := four_at w.heap.size j hjn
          have GS : Hid (Grid (from_ (w.heap.size + 1)) (wr.setCell ⟨gs1 (sw i), sw j, none⟩ (.int .i64 (g i j))).drew ao1 4 cap1 gs1 (turnS g i (j + 1))) :=
            ((GC.out.store (sw_lt i) (sw_lt j) (g i j)).same Same.drew).congr fun r c hr hc => turnS_next g hin hjn r c hr hc
          have hbS : Below (w.heap.size + 1) w1 (wr.setCell ⟨gs1 (sw i), sw j, none⟩ (.int .i64 (g i j))).drew := (hbj.setCell (p := ⟨gs1 (sw i), sw j, none⟩) hF' _).drew
          generalize hsi : sw i = si at *
          generalize hsj : sw j = sj at *
          have hsi4 : si < 4 := by rw [← hsi]; exact sw_lt i
          have hsj4 : sj < 4 := by rw [← hsj]; exact sw_lt j
          clear hent hent' hsi hsj
          go_wp2_with fail
          go_still_tail 17, (by kernel_rfl)
          change wpList _ _ _ _ _ wr.drew
          go_wp2
          go_roundw
          case rel => exact ⟨j + 1, by omega, by go_num, hbS, GS⟩
          case measure => simp [intOf]; omega
        · obtain rfl : j = 4 := by omega
          have GN : Hid (Grid (from_ (w.heap.size + 1)) wr ao1 4 cap1 gs1 (turnS g (i + 1) 0)) := GC.out.congr fun r c _ hc => turnS_row g i r c hc
          clear GC
          go_wp2
          go_roundw
          case rel => exact ⟨i + 1, by omega, by go_num, hbj, GN⟩
          case measure => simp [intOf]; omega
    · obtain rfl : i = 4 := by omega
      have GZ : Hid (Grid (from_ w.heap.size) wr ao1 4 cap1 gs1 (fun r c => g (sw r) (sw c))) := (GI.out.congr fun r c _ _ => turnS_all g r c).same (Same.wide fun b hb _ => Nat.le_of_succ_le hb)
      clear GI
      go_wp2
      go_ret
      exact ⟨ao1, cap1, gs1, rfl, hbw.trans (hbi.mono (by omega)), GZ.out⟩
end Go.Proofs.Ytldbgbcabenegaa
