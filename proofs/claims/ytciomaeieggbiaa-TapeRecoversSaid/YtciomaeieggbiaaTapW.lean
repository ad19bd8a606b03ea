/-
  Bytes in memory; bytes joined; may a tape be?
-/
import Derived.Test.YtciomaeieggbiaaValW
import Derived.Test.YtciomaeieggbiaaFoot
import Derived.Maps.AppendAt
import Derived.Lib.Builder
import Derived.RegionTactic
import Derived.Deep.RegionLaw
import Derived.Lib.Hide
namespace Go.Proofs.Ytciomaeieggbiaa
open Go.RowKit
set_option linter.unusedVariables false
set_option linter.unusedSimpArgs false

theorem RowAt.one {w : World} {b o : Nat} {x : Value} (h : RowAt w b o 1 [x]) : w.cell? ⟨b, o, none⟩ = some x := h.2 0 (by omega)

set_option linter.unusedVariables false
set_option linter.unusedSimpArgs false

/-- A byte's cell. -/
def byteC (b : UInt8) : Value := .int .u8 b.toNat
def byteF : (Nat → Prop) → World → List Value → UInt8 → Prop := plainF fun b => [byteC b]
theorem byteF_firm : Firm byteF := plainF_firm _
theorem byteF_one : ∀ F w row x, byteF F w row x → ∀ u ∈ row, u.oneCell' = true := fun F w row b h u hu => by
  have : row = [byteC b] := h
  subst this
  simp at hu
  subst hu
  rfl
theorem byteF_any {F G : Nat → Prop} {w w' : World} {row : List Value} {x : UInt8} (h : byteF F w row x) : byteF G w' row x := h
theorem size_byte : SizeIs Try.prog 5 1 := fun w => by kernel_rfl
theorem info_byte : (Try.prog.info? 5).map (fun i => (i.zero, i.size, i.bytes)) = some (some (.int .u8 0), 1, 1) := by kernel_rfl

set_option maxHeartbeats 1000000 in
theorem octets_any (F : Nat → Prop) (ao : Option Addr) (n cap : Nat) (xs : List UInt8) (w : World) (h : SlF F w 1 byteF ao n cap xs) (h1 : n ≤ 140737488355328) :
    Calls Try.prog 35 #[.slice ao n cap] w fun e w' => ∃ ao' cap', e = .returned (.slice ao' n cap') ∧ Below w.heap.size w w' ∧ SlF (from_ w.heap.size) w' 1 byteF ao' n cap' xs := by
  obtain ⟨i0, hi, hz0, hz1, hz2⟩ := info_parts info_byte
  obtain ⟨ao', cap', w', hrun, hS, hb⟩ := run_copy_to (G := from_ w.heap.size) Try.underlying34 hi hz0 hz1 hz2 rfl (by omega) byteF_firm byteF_one h (by omega) (Nat.le_refl _) none (World.ownsRow_nil _ _ _ _) (fun b h => h) (fun _ _ h => h)
  go_enter Try.func35, Try.ntmps35
  go_wp2_with (first | (at_builtin; refine wpList_append_run rfl _ _ 34 rfl rfl rfl rfl hrun ?_) | fail)
  go_ret
  exact ⟨ao', cap', rfl, hb, hS⟩

set_option maxHeartbeats 2000000 in
theorem joined_own (F G : Nat → Prop) (ao : Option Addr) (n cap : Nat) (xs : List UInt8) (bo : Option Addr) (m bcap : Nat) (ys : List UInt8) (w : World) (hX : SlF F w 1 byteF ao n cap xs) (hY : SlF G w 1 byteF bo m bcap ys) (hs : n + m ≤ 140737488355328) :
    Calls Try.prog 31 #[.slice ao n cap, .slice bo m bcap] w fun e w' => ∃ ao' cap', e = .returned (.slice ao' (n + m) cap') ∧ Below w.heap.size w w' ∧ OwnF (from_ w.heap.size) w.heap.size w' 5 1 byteF (.slice ao' (n + m) cap') (xs ++ ys) := by
  obtain ⟨i0, hi, hz0, hz1, hz2⟩ := info_parts info_byte
  have NL : Hid (n = xs.length) := hX.len
  have ML : Hid (m = ys.length) := hY.len
  have hle := hX.le
  have hle2 := hY.le
  go_enter Try.func31, Try.ntmps31
  go_wp2_with fail
  go_loopw [5, 6] (fun o i wr => ∃ k : Nat, k ≤ n ∧ i = .int .i64 k ∧ Below w.heap.size w wr ∧ OwnF (from_ w.heap.size) w.heap.size wr 5 1 byteF o (xs.take k)) (fun _ i _ => n - (intOf i).toNat)
  case atStart => exact ⟨0, by omega, rfl, Below.refl _ _, OwnF.empty⟩
  case round =>
    obtain ⟨k, hk, rfl, hbr, hown⟩ := hrel
    have hwi : w.heap.size ≤ wr.heap.size := hbr.size
    have hXr := hX.below byteF_firm hbr
    by_cases hlt : k < n
    · have hkl : k < xs.length := by have := NL.out; omega
      obtain ⟨b, off, row, hix, hblt, hrow, hrr⟩ := hXr.toR.index (P := Try.prog) Try.underlying34 size_byte (i := k) hkl
      have hrr3 : row = [.int .u8 xs[k].toNat] := hrr
      subst hrr3
      have d0 := hrow.one
      simp only [Nat.mul_one] at hix d0
      have hkk : Hid ((xs.take k).length = k) := by show (xs.take k).length = k; simp; omega
      go_wp2_with (first
        | (at_builtin; refine wpList_append_F rfl _ _ 34 rfl w.heap.size 5 i0 (.int .u8 0) 1 1 Try.underlying34 hi hz0 hz1 hz2 rfl (by decide) _ k rfl (hown.alloc byteF_firm _) hkk.out byteF_firm xs[k] [.int .u8 xs[k].toNat] ⟨wr.heap.size, 0, none⟩ rfl rfl (cell_one_new _ _ _) (fun u hu => by rw [List.mem_singleton.1 hu]; rfl) rfl (by omega) (by decide) (by simp; omega) ?_; intro ra rc w5 hown' hgrow hb5)
        | fail)
      rw [List.take_append_getElem hkl] at hown'
      exact ⟨⟨k + 1, by omega, by go_num, (Below.alloc hbr hwi _).trans hb5, hown'⟩, by simp [intOf]; omega⟩
    · have hkn : k = n := by omega
      have hown2 := hown
      rw [List.take_of_length_le (by have := NL.out; omega)] at hown2
      clear hown hkn
      obtain ⟨wo, rfl⟩ : ∃ wo : World, wo = wr := ⟨_, rfl⟩
      go_wp2_with fail
      go_loopw [5, 7] (fun o i wr => ∃ q : Nat, q ≤ m ∧ i = .int .i64 q ∧ Below w.heap.size w wr ∧ OwnF (from_ w.heap.size) w.heap.size wr 5 1 byteF o (xs ++ ys.take q)) (fun _ i _ => m - (intOf i).toNat)
      case atStart => exact ⟨0, by omega, rfl, hbr, by simpa using hown2⟩
      case round =>
        obtain ⟨q, hq, rfl, hbi, hown⟩ := hrel
        have hwi : w.heap.size ≤ wr.heap.size := hbi.size
        have hYr := hY.below byteF_firm hbi
        by_cases hqm : q < m
        · have hql : q < ys.length := by have := ML.out; omega
          obtain ⟨b, off, row, hix, hblt, hrow, hrr⟩ := hYr.toR.index (P := Try.prog) Try.underlying34 size_byte (i := q) hql
          have hrr3 : row = [.int .u8 ys[q].toNat] := hrr
          subst hrr3
          have d0 := hrow.one
          simp only [Nat.mul_one] at hix d0
          have hkk : Hid ((xs ++ ys.take q).length = n + q) := by show (xs ++ ys.take q).length = n + q; have := NL.out; simp; omega
          go_wp2_with (first
            | (at_builtin; refine wpList_append_F rfl _ _ 34 rfl w.heap.size 5 i0 (.int .u8 0) 1 1 Try.underlying34 hi hz0 hz1 hz2 rfl (by decide) _ (n + q) rfl (hown.alloc byteF_firm _) hkk.out byteF_firm ys[q] [.int .u8 ys[q].toNat] ⟨wr.heap.size, 0, none⟩ rfl rfl (cell_one_new _ _ _) (fun u hu => by rw [List.mem_singleton.1 hu]; rfl) rfl (by omega) (by decide) (by simp; omega) ?_; intro ra rc w5 hown' hgrow hb5)
            | fail)
          rw [List.append_assoc, List.take_append_getElem hql] at hown'
          exact ⟨⟨q + 1, by omega, by go_num, (Below.alloc hbi hwi _).trans hb5, hown'⟩, by simp [intOf]; omega⟩
        · have hown3 := hown
          rw [List.take_of_length_le (by have := ML.out; omega)] at hown3
          have HO : Hid (OwnF (from_ w.heap.size) w.heap.size wr 5 1 byteF u5 (xs ++ ys)) := hown3
          clear hown hown2 hown3
          go_wp2
          go_ret
          obtain ⟨ao', cap', rfl⟩ := HO.out.slice
          have e1 : (xs ++ ys).length = n + m := by have := NL.out; have := ML.out; simp; omega
          have hO := HO.out
          rw [e1] at hO ⊢
          exact ⟨ao', cap', rfl, hbi, hO⟩
theorem joined_any (F G : Nat → Prop) (ao : Option Addr) (n cap : Nat) (xs : List UInt8) (bo : Option Addr) (m bcap : Nat) (ys : List UInt8) (w : World) (hX : SlF F w 1 byteF ao n cap xs) (hY : SlF G w 1 byteF bo m bcap ys) (hs : n + m ≤ 140737488355328) :
    Calls Try.prog 31 #[.slice ao n cap, .slice bo m bcap] w fun e w' => ∃ ao' cap', e = .returned (.slice ao' (n + m) cap') ∧ Below w.heap.size w w' ∧ SlF (from_ w.heap.size) w' 1 byteF ao' (n + m) cap' (xs ++ ys) := by
  refine (joined_own F G ao n cap xs bo m bcap ys w hX hY hs).mono ?_
  rintro e w' ⟨ao', cap', rfl, hb, hO⟩
  have e1 : (xs ++ ys).length = n + m := by have := hX.len; have := hY.len; simp; omega
  obtain ⟨a2, c2, e2, hS⟩ := hO.done byteF_firm (G := from_ w.heap.size) (by omega) (fun b _ h => h.elim id id)
  rw [e1] at e2 hS
  simp only [Value.slice.injEq] at e2
  obtain ⟨rfl, _, rfl⟩ := e2
  exact ⟨_, _, rfl, hb, hS⟩
/-- May a tape be? -/
def mayB (n : Nat) (s : Int) : Bool := decide (n ≤ 200000 ∧ 0 ≤ s ∧ s ≤ n)
set_option maxHeartbeats 1000000 in
theorem tapeMay_any (ao : Option Addr) (n cap : Nat) (s : Int) (w : World) :
    Calls Try.prog 40 #[.agg #[.slice ao n cap, .int .i64 s]] w fun e w' => e = .returned (.bool (mayB n s)) ∧ Below w.heap.size w w' := by
  by_cases h : n ≤ 200000
  · have h1 : (n : Int) ≤ 200000 := by omega
    have H : Hid (mayB n s = inB s 0 n) := by show mayB n s = _; unfold mayB inB; simp [h]
    clear h
    go_enter Try.func40, Try.ntmps40
    go_wp2_with (go_at_call 24; refine (in_any _ _ _ _).mono ?_; rintro e w' ⟨rfl, rfl⟩)
    go_ret
    exact ⟨ret_bool H.out.symm, (by repeat (first | exact Below.refl _ _ | assumption | refine below_step ?_ (by assumption) | refine below_step ?_ (Joins.below_draws _ _ _) | (refine Below.alloc ?_ (by first | omega | (simp; done) | (simp; omega)) _) | (refine Below.setCell ?_ (by first | omega | (simp; done) | (simp; omega)) _) | refine Below.drew ?_))⟩
  · have h1 : ¬ (n : Int) ≤ 200000 := by omega
    have H : Hid (mayB n s = false) := by show mayB n s = _; unfold mayB; simp; omega
    clear h
    go_enter Try.func40, Try.ntmps40
    go_wp2
    go_ret
    exact ⟨ret_bool H.out.symm, (by repeat (first | exact Below.refl _ _ | assumption | refine below_step ?_ (by assumption) | refine below_step ?_ (Joins.below_draws _ _ _) | (refine Below.alloc ?_ (by first | omega | (simp; done) | (simp; omega)) _) | (refine Below.setCell ?_ (by first | omega | (simp; done) | (simp; omega)) _) | refine Below.drew ?_))⟩
end Go.Proofs.Ytciomaeieggbiaa
