/-
  The walks of package bound and its reference, third part: matrices made anew, their blocks told; matrices compared; the free matrix.
-/
import Derived.Test.YtldbgbcabenegaaBndW
import Derived.Test.YtldbgbcabenegaaOpen
import Derived.Laws.CopyOwn
import Derived.OwnWalk
import Derived.Deep.QuietTactic
import Derived.BigQuiet
namespace Go.Proofs.Ytldbgbcabenegaa
open Go.RowKit
set_option linter.unusedVariables false
set_option linter.unusedSimpArgs false

theorem info_int : (Try.prog.info? 3).map (fun i => (i.zero, i.size, i.bytes)) = some (some (.int .i64 0), 1, 8) := by kernel_rfl
theorem info_ints : (Try.prog.info? 38).map (fun i => (i.zero, i.size, i.bytes)) = some (some (.slice none 0 0), 1, 24) := by kernel_rfl
def lineF : (Nat → Prop) → World → List Value → List Int → Prop := sliceF 1 8 intF
theorem lineF_firm : Firm lineF := sliceF_firm intF_firm
theorem intF_one {F : Nat → Prop} {w : World} {row : List Value} {x : Int} (h : intF F w row x) : row = [.int .i64 x] := h

/-- The elder reading. -/
theorem line_old {F : Nat → Prop} {w : World} {row : List Value} {xs : List Int} (h : lineF F w row xs) : lineR w row xs := by
  obtain ⟨ao, n, cap, e, ⟨h1, h2, h3, h5, h4⟩, h8⟩ := h
  refine ⟨ao, n, cap, e, ⟨h1, h2, h3, h5, fun i hi => ?_⟩, Nat.le_trans h8 (by decide)⟩
  obtain ⟨b, off, row, e, _, hlt, hr, hx⟩ := h4 i hi
  exact ⟨b, off, row, e, hlt, hr, hx⟩
theorem mat_old {F : Nat → Prop} {w : World} {ao : Option Addr} {n cap : Nat} {m : List (List Int)} (h : SlF F w 1 lineF ao n cap m) : SlR w 1 lineR ao n cap m := by
  obtain ⟨h1, h2, h3, h5, h4⟩ := h
  refine ⟨h1, h2, h3, h5, fun i hi => ?_⟩
  obtain ⟨b, off, row, e, _, hlt, hr, hx⟩ := h4 i hi
  exact ⟨b, off, row, e, hlt, hr, line_old hx⟩

set_option maxHeartbeats 1000000 in
theorem sameInts_yes (F G : Nat → Prop) (ao : Option Addr) (n cap : Nat) (bo : Option Addr) (m bcap : Nat) (xs : List Int) (w : World) (hX : SlF F w 1 intF ao n cap xs) (hY : SlF G w 1 intF bo m bcap xs) :
    Calls Try.prog 13 #[.slice ao n cap, .slice bo m bcap] w fun e w' => e = .returned (.bool true) ∧ Below w.heap.size w w' := by
  obtain rfl : m = n := by rw [hX.len, hY.len]
  have NL : Hid (m = xs.length) := hX.len
  have hle := hX.le
  go_enter Try.func13, Try.ntmps13
  go_wp2_with fail
  go_loopw [5] (fun i wr => ∃ k : Nat, k ≤ m ∧ i = .int .i64 k ∧ Below w.heap.size w wr) (fun i _ => m - (intOf i).toNat)
  case atStart => exact ⟨0, by omega, rfl, Below.refl _ _⟩
  case round =>
    obtain ⟨k, hk, rfl, hbr⟩ := hrel
    by_cases hlt : k < m
    · have hkl : k < xs.length := by have := NL.out; omega
      obtain ⟨b, off, row, hix, hblt, hrow, hrr⟩ := (hX.below intF_firm hbr).toR.index (P := Try.prog) Try.underlying38 size_int (i := k) hkl
      obtain rfl := intF_one hrr
      obtain ⟨b2, off2, row2, hix2, hblt2, hrow2, hrr2⟩ := (hY.below intF_firm hbr).toR.index (P := Try.prog) Try.underlying38 size_int (i := k) hkl
      obtain rfl := intF_one hrr2
      have d0 := hrow.one
      have d1 := hrow2.one
      simp only [Nat.mul_one] at hix d0 hix2 d1
      go_wp2_with fail
      go_quiet (fail)
      go_wp2
      go_roundw
      case rel => exact ⟨k + 1, by omega, by go_num, (by repeat (first | exact Below.refl _ _ | assumption | refine below_step ?_ (by assumption) | refine below_step ?_ (Joins.below_draws _ _ _) | (refine Below.alloc ?_ (by first | omega | (simp; done) | (simp; omega)) _) | (refine Below.setCell ?_ (by first | omega | (simp; done) | (simp; omega)) _) | refine Below.drew ?_))⟩
      case measure => simp [intOf]; omega
    · go_wp2
      go_ret
      exact ⟨rfl, hbr⟩
set_option maxHeartbeats 1000000 in
theorem sameRows_yes (F G : Nat → Prop) (ao : Option Addr) (n cap : Nat) (bo : Option Addr) (m bcap : Nat) (xs : List (List Int)) (w : World) (hX : SlF F w 1 lineF ao n cap xs) (hY : SlF G w 1 lineF bo m bcap xs) :
    Calls Try.prog 6 #[.slice ao n cap, .slice bo m bcap] w fun e w' => e = .returned (.bool true) ∧ Below w.heap.size w w' := by
  obtain rfl : m = n := by rw [hX.len, hY.len]
  have NL : Hid (m = xs.length) := hX.len
  have hle := hX.le
  go_enter Try.func6, Try.ntmps6
  go_wp2_with fail
  go_loopw [5] (fun i wr => ∃ k : Nat, k ≤ m ∧ i = .int .i64 k ∧ Below w.heap.size w wr) (fun i _ => m - (intOf i).toNat)
  case atStart => exact ⟨0, by omega, rfl, Below.refl _ _⟩
  case round =>
    obtain ⟨k, hk, rfl, hbr⟩ := hrel
    by_cases hlt : k < m
    · have hkl : k < xs.length := by have := NL.out; omega
      obtain ⟨b, off, row, hix, hblt, hrow, ao1, n1, cap1, rfl, hS1, _⟩ := (hX.below lineF_firm hbr).toR.index (P := Try.prog) Try.underlying23 size_ints (i := k) hkl
      obtain ⟨b2, off2, row2, hix2, hblt2, hrow2, ao2, n2, cap2, rfl, hS2, _⟩ := (hY.below lineF_firm hbr).toR.index (P := Try.prog) Try.underlying23 size_ints (i := k) hkl
      have H : Hid (∀ wx, Below wr.heap.size wr wx → Calls Try.prog 13 #[.slice ao1 n1 cap1, .slice ao2 n2 cap2] wx fun e w' => e = .returned (.bool true) ∧ Below wx.heap.size wx w') := fun wx hb => sameInts_yes F G ao1 n1 cap1 ao2 n2 cap2 xs[k] wx (hS1.below intF_firm hb) (hS2.below intF_firm hb)
      have d0 := hrow.one
      have d1 := hrow2.one
      simp only [Nat.mul_one] at hix d0 hix2 d1
      go_wp2_with fail
      go_region_with (go_at_call 13; refine (H.out _ (by repeat (first | exact Below.refl _ _ | assumption | refine below_step ?_ (by assumption) | refine below_step ?_ (Joins.below_draws _ _ _) | (refine Below.alloc ?_ (by first | omega | (simp; done) | (simp; omega)) _) | (refine Below.setCell ?_ (by first | omega | (simp; done) | (simp; omega)) _) | refine Below.drew ?_))).mono ?_; rintro e w1 ⟨rfl, hb1⟩)
      all_goals
        go_wp2
        go_roundw
        case rel => exact ⟨k + 1, by omega, by go_num, (by repeat (first | exact Below.refl _ _ | assumption | refine below_step ?_ (by assumption) | refine below_step ?_ (Joins.below_draws _ _ _) | (refine Below.alloc ?_ (by first | omega | (simp; done) | (simp; omega)) _) | (refine Below.setCell ?_ (by first | omega | (simp; done) | (simp; omega)) _) | refine Below.drew ?_))⟩
        case measure => simp [intOf]; omega
    · go_wp2
      go_ret
      exact ⟨rfl, hbr⟩

theorem OwnF.lt {α : Type} {F : Nat → Prop} {B : Nat} {w : World} {e k : Nat} {R : (Nat → Prop) → World → List Value → α → Prop} {o : Value} {xs : List α} (h : OwnF F B w e k R o xs) : ∀ g, o.ownBlock = some g → g < w.heap.size := by
  obtain ⟨rs, h1, _⟩ := h
  rcases h1.2 with ⟨rfl, _⟩ | ⟨g, cap, cur, rfl, hg, hh, _⟩
  · intro g hg; simp [Value.ownBlock] at hg
  · intro g' hg'; simp [Value.ownBlock] at hg'; subst hg'; exact (Array.getElem?_eq_some_iff.1 hh).1
/-- What was made behind the slice's last turn lies in other blocks than it. -/
theorem off_new {α : Type} {F : Nat → Prop} {B B' : Nat} {w : World} {e k : Nat} {R : (Nat → Prop) → World → List Value → α → Prop} {o : Value} {xs : List α} (h : OwnF F B w e k R o xs) (hB : B' ≤ w.heap.size) : ∀ b, from_ w.heap.size b → off_ (from_ B') o b :=
  fun b hb => ⟨Nat.le_trans hB hb, fun e => by have := h.lt b e; unfold from_ at hb; omega⟩

set_option maxHeartbeats 2000000 in
theorem matNew_any (F : Nat → Prop) (ao : Option Addr) (n cap : Nat) (m : List (List Int)) (w : World) (hM : SlF F w 1 lineF ao n cap m) (h24 : n * 24 ≤ 140737488355328) :
    Calls Try.prog 28 #[.slice ao n cap] w fun e w' => ∃ ao' cap', e = .returned (.slice ao' n cap') ∧ Below w.heap.size w w' ∧ SlF (from_ w.heap.size) w' 1 lineF ao' n cap' m := by
  obtain ⟨i0, hi, hz0, hz1, hz2⟩ := info_parts info_int
  obtain ⟨i1, hi', hy0, hy1, hy2⟩ := info_parts info_ints
  have NL : Hid (n = m.length) := hM.len
  have hle := hM.le
  go_enter Try.func28, Try.ntmps28
  go_wp2_with fail
  go_loopw [3, 4] (fun o i wr => ∃ k : Nat, k ≤ n ∧ i = .int .i64 k ∧ Below w.heap.size w wr ∧ OwnF (from_ w.heap.size) w.heap.size wr 38 1 lineF o (m.take k)) (fun _ i _ => n - (intOf i).toNat)
  case atStart => exact ⟨0, by omega, rfl, Below.refl _ _, OwnF.empty⟩
  case round =>
    obtain ⟨k, hk, rfl, hbr, hmd⟩ := hrel
    have hwr : w.heap.size ≤ wr.heap.size := hbr.size
    have MD : Hid (OwnF (from_ w.heap.size) w.heap.size wr 38 1 lineF _ (m.take k)) := hmd
    clear hmd
    obtain ⟨hc_wr, hf_wr⟩ := bcell hbr; have hs_wr := hbr.size; (try simp only [World.size_alloc, World.size_drew, World.size_setCell] at hs_wr); (try simp only [World.size_drew, World.cell?_drew, World.frozen?_drew] at hc_wr hf_wr)
    by_cases hlt : k < n
    · have hkl : k < m.length := by have := NL.out; omega
      obtain ⟨b, off, row, hix, hblt, hrow, ao2, n2, cap2, rfl, hR, h8⟩ := (hM.below lineF_firm hbr).toR.index (P := Try.prog) Try.underlying24 size_ints (i := k) hkl
      have c0 := hrow.one
      simp only [Nat.mul_one] at hix c0
      have N2 : Hid (n2 = m[k].length) := hR.len
      have hle2 := hR.le
      obtain ⟨wo, rfl⟩ : ∃ wo : World, wo = wr := ⟨_, rfl⟩
      go_wp2_with fail
      go_loopw [5, 6] (fun r j wi => ∃ q : Nat, q ≤ n2 ∧ j = .int .i64 q ∧ Below wo.heap.size wo wi ∧ OwnF (from_ wo.heap.size) wo.heap.size wi 3 1 intF r (m[k].take q)) (fun _ j _ => n2 - (intOf j).toNat)
      case atStart => exact ⟨0, by omega, rfl, Below.refl _ _, OwnF.empty⟩
      case round =>
        obtain ⟨q, hq, rfl, hbi, hown⟩ := hrel
        obtain ⟨hc_wr, hf_wr⟩ := bcell hbi; have hs_wr := hbi.size; (try simp only [World.size_alloc, World.size_drew, World.size_setCell] at hs_wr); (try simp only [World.size_drew, World.cell?_drew, World.frozen?_drew] at hc_wr hf_wr)
        have cb := (hbi.cell (p := ⟨b, off + k, none⟩) hblt).trans c0
        have hwi : wo.heap.size ≤ wr.heap.size := hbi.size
        by_cases hqn : q < n2
        · have hql : q < m[k].length := by have := N2.out; omega
          obtain ⟨b2, off2, row2, hix2, hblt2, hrow2, hrr2⟩ := (hR.below intF_firm hbi).toR.index (P := Try.prog) Try.underlying38 size_int (i := q) hql
          obtain rfl := intF_one hrr2
          have d0 := hrow2.one
          simp only [Nat.mul_one] at hix2 d0
          have hkk : Hid ((m[k].take q).length = q) := by show (m[k].take q).length = q; simp; omega
          have hb8 : q + 1 ≤ 17592186044414 := by have := N2.out; omega
          go_wp2_with (first
            | (at_builtin; refine wpList_append_F rfl _ _ 38 rfl wo.heap.size 3 i0 (.int .i64 0) 1 8 Try.underlying38 hi hz0 hz1 hz2 rfl (by decide) _ q rfl (hown.alloc intF_firm _) hkk.out intF_firm m[k][q] [.int .i64 m[k][q]] ⟨wr.heap.size, 0, none⟩ rfl rfl (cell_one_new _ _ _) (fun u hu => by rw [List.mem_singleton.1 hu]; rfl) rfl (by omega) (by decide) (by simp; omega) ?_; intro ra rc w5 hown' hgrow hb5)
            | fail)
          rw [List.take_append_getElem hql] at hown'
          exact ⟨⟨q + 1, by omega, by go_num, (Below.alloc hbi hwi _).trans hb5, hown'⟩, by simp [intOf]; omega⟩
        · have hown2 := hown
          rw [List.take_of_length_le (by have := N2.out; omega)] at hown2
          have HO : Hid (OwnF (from_ wo.heap.size) wo.heap.size wr 3 1 intF u5 m[k]) := hown2
          clear hown2 hown
          obtain ⟨ra, rc, rfl, hS⟩ := HO.out.done intF_firm (G := from_ wo.heap.size) (by omega) (fun b _ h => h.elim id id)
          have M2 := (MD.out.below lineF_firm hbi).alloc lineF_firm (.cells #[.slice ra m[k].length rc] 38)
          have hy : lineF (off_ (from_ w.heap.size) u3) (wr.alloc (.cells #[.slice ra m[k].length rc] 38)) [.slice ra m[k].length rc] m[k] :=
            ⟨ra, _, rc, rfl, (hS.wide intF_firm (fun b hb _ => off_new MD.out hwr b hb)).below intF_firm (Joins.below_alloc1 wr _), h8⟩
          have hkk : Hid ((m.take k).length = k) := by show (m.take k).length = k; simp; omega
          have HY : Hid (lineF (off_ (from_ w.heap.size) u3) (wr.alloc (.cells #[.slice ra m[k].length rc] 38)) [.slice ra m[k].length rc] m[k]) := hy
          clear hy hS
          have hw2 : w.heap.size ≤ wr.heap.size := by omega
          go_wp2_with (first
            | (at_builtin; go_loud (refine wpList_append_F rfl _ _ 24 rfl w.heap.size 38 i1 (.slice none 0 0) 1 24 Try.underlying24 hi' hy0 hy1 hy2 rfl (by decide) _ k rfl M2 hkk.out lineF_firm m[k] [.slice ra m[k].length rc] ⟨wr.heap.size, 0, none⟩ rfl rfl (cell_one_new _ _ _) (fun u hu => by rw [List.mem_singleton.1 hu]; rfl) HY.out (by omega) (by decide) (by simp; omega) ?_); intro ra5 rc5 w5 hown' hgrow hb5)
            | fail)
          rw [List.take_append_getElem hkl] at hown'
          exact ⟨⟨k + 1, by omega, by go_num, (Below.alloc (hbr.trans (hbi.mono hbr.size)) hw2 _).trans hb5, hown'⟩, by simp [intOf]; omega⟩
    · have hkn : Hid (k = m.length) := by show k = m.length; have := NL.out; omega
      go_wp2
      go_ret
      have h2 := MD.out
      rw [List.take_of_length_le (by have := hkn.out; omega)] at h2
      obtain ⟨ao', cap', rfl, hS⟩ := h2.done lineF_firm (G := from_ w.heap.size) (by omega) (fun b _ h => h.elim id id)
      have h3 := NL.out
      subst h3
      exact ⟨ao', cap', rfl, hbr, hS⟩
end Go.Proofs.Ytldbgbcabenegaa
