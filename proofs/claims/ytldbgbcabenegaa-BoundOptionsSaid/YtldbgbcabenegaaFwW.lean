/-
  The walk of package bound's shut: a matrix of the call's own is tightened in place.
-/
import Derived.Test.YtldbgbcabenegaaBndM
import Derived.Test.YtldbgbcabenegaaFwC
import Derived.StillTailTactics
namespace Go.Proofs.Ytldbgbcabenegaa
open Go.RowKit
set_option linter.unusedVariables false
set_option linter.unusedSimpArgs false

theorem sum_any (a b : Int) (w : World) : Calls Try.prog 31 #[.int .i64 a, .int .i64 b] w fun e w' => e = .returned (.int .i64 (stB a b)) ∧ w' = w := by
  unfold stB NOB
  by_cases ha : a = 1152921504606846976
  · subst ha
    rw [if_pos (Or.inl rfl)]
    go_enter Try.func31, Try.ntmps31
    go_wp2
    all_goals
      go_ret
      exact ⟨rfl, rfl⟩
  · have q1 : (a == 1152921504606846976) = false := by simpa using ha
    by_cases hb : b = 1152921504606846976
    · subst hb
      rw [if_pos (Or.inr rfl)]
      clear ha
      go_enter Try.func31, Try.ntmps31
      go_wp2
      all_goals
        go_ret
        exact ⟨rfl, rfl⟩
    · have q2 : (b == 1152921504606846976) = false := by simpa using hb
      rw [if_neg (by intro h; rcases h with h | h; exact ha h; exact hb h)]
      clear ha hb
      go_enter Try.func31, Try.ntmps31
      go_wp2
      all_goals
        go_ret
        exact ⟨rfl, rfl⟩
theorem fold_more {σ : Type} (f : σ → Nat → σ) (s : σ) (k : Nat) : (List.range (k + 1)).foldl f s = f ((List.range k).foldl f s) k := by
  rw [List.range_succ, List.foldl_append]; rfl

/-- Is each point where it is? -/
def okb (n : Nat) (g : Mx) : Bool := (List.range n).all fun i => decide (0 ≤ g i i)
theorem okb_iff {n : Nat} {g : Mx} : okb n g = true ↔ okB n g := by
  unfold okb okB
  rw [List.all_eq_true]
  constructor
  · intro h i hi; simpa using h i (List.mem_range.2 hi)
  · intro h i hi; simpa using h i (List.mem_range.1 hi)
set_option maxHeartbeats 4000000 in
set_option maxRecDepth 100000 in
theorem shut_any (B : Nat) (ao : Option Addr) (n cap : Nat) (gs : Nat → Nat) (g : Mx) (w : World) (hB : B ≤ w.heap.size) (hG : Grid (from_ B) w ao n cap gs g) :
    Calls Try.prog 19 #[.slice ao n cap] w fun e w' => e = .returned (.bool (okb n (shutF n g))) ∧ Below B w w' ∧ Grid (from_ B) w' ao n cap gs (shutF n g) := by
  have HG := Lib.hid hG
  have hle := hG.le
  have hmax := hG.max
  unfold maxLen at hmax
  clear hG
  go_enter Try.func19, Try.ntmps19
  go_wp2_with fail
  go_loopw [9] (fun k wr => ∃ q : Nat, q ≤ n ∧ k = .int .i64 q ∧ Below B w wr ∧ Hid (Grid (from_ B) wr ao n cap gs ((List.range q).foldl (layF n) g))) (fun k _ => n - (intOf k).toNat)
  case atStart => exact ⟨0, by omega, rfl, Below.refl _ _, HG.out⟩
  case round =>
    obtain ⟨k, hk, rfl, hbr, GR⟩ := hrel
    by_cases hkn : k < n
    · have hk1 : (k : Int) < n := by omega
      generalize hgk : (List.range k).foldl (layF n) g = gk at GR
      have GK := Lib.hid hgk
      clear hgk
      go_wp2_with fail
      go_loopw [14] (fun i wr => ∃ p : Nat, p ≤ n ∧ i = .int .i64 p ∧ Below B w wr ∧ Hid (Grid (from_ B) wr ao n cap gs ((List.range p).foldl (rowF n k) gk))) (fun i _ => n - (intOf i).toNat)
      case atStart => exact ⟨0, by omega, rfl, hbr, GR⟩
      case round =>
        obtain ⟨i, hi, rfl, hbi, GI⟩ := hrel
        clear GR hbr
        by_cases hin : i < n
        · have hi1 : (i : Int) < n := by omega
          generalize hgi : (List.range i).foldl (rowF n k) gk = gi at GI
          have GJ := Lib.hid hgi
          clear hgi
          go_wp2_with fail
          go_loopw [19] (fun j wr => ∃ p : Nat, p ≤ n ∧ j = .int .i64 p ∧ Below B w wr ∧ Hid (Grid (from_ B) wr ao n cap gs ((List.range p).foldl (cellF k i) gi))) (fun j _ => n - (intOf j).toNat)
          case atStart => exact ⟨0, by omega, rfl, hbi, GI⟩
          case round =>
            obtain ⟨j, hj, rfl, hbj, GC⟩ := hrel
            clear GI hbi
            by_cases hjn : j < n
            · have hj1 : (j : Int) < n := by omega
              generalize hgc : (List.range j).foldl (cellF k i) gi = gc at GC
              have GD := Lib.hid hgc
              clear hgc
              obtain ⟨Ai, rci, hAlt, hglt, hF, hne, h1, h2, hix, hcell, hent⟩ := GC.out.at hin
              obtain ⟨Ak, rck, hAlt', hglt', hF', hne', h1', h2', hix', hcell', hent'⟩ := GC.out.at hkn
              obtain ⟨e1, e2, e3⟩ := hent j hjn
              obtain ⟨e4, e5, e6⟩ := hent k hkn
              obtain ⟨e7, e8, e9⟩ := hent' j hjn
              have hmin : (if stB (gc i k) (gc k j) < gc i j then stB (gc i k) (gc k j) else gc i j) = min (gc i j) (stB (gc i k) (gc k j)) := by
                split
                · exact (Int.min_eq_right (by omega)).symm
                · exact (Int.min_eq_left (by omega)).symm
              have GS : Hid (Grid (from_ B) (wr.setCell ⟨gs i, j, none⟩ (.int .i64 (if stB (gc i k) (gc k j) < gc i j then stB (gc i k) (gc k j) else gc i j))).drew ao n cap gs ((List.range (j + 1)).foldl (cellF k i) gi)) := by
                show Grid _ _ _ _ _ _ _
                rw [fold_more, GD.out, hmin]
                exact (GC.out.store hin hjn (min (gc i j) (stB (gc i k) (gc k j)))).same (Same.drew)
              have hbS : Below B w (wr.setCell ⟨gs i, j, none⟩ (.int .i64 (if stB (gc i k) (gc k j) < gc i j then stB (gc i k) (gc k j) else gc i j))).drew := (hbj.setCell (p := ⟨gs i, j, none⟩) hF _).drew
              clear hent hent' hmin
              go_wp2_with fail
              go_still_tail 29, (by kernel_rfl)
              still_call (sum_any _ _ _)
              repeat still_step
              refine wpStill_nil ?_
              change wpList _ _ _ _ _ wr.drew
              go_wp2
              go_roundw
              case rel => exact ⟨j + 1, by omega, by go_num, hbS, GS⟩
              case measure => simp [intOf]; omega
            · obtain rfl : j = n := by omega
              have GN : Hid (Grid (from_ B) wr ao j cap gs ((List.range (i + 1)).foldl (rowF j k) gk)) := by
                show Grid _ _ _ _ _ _ _
                rw [fold_more, GJ.out]
                exact GC.out
              clear GC
              go_wp2
              go_roundw
              case rel => exact ⟨i + 1, by omega, by go_num, hbj, GN⟩
              case measure => simp [intOf]; omega
        · obtain rfl : i = n := by omega
          have GN : Hid (Grid (from_ B) wr ao i cap gs ((List.range (k + 1)).foldl (layF i) g)) := by
            show Grid _ _ _ _ _ _ _
            rw [fold_more, GK.out]
            exact GI.out
          clear GI
          go_wp2
          go_roundw
          case rel => exact ⟨k + 1, by omega, by go_num, hbi, GN⟩
          case measure => simp [intOf]; omega
    · obtain rfl : k = n := by omega
      have GZ : Hid (Grid (from_ B) wr ao k cap gs (shutF k g)) := GR.out
      clear GR
      obtain ⟨wz, hwz⟩ : ∃ wz : World, wz = wr := ⟨_, rfl⟩
      have WZ := Lib.hid hwz
      clear hwz
      go_wp2_with fail
      go_loopw [56] (fun i wr => ∃ q : Nat, q ≤ k ∧ i = .int .i64 q ∧ wr = wz ∧ Hid (∀ x, x < q → 0 ≤ shutF k g x x)) (fun i _ => k - (intOf i).toNat)
      case atStart => exact ⟨0, by omega, rfl, WZ.out.symm, fun x hx => absurd hx (Nat.not_lt_zero x)⟩
      case round =>
        obtain ⟨q, hq, rfl, rfl, HA⟩ := hrel
        rw [← WZ.out] at hbr GZ
        by_cases hqk : q < k
        · have hq1 : (q : Int) < k := by omega
          obtain ⟨Ai, rci, hAlt, hglt, hF, hne, h1, h2, hix, hcell, hent⟩ := GZ.out.at hqk
          obtain ⟨e1, e2, e3⟩ := hent q hqk
          clear hent
          by_cases hneg : shutF k g q q < 0
          · go_wp2
            go_ret
            refine ⟨ret_bool ?_, hbr, GZ.out⟩
            cases hc : okb k (shutF k g) with
            | false => rfl
            | true => exact absurd (okb_iff.1 hc q hqk) (by omega)
          · go_wp2
            go_roundw
            case rel => exact ⟨q + 1, by omega, by go_num, by first | rfl | trivial, fun x hx => by
              by_cases e : x = q
              · rw [e]; omega
              · exact HA.out x (by omega)⟩
            case measure => simp [intOf]; omega
        · have hqk' : ¬ (q : Int) < k := by omega
          go_wp2
          go_ret
          refine ⟨ret_bool ?_, hbr, GZ.out⟩
          exact (okb_iff.2 (fun x hx => HA.out x (by omega))).symm
end Go.Proofs.Ytldbgbcabenegaa
