/-
  wheel.Play and the reference's Played, at whatever deeds; the law WheelPlays.
-/
import Derived.Test.YtpnhkkjjdcjmgaaWiJ
import Derived.Test.YtpnhkkjjdcjmgaaCopy
import Derived.Deep.QuietTactic
import Derived.RegionTactic
import Derived.StillTailTactics
namespace Go.Proofs.Ytpnhkkjjdcjmgaa
open Go.RowKit
set_option linter.unusedVariables false
set_option linter.unusedSimpArgs false

theorem played_none (now : Int) (a1 : Option Addr) (c1 : Nat) (w : World) :
    Calls Try.prog 5 #[.int .i64 now, .slice a1 0 c1] w (PlayP (playR now []) w) := by
  have HT := Lib.hid (timeMay_any now w)
  unfold PlayP
  by_cases h : now < 0 ∨ 1099511627776 < now
  · have hr : playR now [] = ([], [], 2) := by unfold playR; rw [if_pos h]
    rw [hr]
    have e0 : (decide (0 ≤ now) && decide (now ≤ 1099511627776)) = false := by
      rcases h with h | h
      · rw [decide_eq_false (by omega), Bool.false_and]
      · rw [decide_eq_false (show ¬ now ≤ 1099511627776 by omega), Bool.and_false]
    rw [e0] at HT
    clear h e0
    go_enter Try.func5, Try.ntmps5
    go_wp2_with (go_at_call 11; refine HT.out.mono ?_; rintro e w5 ⟨rfl, hb5⟩)
    go_ret3
    exact ⟨_, _, _, _, _, _, rfl, hb5, SlF.nil, SlF.nil⟩
  · have hr : playR now [] = ([], [], 0) := by unfold playR; rw [if_neg h, if_neg (by simp)]; rfl
    rw [hr]
    have e0 : (decide (0 ≤ now) && decide (now ≤ 1099511627776)) = true := by
      rw [decide_eq_true (by omega), decide_eq_true (show now ≤ 1099511627776 by omega)]; rfl
    rw [e0] at HT
    clear h e0
    go_enter Try.func5, Try.ntmps5
    go_wp2_with (go_at_call 11; refine HT.out.mono ?_; rintro e w5 ⟨rfl, hb5⟩)
    refine wp_loop_rounds 1 ?_
    rw [rounds_succ]
    go_wp2
    go_ret3
    exact ⟨_, _, _, _, _, _, rfl, hb5, SlF.nil, SlF.nil⟩
theorem played_bad (now : Int) (l : List Ded) (a1 : Option Addr) (n1 c1 : Nat) (w : World) (hn : n1 = l.length) (h : now < 0 ∨ 1099511627776 < now ∨ 2000 < l.length) :
    Calls Try.prog 5 #[.int .i64 now, .slice a1 n1 c1] w (PlayP (playR now l) w) := by
  subst hn
  have HT := Lib.hid (timeMay_any now w)
  unfold PlayP
  by_cases h2 : now < 0 ∨ 1099511627776 < now
  · have hr : playR now l = ([], [], 2) := by unfold playR; rw [if_pos h2]
    rw [hr]
    have e0 : (decide (0 ≤ now) && decide (now ≤ 1099511627776)) = false := by
      rcases h2 with h | h
      · rw [decide_eq_false (by omega), Bool.false_and]
      · rw [decide_eq_false (show ¬ now ≤ 1099511627776 by omega), Bool.and_false]
    rw [e0] at HT
    clear h h2 e0
    go_enter Try.func5, Try.ntmps5
    go_wp2_with (go_at_call 11; refine HT.out.mono ?_; rintro e w5 ⟨rfl, hb5⟩)
    go_ret3
    exact ⟨_, _, _, _, _, _, rfl, hb5, SlF.nil, SlF.nil⟩
  · have h3 : 2000 < l.length := by omega
    have hr : playR now l = ([], [], 1) := by unfold playR; rw [if_neg h2, if_pos h3]
    rw [hr]
    have h4 : (2000 : Int) < (l.length : Int) := by omega
    have e0 : (decide (0 ≤ now) && decide (now ≤ 1099511627776)) = true := by
      rw [decide_eq_true (by omega), decide_eq_true (show now ≤ 1099511627776 by omega)]; rfl
    rw [e0] at HT
    clear h h2 e0 h3
    go_enter Try.func5, Try.ntmps5
    go_wp2_with (go_at_call 11; refine HT.out.mono ?_; rintro e w5 ⟨rfl, hb5⟩)
    go_ret3
    exact ⟨_, _, _, _, _, _, rfl, hb5, SlF.nil, SlF.nil⟩
theorem block_in {F : Nat → Prop} {w : World} {a1 : Option Addr} {n1 c1 : Nat} {l : List Ded} (X : SlF F w 3 dedF a1 n1 c1 l) (h : l ≠ []) : ∃ g, g < w.heap.size := by
  obtain ⟨b, off, row, e, hF, hlt, _⟩ := X.2.2.2.2 0 (List.length_pos_iff.2 h)
  exact ⟨b, hlt⟩
theorem play_any (now : Int) (l : List Ded) (F : Nat → Prop) (a1 : Option Addr) (n1 c1 : Nat) (w : World) (X : SlF F w 3 dedF a1 n1 c1 l) :
    Calls Try.prog 4 #[.int .i64 now, .slice a1 n1 c1] w (PlayP (playR now l) w) := by
  by_cases h0 : l = []
  · subst h0
    obtain rfl : n1 = 0 := X.len
    exact play_none now a1 c1 w
  · obtain ⟨g, hg⟩ := block_in X h0
    by_cases h : now < 0 ∨ 1099511627776 < now ∨ 2000 < l.length
    · exact play_bad hg now l a1 n1 c1 X.len h
    · obtain ⟨nw, rfl⟩ : ∃ nw : Nat, now = (nw : Int) := ⟨now.toNat, by omega⟩
      exact play_main hg nw (by omega) l F a1 n1 c1 X (by omega)
theorem played_any (now : Int) (l : List Ded) (F : Nat → Prop) (a1 : Option Addr) (n1 c1 : Nat) (w : World) (X : SlF F w 3 dedF a1 n1 c1 l) :
    Calls Try.prog 5 #[.int .i64 now, .slice a1 n1 c1] w (PlayP (playR now l) w) := by
  by_cases h0 : l = []
  · subst h0
    obtain rfl : n1 = 0 := X.len
    exact played_none now a1 c1 w
  · obtain ⟨g, hg⟩ := block_in X h0
    by_cases h : now < 0 ∨ 1099511627776 < now ∨ 2000 < l.length
    · exact played_bad now l a1 n1 c1 w X.len h
    · obtain ⟨nw, rfl⟩ : ∃ nw : Nat, now = (nw : Int) := ⟨now.toNat, by omega⟩
      exact played_main hg nw (by omega) l F a1 n1 c1 X (by omega)
theorem size_int : SizeIs Try.prog 3 1 := fun w => by kernel_rfl
theorem size_err : SizeIs Try.prog 25 1 := fun w => by kernel_rfl
theorem size_ints : SizeIs Try.prog 41 1 := fun w => by kernel_rfl
theorem numF_one {F : Nat → Prop} {w : World} {row : List Value} {x : Int} (h : numF F w row x) : row = [.int .i64 x] := h
set_option maxHeartbeats 1000000 in
theorem sameInts_yes (F G : Nat → Prop) (ao : Option Addr) (n cap : Nat) (bo : Option Addr) (m bcap : Nat) (xs : List Int) (w : World) (hX : SlF F w 1 numF ao n cap xs) (hY : SlF G w 1 numF bo m bcap xs) :
    Calls Try.prog 16 #[.slice ao n cap, .slice bo m bcap] w fun e w' => e = .returned (.bool true) ∧ Below w.heap.size w w' := by
  obtain rfl : m = n := by rw [hX.len, hY.len]
  have NL : Hid (m = xs.length) := hX.len
  have hle := hX.le
  go_enter Try.func16, Try.ntmps16
  go_wp2_with fail
  go_loopw [5] (fun i wr => ∃ k : Nat, k ≤ m ∧ i = .int .i64 k ∧ Below w.heap.size w wr) (fun i _ => m - (intOf i).toNat)
  case atStart => exact ⟨0, by omega, rfl, Below.refl _ _⟩
  case round =>
    obtain ⟨k, hk, rfl, hbr⟩ := hrel
    by_cases hlt : k < m
    · have hkl : k < xs.length := by have := NL.out; omega
      obtain ⟨b, off, row, hix, hblt, hrow, hrr⟩ := (hX.below (plainF_firm _) hbr).toR.index (P := Try.prog) Try.underlying41 size_int (i := k) hkl
      obtain rfl := numF_one hrr
      obtain ⟨b2, off2, row2, hix2, hblt2, hrow2, hrr2⟩ := (hY.below (plainF_firm _) hbr).toR.index (P := Try.prog) Try.underlying41 size_int (i := k) hkl
      obtain rfl := numF_one hrr2
      have d0 := hrow.one
      have d1 := hrow2.one
      simp only [Nat.mul_one] at hix d0 hix2 d1
      go_wp2_with fail
      go_quiet (fail)
      go_wp2
      go_roundw
      case rel => exact ⟨k + 1, by omega, by go_num, (by repeat (first | exact Below.refl _ _ | assumption | refine below_step ?_ (by assumption) | refine below_step ?_ (Joins.below_draws _ _ _) | (refine Below.alloc ?_ (by first | omega | (simp; done) | (simp; omega)) _) | (refine Below.setCell ?_ (by first | omega | (simp; done) | (simp; omega)) _) | refine Below.drew ?_))⟩
      case measure => simp [intOf]; omega
    · go_wp2
      go_ret
      exact ⟨rfl, hbr⟩
set_option maxHeartbeats 1000000 in
theorem sameErrs_yes (F G : Nat → Prop) (ao : Option Addr) (n cap : Nat) (bo : Option Addr) (m bcap : Nat) (xs : List Int) (w : World) (hX : SlF F w 1 numF ao n cap xs) (hY : SlF G w 1 numF bo m bcap xs) :
    Calls Try.prog 6 #[.slice ao n cap, .slice bo m bcap] w fun e w' => e = .returned (.bool true) ∧ Below w.heap.size w w' := by
  obtain rfl : m = n := by rw [hX.len, hY.len]
  have NL : Hid (m = xs.length) := hX.len
  have hle := hX.le
  go_enter Try.func6, Try.ntmps6
  go_wp2_with fail
  go_loopw [5] (fun i wr => ∃ k : Nat, k ≤ m ∧ i = .int .i64 k ∧ Below w.heap.size w wr) (fun i _ => m - (intOf i).toNat)
  case atStart => exact ⟨0, by omega, rfl, Below.refl _ _⟩
  case round =>
    obtain ⟨k, hk, rfl, hbr⟩ := hrel
    by_cases hlt : k < m
    · have hkl : k < xs.length := by have := NL.out; omega
      obtain ⟨b, off, row, hix, hblt, hrow, hrr⟩ := (hX.below (plainF_firm _) hbr).toR.index (P := Try.prog) Try.underlying23 size_err (i := k) hkl
      obtain rfl := numF_one hrr
      obtain ⟨b2, off2, row2, hix2, hblt2, hrow2, hrr2⟩ := (hY.below (plainF_firm _) hbr).toR.index (P := Try.prog) Try.underlying23 size_err (i := k) hkl
      obtain rfl := numF_one hrr2
      have d0 := hrow.one
      have d1 := hrow2.one
      simp only [Nat.mul_one] at hix d0 hix2 d1
      go_wp2_with fail
      go_quiet (fail)
      go_wp2
      go_roundw
      case rel => exact ⟨k + 1, by omega, by go_num, (by repeat (first | exact Below.refl _ _ | assumption | refine below_step ?_ (by assumption) | refine below_step ?_ (Joins.below_draws _ _ _) | (refine Below.alloc ?_ (by first | omega | (simp; done) | (simp; omega)) _) | (refine Below.setCell ?_ (by first | omega | (simp; done) | (simp; omega)) _) | refine Below.drew ?_))⟩
      case measure => simp [intOf]; omega
    · go_wp2
      go_ret
      exact ⟨rfl, hbr⟩
set_option maxHeartbeats 1000000 in
theorem sameRows_yes (F G : Nat → Prop) (ao : Option Addr) (n cap : Nat) (bo : Option Addr) (m bcap : Nat) (xs : List (List Int)) (w : World) (hX : SlF F w 1 intsF ao n cap xs) (hY : SlF G w 1 intsF bo m bcap xs) :
    Calls Try.prog 7 #[.slice ao n cap, .slice bo m bcap] w fun e w' => e = .returned (.bool true) ∧ Below w.heap.size w w' := by
  obtain rfl : m = n := by rw [hX.len, hY.len]
  have NL : Hid (m = xs.length) := hX.len
  have hle := hX.le
  go_enter Try.func7, Try.ntmps7
  go_wp2_with fail
  go_loopw [5] (fun i wr => ∃ k : Nat, k ≤ m ∧ i = .int .i64 k ∧ Below w.heap.size w wr) (fun i _ => m - (intOf i).toNat)
  case atStart => exact ⟨0, by omega, rfl, Below.refl _ _⟩
  case round =>
    obtain ⟨k, hk, rfl, hbr⟩ := hrel
    by_cases hlt : k < m
    · have hkl : k < xs.length := by have := NL.out; omega
      obtain ⟨b, off, row, hix, hblt, hrow, ao1, n1, cap1, rfl, hS1⟩ := (hX.below intsF_firm hbr).toR.index (P := Try.prog) Try.underlying24 size_ints (i := k) hkl
      obtain ⟨b2, off2, row2, hix2, hblt2, hrow2, ao2, n2, cap2, rfl, hS2⟩ := (hY.below intsF_firm hbr).toR.index (P := Try.prog) Try.underlying24 size_ints (i := k) hkl
      have H : Hid (∀ wx, Below wr.heap.size wr wx → Calls Try.prog 16 #[.slice ao1 n1 cap1, .slice ao2 n2 cap2] wx fun e w' => e = .returned (.bool true) ∧ Below wx.heap.size wx w') := fun wx hb => sameInts_yes F G ao1 n1 cap1 ao2 n2 cap2 xs[k] wx (hS1.below (plainF_firm _) hb) (hS2.below (plainF_firm _) hb)
      have d0 := hrow.one
      have d1 := hrow2.one
      simp only [Nat.mul_one] at hix d0 hix2 d1
      go_wp2_with fail
      go_region_with (go_at_call 16; refine (H.out _ (by repeat (first | exact Below.refl _ _ | assumption | refine below_step ?_ (by assumption) | refine below_step ?_ (Joins.below_draws _ _ _) | (refine Below.alloc ?_ (by first | omega | (simp; done) | (simp; omega)) _) | (refine Below.setCell ?_ (by first | omega | (simp; done) | (simp; omega)) _) | refine Below.drew ?_))).mono ?_; rintro e w1 ⟨rfl, hb1⟩)
      all_goals
        go_wp2
        go_roundw
        case rel => exact ⟨k + 1, by omega, by go_num, (by repeat (first | exact Below.refl _ _ | assumption | refine below_step ?_ (by assumption) | refine below_step ?_ (Joins.below_draws _ _ _) | (refine Below.alloc ?_ (by first | omega | (simp; done) | (simp; omega)) _) | (refine Below.setCell ?_ (by first | omega | (simp; done) | (simp; omega)) _) | refine Below.drew ?_))⟩
        case measure => simp [intOf]; omega
    · go_wp2
      go_ret
      exact ⟨rfl, hbr⟩
instance : RowI Try.prog 22 40 3 := ⟨⟨Try.underlying22, ⟨.agg ([.int .i64 0, .int .i64 0, .int .i64 0] : List Value).toArray, by kernel_rfl, rfl⟩, by kernel_rfl, by kernel_rfl, by omega, by omega⟩⟩
theorem bytes_ded : Try.prog.bytesOf 40 = 24 := by kernel_rfl
set_option maxHeartbeats 4000000 in
set_option maxRecDepth 100000 in
theorem wheelPlays_walk (now : Int) (l : List Ded) (F : Nat → Prop) (ao : Option Addr) (n cap : Nat) (w : World) (hL : SlF F w 3 dedF ao n cap l) (hn : n * 24 ≤ 140737488355328) :
    Calls Try.prog 3 #[.int .i64 now, .slice ao n cap] w fun e w' => e = .returned (.bool true) ∧ Below w.heap.size w w' := by
  obtain ⟨g1, ti, z, g2, g3, g4, g5, g6, g7, g8, g9⟩ := (inferInstance : RowI Try.prog 22 40 3).row.open
  have hby : ti.bytes = 24 := by
    have h := bytes_ded
    unfold Program.bytesOf at h
    rw [g2] at h
    simpa using h
  obtain ⟨ao', cap', w', hrun, hS, hb⟩ := run_copy_to (G := from_ w.heap.size) g1 g2 g3 g4 hby g5 g6 dedF_firm (fun F wx row x hx q hq => by
    rw [hx.1] at hq
    exact one_cons rfl (one_cons rfl (one_cons rfl one_nil)) q hq) hL hn (Nat.le_refl _) none (World.ownsRow_nil _ _ _ _) (fun b h => h) (fun _ _ h => h)
  have H1 := Lib.hid (play_any now l _ ao' n cap' w' hS)
  have H2 : Hid (∀ wx, Below w.heap.size w wx → Calls Try.prog 5 #[.int .i64 now, .slice ao n cap] wx (PlayP (playR now l) wx)) := fun wx hb => played_any now l F ao n cap wx (hL.below dedF_firm hb)
  unfold PlayP at H1 H2
  obtain ⟨r, hr⟩ : ∃ r, playR now l = r := ⟨_, rfl⟩
  rw [hr] at H1 H2
  obtain ⟨rc, rd, rk⟩ := r
  simp only at H1 H2
  clear hr g1 g2 g3 g4 g5 g6 g7 g8 g9 hby
  go_enter Try.func3, Try.ntmps3
  go_wp2_with (first | (at_builtin; refine wpList_append_run rfl _ _ 22 rfl rfl rfl rfl hrun ?_) | fail)
  refine H1.out.mono ?_
  rintro e w1 ⟨a1, n1, c1, a2, n2, c2, rfl, hb1, hP1, hP2⟩
  clear hrun
  go_wp2_with fail
  refine (H2.out _ (hb.trans (hb1.mono hb.size))).mono ?_
  rintro e w2 ⟨a3, n3, c3, a4, n4, c4, rfl, hb2, hP3, hP4⟩
  have hP1' := hP1.below (plainF_firm _) hb2
  have hP2' := hP2.below intsF_firm hb2
  clear hP1 hP2
  go_wp2_with fail
  refine (sameErrs_yes _ _ a1 n1 c1 a3 n3 c3 rc _ hP1' hP3).mono ?_
  rintro e w3 ⟨rfl, hb3⟩
  go_wp2_with fail
  refine (sameRows_yes _ _ a2 n2 c2 a4 n4 c4 rd _ (hP2'.below intsF_firm hb3) (hP4.below intsF_firm hb3)).mono ?_
  rintro e w4 ⟨rfl, hb4⟩
  go_wp2
  go_ret
  exact ⟨ret_bool (by simp), (by repeat (first | exact Below.refl _ _ | assumption | refine below_step ?_ (by assumption) | refine below_step ?_ (Joins.below_draws _ _ _) | (refine Below.alloc ?_ (by first | omega | (simp; done) | (simp; omega)) _) | (refine Below.setCell ?_ (by first | omega | (simp; done) | (simp; omega)) _) | refine Below.drew ?_))⟩
end Go.Proofs.Ytpnhkkjjdcjmgaa
