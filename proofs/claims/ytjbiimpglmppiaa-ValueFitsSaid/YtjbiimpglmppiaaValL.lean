/-
  The laws of package value, walked: each answers true, and leaves what was there as it was.
-/
import Derived.Test.YtjbiimpglmppiaaValZ
import Derived.Test.YtjbiimpglmppiaaValF
import Derived.Test.YtjbiimpglmppiaaCopy
import Derived.RegionTactic
import Derived.Deep.RegionWith
namespace Go.Proofs.Ytjbiimpglmppiaa
open Go.RowKit
set_option linter.unusedVariables false
set_option linter.unusedSimpArgs false

theorem eq_self (a : Int) : (a == a) = true := by simp

set_option maxHeartbeats 400000 in
theorem names_walk (s : ByteArray) (w : World) (hs : s.size ≤ maxLen) :
    Calls Try.prog 3 #[.string s] w fun e w' => e = .returned (.bool true) ∧ Below w.heap.size w w' := by
  go_enter Try.func3, Try.ntmps3
  go_wp2_with (first | (go_at_call 15; refine (name_any _ _ hs).mono ?_; rintro e w' ⟨rfl, rfl⟩) | (go_at_call 16; refine (nameFault_any _ _ hs).mono ?_; rintro e w' ⟨rfl, rfl⟩))
  go_ret
  exact ⟨rfl, Below.refl _ _⟩

set_option maxHeartbeats 400000 in
theorem checks_walk (k i : Int) (s : ByteArray) (w : World) (hs : s.size ≤ maxLen) :
    Calls Try.prog 5 #[.agg #[.int .i64 k, .int .i64 i, .string s]] w fun e w' => e = .returned (.bool true) ∧ Below w.heap.size w w' := by
  go_enter Try.func5, Try.ntmps5
  go_wp2_with fail
  refine (valCheck_any _ _ _ _ hs).mono ?_
  rintro e w1 ⟨rfl, hb1⟩
  obtain ⟨hc_w1, hf_w1⟩ := bcell hb1; have hs_w1 := hb1.size; (try simp only [World.size_alloc, World.size_drew] at hs_w1); have z0_w1 : w.heap.size < w1.heap.size := (by omega)
  go_wp2_with fail
  refine (valFault_any _ _ _ _ hs).mono ?_
  rintro e w2 ⟨rfl, hb2⟩
  go_wp2
  go_ret
  exact ⟨rfl, (by repeat (first | exact Below.refl _ _ | assumption | refine below_step ?_ (by assumption) | refine below_step ?_ (Joins.below_draws _ _ _) | (refine Below.alloc ?_ (by first | omega | (simp; done) | (simp; omega)) _) | (refine Below.setCell ?_ (by first | omega | (simp; done) | (simp; omega)) _) | refine Below.drew ?_))⟩

set_option maxHeartbeats 400000 in
theorem types_walk (nm : ByteArray) (ao : Option Addr) (n cap : Nat) (fs : List Fld) (w : World) (hnm : nm.size ≤ maxLen) (hF : SlR w 2 fldR ao n cap fs) :
    Calls Try.prog 6 #[.agg #[.string nm, .slice ao n cap]] w fun e w' => e = .returned (.bool true) ∧ Below w.heap.size w w' := by
  have hF1 := hF.mono fldR_stays (Joins.below_alloc1 w (.cells #[.string nm, .slice ao n cap] 38))
  go_enter Try.func6, Try.ntmps6
  go_wp2_with fail
  refine (checkType_any nm ao n cap fs _ hnm hF1).mono ?_
  rintro e w1 ⟨rfl, hb1⟩
  obtain ⟨hc_w1, hf_w1⟩ := bcell hb1; have hs_w1 := hb1.size; (try simp only [World.size_alloc, World.size_drew] at hs_w1); have z0_w1 : w.heap.size < w1.heap.size := (by omega)
  have hF2 := hF1.mono fldR_stays hb1
  go_wp2_with fail
  refine (typeFault_any nm ao n cap fs _ hnm hF2).mono ?_
  rintro e w2 ⟨rfl, hb2⟩
  go_wp2
  go_ret
  exact ⟨rfl, (by repeat (first | exact Below.refl _ _ | assumption | refine below_step ?_ (by assumption) | refine below_step ?_ (Joins.below_draws _ _ _) | (refine Below.alloc ?_ (by first | omega | (simp; done) | (simp; omega)) _) | (refine Below.setCell ?_ (by first | omega | (simp; done) | (simp; omega)) _) | refine Below.drew ?_))⟩

set_option maxHeartbeats 400000 in
theorem fields_walk (nm : ByteArray) (ao : Option Addr) (n cap : Nat) (fs : List Fld) (name : ByteArray) (w : World) (hnm : nm.size ≤ maxLen) (hF : SlR w 2 fldR ao n cap fs) :
    Calls Try.prog 7 #[.agg #[.string nm, .slice ao n cap], .string name] w fun e w' => e = .returned (.bool true) ∧ Below w.heap.size w w' := by
  have hF1 := hF.mono fldR_stays (Joins.below_alloc1 w (.cells #[.string nm, .slice ao n cap] 38))
  go_enter Try.func7, Try.ntmps7
  go_wp2_with fail
  refine (field_any nm ao n cap fs name _ hnm hF1).mono ?_
  rintro e w1 ⟨rfl, hb1⟩
  obtain ⟨hc_w1, hf_w1⟩ := bcell hb1; have hs_w1 := hb1.size; (try simp only [World.size_alloc, World.size_drew] at hs_w1); have z0_w1 : w.heap.size < w1.heap.size := (by omega)
  have hF2 := hF1.mono fldR_stays hb1
  go_wp2_with fail
  refine (fieldOf_any nm ao n cap fs name _ hnm hF2).mono ?_
  rintro e w2 ⟨rfl, hb2⟩
  have q1 := eq_self (fieldX nm fs name)
  have q2 := eq_self (fieldK nm fs name)
  have q3 := eq_self (fieldE nm fs name)
  go_wp2
  go_ret
  exact ⟨rfl, (by repeat (first | exact Below.refl _ _ | assumption | refine below_step ?_ (by assumption) | refine below_step ?_ (Joins.below_draws _ _ _) | (refine Below.alloc ?_ (by first | omega | (simp; done) | (simp; omega)) _) | (refine Below.setCell ?_ (by first | omega | (simp; done) | (simp; omega)) _) | refine Below.drew ?_))⟩

theorem valR_one : OneCells valR := fun _ row v h u hu => by
  rw [h.1] at hu
  simp [valC] at hu
  rcases hu with rfl | rfl | rfl <;> rfl
theorem info_value : (Try.prog.info? 33).map (fun i => (i.zero, i.size, i.bytes)) = some (some (.agg #[.int .i64 0, .int .i64 0, .string ByteArray.empty]), 3, 32) := by kernel_rfl

set_option maxHeartbeats 400000 in
theorem fits_walk (nm : ByteArray) (ao : Option Addr) (n cap : Nat) (fs : List Fld) (vo : Option Addr) (m vcap : Nat) (vs : List Val) (w : World) (hnm : nm.size ≤ maxLen) (hF : SlR w 2 fldR ao n cap fs) (hV : SlR w 3 valR vo m vcap vs) (hm : m * 32 ≤ 140737488355328) :
    Calls Try.prog 9 #[.agg #[.string nm, .slice ao n cap], .slice vo m vcap] w fun e w' => e = .returned (.bool true) ∧ Below w.heap.size w w' := by
  have hF1 := hF.mono fldR_stays (Joins.below_alloc1 w (.cells #[.string nm, .slice ao n cap] 38))
  have hd : Below w.heap.size w (w.alloc (.cells #[.string nm, .slice ao n cap] 38)).drew := (Joins.below_alloc1 w _).drew
  have hV1 := hV.mono valR_stays hd
  have hF1 := hF.mono fldR_stays hd
  obtain ⟨i0, hi, hz0, hz1, hz2⟩ := info_parts info_value
  obtain ⟨vo2, vcap2, w1, hrun, hV2, hb1⟩ := run_copy_rows (P := Try.prog) Try.underlying27 hi hz0 hz1 hz2 rfl (by omega) valR_stays valR_one hV1 hm
  have hs1 : w.heap.size + 1 ≤ w1.heap.size := by have := hb1.size; simpa using this
  have e0 : w1.cell? ⟨w.heap.size, 0, none⟩ = some (.string nm) := (hb1.cell (p := ⟨w.heap.size, 0, none⟩) (by simp)).trans (by simp)
  have e1 : w1.cell? ⟨w.heap.size, 1, none⟩ = some (.slice ao n cap) := (hb1.cell (p := ⟨w.heap.size, 1, none⟩) (by simp)).trans (by simp)
  have z0 : w.heap.size < w1.heap.size := by omega
  have hF2 := hF1.mono fldR_stays hb1
  have hV3 := hV1.mono valR_stays hb1
  go_enter Try.func9, Try.ntmps9
  go_wp2_with fail
  go_region_law (first | (refine step_append_run rfl (.const (.slice none 0 0)) (.tmp 8) 27 rfl rfl rfl (by simp [Act.eval, Act.put]) hrun ?_) | (go_simp; go_at_call 27; refine (fit_any nm ao n cap fs vo2 m vcap2 vs _ hnm hF2 hV2).mono ?_; rintro e w2 ⟨rfl, hb2⟩; have g0 : w2.cell? ⟨w.heap.size, 0, none⟩ = some (.string nm) := (hb2.cell (p := ⟨w.heap.size, 0, none⟩) z0).trans e0; have g1 : w2.cell? ⟨w.heap.size, 1, none⟩ = some (.slice ao n cap) := (hb2.cell (p := ⟨w.heap.size, 1, none⟩) z0).trans e1))
  all_goals
    go_wp2_with fail
    refine (fitFault_any nm ao n cap fs vo m vcap vs _ hnm (hF2.mono fldR_stays hb2) (hV3.mono valR_stays hb2)).mono ?_
    rintro e w3 ⟨rfl, hb3⟩
    go_wp2
    go_ret
    exact ⟨rfl, below_step (below_step (below_step hd hb1) hb2) hb3⟩
end Go.Proofs.Ytjbiimpglmppiaa
