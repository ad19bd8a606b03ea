/-
  The walks of package value and of its reference, fifth part: do values fit a type?
-/
import Derived.Test.YthlnheckaoeooaaDoorValY
namespace Go.Proofs.YthlnheckaoeooaaDoor
open Go.RowKit
set_option linter.unusedVariables false
set_option linter.unusedSimpArgs false

/-- What the i'th value is refused for; whether it is of its field's kind. -/
def valsE (vs : List Val) (i : Nat) : Int := valE (vs.getD i default)
def kindE (vs : List Val) (fs : List Fld) (i : Nat) : Int := if (vs.getD i default).kind = (fs.getD i default).kind then 0 else 13
/-- What values are refused for, of a type. -/
def fitE (nm : ByteArray) (fs : List Fld) (vs : List Val) : Int :=
  if typE nm fs = 0 then (if firstN (valsE vs) vs.length = 0 then (if vs.length = fs.length then firstN (kindE vs fs) vs.length else 13) else firstN (valsE vs) vs.length) else typE nm fs
theorem vals_getD (vs : List Val) (i : Nat) (hi : i < vs.length) : vs.getD i default = vs[i] := by simp [List.getD, List.getElem?_eq_getElem hi]

set_option maxHeartbeats 2000000 in
theorem fit_any (nm : ByteArray) (ao : Option Addr) (n cap : Nat) (fs : List Fld) (vo : Option Addr) (m vcap : Nat) (vs : List Val) (w : World) (hnm : nm.size ≤ maxLen) (hF : SlR w 2 fldR ao n cap fs) (hV : SlR w 3 valR vo m vcap vs) :
    Calls Tryd.prog 28 #[.agg #[.string nm, .slice ao n cap], .slice vo m vcap] w fun e w' => e = .returned (.int .i64 (fitE nm fs vs)) ∧ Below w.heap.size w w' := by
  have NL : Hid (n = fs.length) := hF.len
  have ML : Hid (m = vs.length) := hV.len
  have hle := hF.le
  have hvle := hV.le
  have hF1 := hF.mono fldR_stays (Joins.below_alloc1 w (.cells #[.string nm, .slice ao n cap] 68))
  have hV1 := hV.mono valR_stays (Joins.below_alloc1 w (.cells #[.string nm, .slice ao n cap] 68))
  by_cases hz : typE nm fs = 0
  · have hz1 : (typE nm fs != 0) = false := by simp [hz]
    have H : Hid (typE nm fs = 0) := hz; clear hz
    go_enter Tryd.func28, Tryd.ntmps28
    go_wp2_with fail
    refine (checkType_any nm ao n cap fs _ hnm hF1).mono ?_
    rintro e w1 ⟨rfl, hb1⟩
    obtain ⟨hc_w1, hf_w1⟩ := bcell hb1; have hs_w1 := hb1.size; (try simp only [World.size_alloc, World.size_drew, World.size_setCell] at hs_w1); (try simp only [World.size_drew, World.cell?_drew, World.frozen?_drew] at hc_w1 hf_w1); have z0_w1 : w.heap.size < w1.heap.size := (by omega)
    have hF2 := hF1.mono fldR_stays hb1
    have hV2 := hV1.mono valR_stays hb1
    go_wp2_with fail
    go_loopw [18] (fun i wr => ∃ k : Nat, k ≤ m ∧ i = .int .i64 k ∧ AllZ (valsE vs) k ∧ Below w1.heap.size w1 wr) (fun i _ => m - (intOf i).toNat)
    case atStart => exact ⟨0, by omega, rfl, allZ_zero _, Below.refl _ _⟩
    case round =>
      obtain ⟨k, hk, rfl, haz, hbr⟩ := hrel
      obtain ⟨hc_wr, hf_wr⟩ := bcell hbr; have hs_wr := hbr.size; (try simp only [World.size_alloc, World.size_drew, World.size_setCell] at hs_wr); (try simp only [World.size_drew, World.cell?_drew, World.frozen?_drew] at hc_wr hf_wr); have z0_wr : w.heap.size < wr.heap.size := (by omega)
      have hFr := hF2.mono fldR_stays hbr
      have hVr := hV2.mono valR_stays hbr
      by_cases hlt : k < m
      · obtain ⟨b, off, row, hix, hblt, hrow, hrr, hvn⟩ := hVr.index (P := Tryd.prog) Tryd.underlying28 size_value (i := k) (by have := ML.out; omega)
        subst hrr
        obtain ⟨c0, c1, c2⟩ := hrow.three
        have hkl : k < vs.length := by have := ML.out; omega
        have hgd : Hid (valsE vs k = valE vs[k]) := by show valsE vs k = _; unfold valsE; rw [vals_getD vs k hkl]
        by_cases hnz : valE vs[k] = 0
        · have hnz1 : (valE vs[k] != 0) = false := by simp [hnz]
          have N : Hid (valE vs[k] = 0) := hnz; clear hnz
          go_wp2_with fail
          refine (valCheck_any _ _ _ _ hvn).mono ?_
          rintro e w2 ⟨rfl, hb2⟩
          go_wp2
          go_roundw
          case rel => exact ⟨k + 1, by omega, by go_num, allZ_succ haz (by rw [hgd.out]; exact N.out), (by repeat (first | exact Below.refl _ _ | assumption | refine below_step ?_ (by assumption) | refine below_step ?_ (Joins.below_draws _ _ _) | (refine Below.alloc ?_ (by first | omega | (simp; done) | (simp; omega)) _) | (refine Below.setCell ?_ (by first | omega | (simp; done) | (simp; omega)) _) | refine Below.drew ?_))⟩
          case measure => simp [intOf]; omega
        · have hnz1 : (valE vs[k] != 0) = true := by simp [hnz]
          have N : Hid (¬ valE vs[k] = 0) := hnz; clear hnz
          go_wp2_with fail
          refine (valCheck_any _ _ _ _ hvn).mono ?_
          rintro e w2 ⟨rfl, hb2⟩
          go_wp2
          go_ret
          have h2 := firstN_at haz hkl (by rw [hgd.out]; exact N.out)
          rw [hgd.out] at h2
          exact ⟨ret_int (by have := N.out; simp [fitE, H.out, h2, this]), (by repeat (first | exact Below.refl _ _ | assumption | refine below_step ?_ (by assumption) | refine below_step ?_ (Joins.below_draws _ _ _) | (refine Below.alloc ?_ (by first | omega | (simp; done) | (simp; omega)) _) | (refine Below.setCell ?_ (by first | omega | (simp; done) | (simp; omega)) _) | refine Below.drew ?_))⟩
      · have hkm : k = m := by omega
        have VZ : Hid (firstN (valsE vs) vs.length = 0) := by
          have := ML.out
          have h1 : k = vs.length := by omega
          subst h1
          exact firstN_zero haz
        clear hlt
        by_cases hnm2 : m = n
        · have hne : ((m : Int) != (n : Int)) = false := by simp [hnm2]
          have EQ : Hid (m = n) := hnm2; clear hnm2
          have KM : Hid (k = m) := hkm
          have hge : ¬ (k : Int) < (m : Int) := by omega
          clear hkm
          obtain ⟨wo, rfl⟩ : ∃ wo : World, wo = wr := ⟨_, rfl⟩
          go_wp2_with fail
          go_loopw [36] (fun i wr => ∃ j : Nat, j ≤ m ∧ i = .int .i64 j ∧ AllZ (kindE vs fs) j ∧ Below wo.heap.size wo wr) (fun i _ => m - (intOf i).toNat)
          case atStart => exact ⟨0, by omega, rfl, allZ_zero _, Below.refl _ _⟩
          case round =>
            obtain ⟨j, hj, rfl, haz2, hbr2⟩ := hrel
            obtain ⟨hc_wr, hf_wr⟩ := bcell hbr2; have hs_wr := hbr2.size; (try simp only [World.size_alloc, World.size_drew, World.size_setCell] at hs_wr); (try simp only [World.size_drew, World.cell?_drew, World.frozen?_drew] at hc_wr hf_wr); have z0_wr : w.heap.size < wr.heap.size := (by omega)
            have hFj := hFr.mono fldR_stays hbr2
            have hVj := hVr.mono valR_stays hbr2
            by_cases hjm : j < m
            · have hjl : j < vs.length := by have := ML.out; omega
              have hjf : j < fs.length := by have := NL.out; have := EQ.out; omega
              obtain ⟨b, off, row, hix, hblt, hrow, hrr, hvn⟩ := hVj.index (P := Tryd.prog) Tryd.underlying28 size_value hjl
              subst hrr
              obtain ⟨c0, c1, c2⟩ := hrow.three
              obtain ⟨b2, off2, row2, hix2, hblt2, hrow2, hrr2, hfn2⟩ := hFj.index (P := Tryd.prog) Tryd.underlying66 size_field hjf
              subst hrr2
              obtain ⟨d0, d1⟩ := hrow2.two
              have hjn : (j : Int) < (n : Int) := by have := EQ.out; omega
              by_cases hkd : vs[j].kind = fs[j].kind
              · have hkd1 : (vs[j].kind != fs[j].kind) = false := by simp [hkd]
                have K0 : Hid (kindE vs fs j = 0) := by show kindE vs fs j = 0; unfold kindE; rw [vals_getD vs j hjl, fldE_of fs j hjf, if_pos hkd]
                clear hkd
                go_wp2_with fail
                go_quiet (fail)
                go_wp2
                go_roundw
                case rel => exact ⟨j + 1, by omega, by go_num, allZ_succ haz2 K0.out, (by repeat (first | exact Below.refl _ _ | assumption | refine below_step ?_ (by assumption) | refine below_step ?_ (Joins.below_draws _ _ _) | (refine Below.alloc ?_ (by first | omega | (simp; done) | (simp; omega)) _) | (refine Below.setCell ?_ (by first | omega | (simp; done) | (simp; omega)) _) | refine Below.drew ?_))⟩
                case measure => simp [intOf]; omega
              · have hkd1 : (vs[j].kind != fs[j].kind) = true := by simp [hkd]
                have K0 : Hid (kindE vs fs j = 13) := by show kindE vs fs j = 13; unfold kindE; rw [vals_getD vs j hjl, fldE_of fs j hjf, if_neg hkd]
                clear hkd
                go_wp2_with fail
                go_quiet (fail)
                go_wp2
                go_ret
                have h2 := firstN_at haz2 hjl (by rw [K0.out]; omega)
                rw [K0.out] at h2
                exact ⟨ret_int (by have := NL.out; have := ML.out; have := EQ.out; simp [fitE, H.out, VZ.out, h2]; try omega), (by repeat (first | exact Below.refl _ _ | assumption | refine below_step ?_ (by assumption) | refine below_step ?_ (Joins.below_draws _ _ _) | (refine Below.alloc ?_ (by first | omega | (simp; done) | (simp; omega)) _) | (refine Below.setCell ?_ (by first | omega | (simp; done) | (simp; omega)) _) | refine Below.drew ?_))⟩
            · go_wp2
              go_ret
              have h1 : j = vs.length := by have := ML.out; omega
              subst h1
              exact ⟨ret_int (by have := NL.out; have := ML.out; have := EQ.out; simp [fitE, H.out, VZ.out, firstN_zero haz2]; try omega), (by repeat (first | exact Below.refl _ _ | assumption | refine below_step ?_ (by assumption) | refine below_step ?_ (Joins.below_draws _ _ _) | (refine Below.alloc ?_ (by first | omega | (simp; done) | (simp; omega)) _) | (refine Below.setCell ?_ (by first | omega | (simp; done) | (simp; omega)) _) | refine Below.drew ?_))⟩
        · have hne : ((m : Int) != (n : Int)) = true := by rw [bne_iff_ne]; omega
          have EQ : Hid (¬ m = n) := hnm2; clear hnm2
          have hge : ¬ (k : Int) < (m : Int) := by omega
          clear hkm
          go_wp2
          go_ret
          exact ⟨ret_int (by have := NL.out; have := ML.out; have := EQ.out; simp [fitE, H.out, VZ.out]; try omega), (by repeat (first | exact Below.refl _ _ | assumption | refine below_step ?_ (by assumption) | refine below_step ?_ (Joins.below_draws _ _ _) | (refine Below.alloc ?_ (by first | omega | (simp; done) | (simp; omega)) _) | (refine Below.setCell ?_ (by first | omega | (simp; done) | (simp; omega)) _) | refine Below.drew ?_))⟩
  · have hz1 : (typE nm fs != 0) = true := by simp [hz]
    have H : Hid (¬ typE nm fs = 0) := hz; clear hz
    go_enter Tryd.func28, Tryd.ntmps28
    go_wp2_with fail
    refine (checkType_any nm ao n cap fs _ hnm hF1).mono ?_
    rintro e w1 ⟨rfl, hb1⟩
    go_wp2
    go_ret
    exact ⟨ret_int (by simp [fitE, H.out]), (by repeat (first | exact Below.refl _ _ | assumption | refine below_step ?_ (by assumption) | refine below_step ?_ (Joins.below_draws _ _ _) | (refine Below.alloc ?_ (by first | omega | (simp; done) | (simp; omega)) _) | (refine Below.setCell ?_ (by first | omega | (simp; done) | (simp; omega)) _) | refine Below.drew ?_))⟩

set_option maxHeartbeats 2000000 in
theorem fitFault_any (nm : ByteArray) (ao : Option Addr) (n cap : Nat) (fs : List Fld) (vo : Option Addr) (m vcap : Nat) (vs : List Val) (w : World) (hnm : nm.size ≤ maxLen) (hF : SlR w 2 fldR ao n cap fs) (hV : SlR w 3 valR vo m vcap vs) :
    Calls Tryd.prog 37 #[.agg #[.string nm, .slice ao n cap], .slice vo m vcap] w fun e w' => e = .returned (.int .i64 (fitE nm fs vs)) ∧ Below w.heap.size w w' := by
  have NL : Hid (n = fs.length) := hF.len
  have ML : Hid (m = vs.length) := hV.len
  have hle := hF.le
  have hvle := hV.le
  have hF1 := hF.mono fldR_stays (Joins.below_alloc1 w (.cells #[.string nm, .slice ao n cap] 68))
  have hV1 := hV.mono valR_stays (Joins.below_alloc1 w (.cells #[.string nm, .slice ao n cap] 68))
  by_cases hz : typE nm fs = 0
  · have H : Hid (typE nm fs = 0) := hz; clear hz
    go_enter Tryd.func37, Tryd.ntmps37
    go_wp2_with fail
    refine (typeFault_any nm ao n cap fs _ hnm hF1).mono ?_
    rintro e w1 ⟨rfl, hb1⟩
    obtain ⟨hc_w1, hf_w1⟩ := bcell hb1; have hs_w1 := hb1.size; (try simp only [World.size_alloc, World.size_drew, World.size_setCell] at hs_w1); (try simp only [World.size_drew, World.cell?_drew, World.frozen?_drew] at hc_w1 hf_w1); have z0_w1 : w.heap.size < w1.heap.size := (by omega)
    have hF2 := hF1.mono fldR_stays hb1
    have hV2 := hV1.mono valR_stays hb1
    go_wp2_with fail
    go_loopw [5, 6] (fun e i wr => ∃ k : Nat, k ≤ m ∧ e = .int .i64 (firstN (valsE vs) k) ∧ i = .int .i64 k ∧ Below w1.heap.size w1 wr) (fun _ i _ => m - (intOf i).toNat)
    case atStart => exact ⟨0, by omega, by rw [H.out]; rfl, rfl, Below.refl _ _⟩
    case round =>
      obtain ⟨k, hk, rfl, rfl, hbr⟩ := hrel
      obtain ⟨hc_wr, hf_wr⟩ := bcell hbr; have hs_wr := hbr.size; (try simp only [World.size_alloc, World.size_drew, World.size_setCell] at hs_wr); (try simp only [World.size_drew, World.cell?_drew, World.frozen?_drew] at hc_wr hf_wr); have z0_wr : w.heap.size < wr.heap.size := (by omega)
      have hFr := hF2.mono fldR_stays hbr
      have hVr := hV2.mono valR_stays hbr
      by_cases hgo : k < m ∧ firstN (valsE vs) k = 0
      · obtain ⟨hlt, hfz⟩ := hgo
        have hfz1 : (firstN (valsE vs) k == 0) = true := by simp [hfz]
        have FZ : Hid (firstN (valsE vs) k = 0) := hfz; clear hfz
        obtain ⟨b, off, row, hix, hblt, hrow, hrr, hvn⟩ := hVr.index (P := Tryd.prog) Tryd.underlying28 size_value (i := k) (by have := ML.out; omega)
        subst hrr
        obtain ⟨c0, c1, c2⟩ := hrow.three
        have hkl : k < vs.length := by have := ML.out; omega
        have hgd : Hid (valsE vs k = valE vs[k]) := by show valsE vs k = _; unfold valsE; rw [vals_getD vs k hkl]
        go_wp2_with fail
        refine (valFault_any _ _ _ _ hvn).mono ?_
        rintro e w2 ⟨rfl, hb2⟩
        go_wp2
        go_roundw
        case rel => exact ⟨k + 1, by omega, by rw [firstN_succ FZ.out hgd.out], by go_num, (by repeat (first | exact Below.refl _ _ | assumption | refine below_step ?_ (by assumption) | refine below_step ?_ (Joins.below_draws _ _ _) | (refine Below.alloc ?_ (by first | omega | (simp; done) | (simp; omega)) _) | (refine Below.setCell ?_ (by first | omega | (simp; done) | (simp; omega)) _) | refine Below.drew ?_))⟩
        case measure => simp [intOf]; omega
      · have hend : k = m ∨ firstN (valsE vs) k ≠ 0 := by omega
        have EN : Hid (firstN (valsE vs) k = firstN (valsE vs) vs.length) := by
          have h1 := ML.out
          show firstN (valsE vs) k = _
          rw [firstN_end hk hend, h1]
        have hstop : ((k : Int) < (m : Int)) → (firstN (valsE vs) k == 0) = false := by
          intro h; rw [beq_eq_false_iff_ne]; omega
        by_cases hv0 : firstN (valsE vs) k = 0
        · have hkm : ¬ (k : Int) < (m : Int) := by omega
          have hv1 : (firstN (valsE vs) k != 0) = false := by simp [hv0]
          have VZ : Hid (firstN (valsE vs) vs.length = 0) := by show _ = _; rw [← EN.out]; exact hv0
          clear hv0 hgo hend hstop
          by_cases hnm2 : m = n
          · have hne : ((m : Int) != (n : Int)) = false := by simp [hnm2]
            have EQ : Hid (m = n) := hnm2; clear hnm2
            obtain ⟨wo, rfl⟩ : ∃ wo : World, wo = wr := ⟨_, rfl⟩
            go_wp2_with fail
            go_loopw [7] (fun i wr => ∃ j : Nat, j ≤ m ∧ i = .int .i64 j ∧ AllZ (kindE vs fs) j ∧ Below wo.heap.size wo wr) (fun i _ => m - (intOf i).toNat)
            case atStart => exact ⟨0, by omega, rfl, allZ_zero _, Below.refl _ _⟩
            case round =>
              obtain ⟨j, hj, rfl, haz2, hbr2⟩ := hrel
              obtain ⟨hc_wr, hf_wr⟩ := bcell hbr2; have hs_wr := hbr2.size; (try simp only [World.size_alloc, World.size_drew, World.size_setCell] at hs_wr); (try simp only [World.size_drew, World.cell?_drew, World.frozen?_drew] at hc_wr hf_wr); have z0_wr : w.heap.size < wr.heap.size := (by omega)
              have hFj := hFr.mono fldR_stays hbr2
              have hVj := hVr.mono valR_stays hbr2
              by_cases hjm : j < m
              · have hjl : j < vs.length := by have := ML.out; omega
                have hjf : j < fs.length := by have := NL.out; have := EQ.out; omega
                obtain ⟨b, off, row, hix, hblt, hrow, hrr, hvn⟩ := hVj.index (P := Tryd.prog) Tryd.underlying28 size_value hjl
                subst hrr
                obtain ⟨c0, c1, c2⟩ := hrow.three
                obtain ⟨b2, off2, row2, hix2, hblt2, hrow2, hrr2, hfn2⟩ := hFj.index (P := Tryd.prog) Tryd.underlying66 size_field hjf
                subst hrr2
                obtain ⟨d0, d1⟩ := hrow2.two
                have hjn : (j : Int) < (n : Int) := by have := EQ.out; omega
                by_cases hkd : vs[j].kind = fs[j].kind
                · have hkd1 : (vs[j].kind != fs[j].kind) = false := by simp [hkd]
                  have K0 : Hid (kindE vs fs j = 0) := by show kindE vs fs j = 0; unfold kindE; rw [vals_getD vs j hjl, fldE_of fs j hjf, if_pos hkd]
                  clear hkd
                  go_wp2_with fail
                  go_quiet (fail)
                  go_wp2
                  go_roundw
                  case rel => exact ⟨j + 1, by omega, by go_num, allZ_succ haz2 K0.out, (by repeat (first | exact Below.refl _ _ | assumption | refine below_step ?_ (by assumption) | refine below_step ?_ (Joins.below_draws _ _ _) | (refine Below.alloc ?_ (by first | omega | (simp; done) | (simp; omega)) _) | (refine Below.setCell ?_ (by first | omega | (simp; done) | (simp; omega)) _) | refine Below.drew ?_))⟩
                  case measure => simp [intOf]; omega
                · have hkd1 : (vs[j].kind != fs[j].kind) = true := by simp [hkd]
                  have K0 : Hid (kindE vs fs j = 13) := by show kindE vs fs j = 13; unfold kindE; rw [vals_getD vs j hjl, fldE_of fs j hjf, if_neg hkd]
                  clear hkd
                  go_wp2_with fail
                  go_quiet (fail)
                  go_wp2
                  go_ret
                  have h2 := firstN_at haz2 hjl (by rw [K0.out]; omega)
                  rw [K0.out] at h2
                  exact ⟨ret_int (by have := NL.out; have := ML.out; have := EQ.out; simp [fitE, H.out, VZ.out, h2]; try omega), (by repeat (first | exact Below.refl _ _ | assumption | refine below_step ?_ (by assumption) | refine below_step ?_ (Joins.below_draws _ _ _) | (refine Below.alloc ?_ (by first | omega | (simp; done) | (simp; omega)) _) | (refine Below.setCell ?_ (by first | omega | (simp; done) | (simp; omega)) _) | refine Below.drew ?_))⟩
              · go_wp2
                go_ret
                have h1 : j = vs.length := by have := ML.out; omega
                subst h1
                exact ⟨ret_int (by have := NL.out; have := ML.out; have := EQ.out; simp [fitE, H.out, VZ.out, firstN_zero haz2]; try omega), (by repeat (first | exact Below.refl _ _ | assumption | refine below_step ?_ (by assumption) | refine below_step ?_ (Joins.below_draws _ _ _) | (refine Below.alloc ?_ (by first | omega | (simp; done) | (simp; omega)) _) | (refine Below.setCell ?_ (by first | omega | (simp; done) | (simp; omega)) _) | refine Below.drew ?_))⟩
          · have hne : ((m : Int) != (n : Int)) = true := by rw [bne_iff_ne]; omega
            have EQ : Hid (¬ m = n) := hnm2; clear hnm2
            go_wp2
            go_ret
            exact ⟨ret_int (by have := NL.out; have := ML.out; have := EQ.out; simp [fitE, H.out, VZ.out]; try omega), (by repeat (first | exact Below.refl _ _ | assumption | refine below_step ?_ (by assumption) | refine below_step ?_ (Joins.below_draws _ _ _) | (refine Below.alloc ?_ (by first | omega | (simp; done) | (simp; omega)) _) | (refine Below.setCell ?_ (by first | omega | (simp; done) | (simp; omega)) _) | refine Below.drew ?_))⟩
        · have hv1 : (firstN (valsE vs) k != 0) = true := by simp [hv0]
          have hv2 : (firstN (valsE vs) k == 0) = false := by simp [hv0]
          have VZ : Hid (¬ firstN (valsE vs) vs.length = 0) := by show ¬ _ = _; rw [← EN.out]; exact hv0
          clear hv0 hgo hend hstop
          by_cases hkm : (k : Int) < (m : Int)
          · go_wp2
            go_ret
            exact ⟨ret_int (by rw [EN.out]; simp [fitE, H.out, VZ.out]), (by repeat (first | exact Below.refl _ _ | assumption | refine below_step ?_ (by assumption) | refine below_step ?_ (Joins.below_draws _ _ _) | (refine Below.alloc ?_ (by first | omega | (simp; done) | (simp; omega)) _) | (refine Below.setCell ?_ (by first | omega | (simp; done) | (simp; omega)) _) | refine Below.drew ?_))⟩
          · go_wp2
            go_ret
            exact ⟨ret_int (by rw [EN.out]; simp [fitE, H.out, VZ.out]), (by repeat (first | exact Below.refl _ _ | assumption | refine below_step ?_ (by assumption) | refine below_step ?_ (Joins.below_draws _ _ _) | (refine Below.alloc ?_ (by first | omega | (simp; done) | (simp; omega)) _) | (refine Below.setCell ?_ (by first | omega | (simp; done) | (simp; omega)) _) | refine Below.drew ?_))⟩
  · have hz1 : (typE nm fs != 0) = true := by simp [hz]
    have hz2 : (typE nm fs == 0) = false := by simp [hz]
    have H : Hid (¬ typE nm fs = 0) := hz; clear hz
    go_enter Tryd.func37, Tryd.ntmps37
    go_wp2_with fail
    refine (typeFault_any nm ao n cap fs _ hnm hF1).mono ?_
    rintro e w1 ⟨rfl, hb1⟩
    go_wp2_with fail
    go_loopw [5, 6] (fun e i wr => e = .int .i64 (typE nm fs) ∧ i = .int .i64 0 ∧ wr = w1) (fun _ _ _ => 0)
    case atStart => exact ⟨rfl, rfl, rfl⟩
    case round =>
      obtain ⟨rfl, rfl, rfl⟩ := hrel
      by_cases hm0 : 0 < m
      · go_wp2
        go_ret
        exact ⟨ret_int (by simp [fitE, H.out]), (by repeat (first | exact Below.refl _ _ | assumption | refine below_step ?_ (by assumption) | refine below_step ?_ (Joins.below_draws _ _ _) | (refine Below.alloc ?_ (by first | omega | (simp; done) | (simp; omega)) _) | (refine Below.setCell ?_ (by first | omega | (simp; done) | (simp; omega)) _) | refine Below.drew ?_))⟩
      · go_wp2
        go_ret
        exact ⟨ret_int (by simp [fitE, H.out]), (by repeat (first | exact Below.refl _ _ | assumption | refine below_step ?_ (by assumption) | refine below_step ?_ (Joins.below_draws _ _ _) | (refine Below.alloc ?_ (by first | omega | (simp; done) | (simp; omega)) _) | (refine Below.setCell ?_ (by first | omega | (simp; done) | (simp; omega)) _) | refine Below.drew ?_))⟩
end Go.Proofs.YthlnheckaoeooaaDoor
