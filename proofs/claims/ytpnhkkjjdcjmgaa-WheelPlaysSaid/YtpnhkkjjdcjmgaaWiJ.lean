/-
  The reference's Played. Printed by wij.py.
-/
import Derived.Test.YtpnhkkjjdcjmgaaWiI
namespace Go.Proofs.Ytpnhkkjjdcjmgaa
open Go.RowKit
set_option linter.unusedVariables false
set_option linter.unusedSimpArgs false

section
variable {At : PS → World → Prop} {b : Nat} {u w : World} {s : PS} {L : List Ent} {x e1 e2 e3 e4 y : Ent}
theorem Mem.cut4 (M : Mem At b u w s (x :: e1 :: e2 :: e3 :: y :: L)) : Mem At b u w s (x :: e1 :: e2 :: e3 :: L) := M.cut [x, e1, e2, e3]
theorem Mem.dn3b (M : Mem At b u w s (x :: e1 :: e2 :: e3 :: L)) : Mem At b u w s (e1 :: e2 :: e3 :: x :: L) := M.perm (List.perm_middle (l₁ := [e1, e2, e3])).symm
theorem Mem.cut5b (M : Mem At b u w s (x :: e1 :: e2 :: e3 :: e4 :: y :: L)) : Mem At b u w s (x :: e1 :: e2 :: e3 :: e4 :: L) := M.cut [x, e1, e2, e3, e4]
theorem Mem.dn4b (M : Mem At b u w s (x :: e1 :: e2 :: e3 :: e4 :: L)) : Mem At b u w s (e1 :: e2 :: e3 :: e4 :: x :: L) := M.perm (List.perm_middle (l₁ := [e1, e2, e3, e4])).symm
end
section
variable {g : Nat} {w0 : World}
set_option maxRecDepth 8000 in
set_option maxHeartbeats 32000000 in
theorem played_main (hg : g < w0.heap.size) (nw : Nat) (hnw : nw ≤ 1099511627776) (l : List Ded) (F : Nat → Prop) (a1 : Option Addr) (n1 c1 : Nat) (X : SlF F w0 3 dedF a1 n1 c1 l) (hl : l.length ≤ 2000) :
    Calls Try.prog 5 #[.int .i64 nw, .slice a1 n1 c1] w0 (PlayP (playR nw l) w0) := by
  have M := Mem.begin hg ⟨0, 0⟩
  have HR : Hid (playR nw l = (codesL nw l l.length, duesL nw l l.length, 0)) := by
    show _ = _
    unfold playR
    rw [if_neg (by omega), if_neg (by omega)]
    rfl
  have HX := Lib.hid X
  have HN : Hid (n1 = l.length) := Lib.hid X.len
  have hle := X.le
  have hn2000 : n1 ≤ 2000 := by have := X.len; omega
  have h3 : ¬ 2000 < (n1 : Int) := by omega
  have HTN : Hid (∀ wx, Calls Try.prog 11 #[.int .i64 nw] wx fun e w' => e = .returned (.bool true) ∧ Below wx.heap.size wx w') := fun wx => by
    have := timeMay_any nw wx
    rwa [decide_eq_true (show (0 : Int) ≤ nw by omega), decide_eq_true (show (nw : Int) ≤ 1099511627776 by omega)] at this
  clear X hl
  go_enter Try.func5, Try.ntmps5
  go_wp2_with (first | (go_at_call 11; with_reducible refine (HTN.out _).mono ?_; rintro e w5 ⟨rfl, hb5⟩; replace M := M.below hb5; clear hb5) | (with_reducible (first | refine wq M ?_ | (refine wS M ?_; clear M; intro w M) | (refine wV M ?_; clear M; intro z w M) | (refine wR M ?_; clear M; intro q w M))))
  replace M := ((M.none_ (plainF_firm almC) 51 2).none_ intsF_firm 41 1).none_ (plainF_firm fun x : Int => [Value.int .i64 x]) 25 1
  go_loopg [0, 7, 8, 9, 10] n1 (fun f' i0 i7 i8 i9 i10 wr => ∃ (k : Nat) (r1 : Option Addr) (k1 : Nat) (r2 : Option Addr) (k2 : Nat) (r3 : Option Addr) (m3 k3 : Nat), k + f' = n1 ∧ i10 = .int .i64 k ∧ i0 = .int .i64 (atW nw l k).now ∧ i7 = .slice r1 k k1 ∧ i8 = .slice r2 k k2 ∧ i9 = .slice r3 m3 k3 ∧ Mem (StaysB g w0) g w0 wr ⟨0, 0⟩ (slc w0.heap.size 25 1 numF (.slice r1 k k1) (codesL nw l k) :: slc w0.heap.size 41 1 intsF (.slice r2 k k2) (duesL nw l k) :: slc w0.heap.size 51 2 almF (.slice r3 m3 k3) (atW nw l k).S :: []))
  case atStart => exact ⟨0, none, 0, none, 0, none, 0, 0, by omega, rfl, rfl, rfl, rfl, rfl, M⟩
  case round =>
    clear M HTN
    obtain ⟨k, r1, k1, r2, k2, r3, m3, k3, hk, rfl, rfl, rfl, rfl, rfl, M⟩ := hrel
    by_cases hlt : k < n1
    · have hkl : k < l.length := by have := HN.out; omega
      obtain ⟨cr, or, rowr, hixr, -, hrrr, hwr⟩ := SlF.rowAt (P := Try.prog) HX.out dedF_firm Try.underlying22 size_ded (i := k) hkl
      have er : rowr = dedC l[k] := hrrr.1
      rw [er] at hwr
      have HRW : Hid (∀ wx, Below w0.heap.size w0 wx → wx.rangeAt cr or [.int .i64 l[k].kind, .int .i64 l[k].id, .int .i64 l[k].at_]) := fun wx hb => (hwr wx hb).1
      have HCN := Lib.hid (codesL_next (now := nw) hkl)
      have HDN := Lib.hid (duesL_next (now := nw) hkl)
      have HAT := Lib.hid (atW_next (now := nw) hkl)
      have HCL := Lib.hid (codesL_len nw l k)
      have HDL := Lib.hid (duesL_len nw l k)
      have HOK := Lib.hid (atW_ok hnw (l := l) k (by omega))
      have HM3 : Hid (m3 = (atW nw l k).S.length) := Lib.hid (M.slf (plainF_firm almC) (i := 2) rfl (by decide)).len
      have hle3 := (M.slf (plainF_firm almC) (i := 2) rfl (by decide)).le
      clear er hrrr hwr
      generalize l[k] = d at *
      have HC8 : Hid ((codesL nw l k).length ≤ 100000000) := by show _ ≤ _; rw [HCL.out]; omega
      have HD8 : Hid ((duesL nw l k).length ≤ 100000000) := by show _ ≤ _; rw [HDL.out]; omega
      obtain ⟨cs, hcs⟩ : ∃ cs, codesL nw l k = cs := ⟨_, rfl⟩
      obtain ⟨dl, hdl⟩ : ∃ dl, duesL nw l k = dl := ⟨_, rfl⟩
      rw [hcs] at M HCN HCL HC8
      rw [hdl] at M HDN HDL HD8
      clear hcs hdl
      generalize atW nw l k = st at *
      have hm3 : m3 ≤ 100000 := by have := HM3.out; have := HOK.out.few; omega
      obtain ⟨ix, hix⟩ := idxOf_any st.S d.id
      have HIX := Lib.hid hix
      clear hix
      have HAL : Hid (∀ wx F, SlF F wx 2 almF r3 m3 k3 st.S → Calls Try.prog 13 #[.slice r3 m3 k3, .int .i64 d.id] wx fun e w' => e = .returned (.int .i64 ix) ∧ Below wx.heap.size wx w') := fun wx F Xx => alarmAt_any Xx d.id ix HIX.out hm3
      by_cases hk1 : d.kind = 1
      · have HCV : Hid (codeW st d = codeSet st d ∧ dueW st d = [] ∧ stepW st d = setW st d) := by
          unfold codeW dueW stepW
          rw [if_pos hk1, if_pos hk1, if_neg (by omega)]
          exact ⟨rfl, rfl, rfl⟩
        have hq1 : (d.kind == 1) = true := beq_iff_eq.2 hk1
        rw [HCV.out.1] at HCN
        rw [HCV.out.2.1] at HDN
        have HSTO : Hid (codeSet st d ≠ 0 → stepW st d = st) := fun h => by rw [HCV.out.2.2]; unfold setW; rw [if_neg h]
        by_cases h1 : 1 ≤ d.id ∧ d.id ≤ 1048576
        · have HIN : Hid (∀ wx, Calls Try.prog 12 #[.int .i64 d.id, .int .i64 1, .int .i64 1048576] wx fun e w' => e = .returned (.bool true) ∧ Below wx.heap.size wx w') := fun wx => by
            have := in_any d.id 1 1048576 wx
            rwa [decide_eq_true h1.1, decide_eq_true h1.2] at this
          by_cases h2 : d.at_ ≤ st.now ∨ 1099511627776 < d.at_
          · have HCO : Hid (codeSet st d = 12) := by show _ = _; unfold codeSet; rw [if_neg (by simpa using h1), if_pos h2]
            have HST := Lib.hid (HSTO.out (by rw [HCO.out]; decide))
            rw [HCO.out] at HCN
            clear HCV HSTO HCO
            by_cases h3 : d.at_ ≤ st.now
            · have hd3 : decide (d.at_ ≤ (st.now : Int)) = true := decide_eq_true h3
              clear h2
              go_upto_region 37 with (first | (go_at_call 12; with_reducible refine (HIN.out _).mono ?_; rintro e w5 ⟨rfl, hb5⟩; replace M := M.below hb5; clear hb5) | (with_reducible (first | refine wA (HRW.out _ M.new) ?_ | (refine wV M ?_; clear M; intro z11 w M) | refine wq M ?_ | (refine wS M ?_; clear M; intro w M) | (refine wV M ?_; clear M; intro z w M) | (refine wR M ?_; clear M; intro q w M))))
              go_wp2_with (first | (((with_reducible refine o_list rfl fun K hK => ?_); (refine q_app (R := numF) (plainF_firm _) M 2 rfl 12 rfl (by rfl) (by rfl) HC8.out ?_; clear M; intro ra3 rc3 w M; (try simp only [List.set_cons_zero, List.set_cons_succ] at M)); refine hK _ _ ?_; clear hK K)) | (((with_reducible refine o_list rfl fun K hK => ?_); (refine q_app (R := intsF) intsF_firm M 4 rfl [] ⟨none, 0, 0, rfl, SlF.nil⟩ (by rfl) (by rfl) HD8.out ?_; clear M; intro ra4 rc4 w M; (try simp only [List.set_cons_zero, List.set_cons_succ] at M)); refine hK _ _ ?_; clear hK K)) | (with_reducible (first | (refine w_ (q_rowv M ?_); clear M; intro q w M) | refine wq M ?_ | (refine wS M ?_; clear M; intro w M) | (refine wV M ?_; clear M; intro z w M) | (refine wR M ?_; clear M; intro q w M))))
              go_roundg (n1 - (k + 1))
              case measure => omega
              case rel => exact ⟨k + 1, ra3, rc3, ra4, rc4, r3, m3, k3, by omega, by go_num, by rw [HAT.out, HST.out], by rw [HCL.out], by rw [HDL.out], rfl, by rw [HCN.out, HDN.out, HAT.out, HST.out]; rw [HCL.out, HDL.out] at M; exact M.drop.drop.drop⟩
            · have h4 : 1099511627776 < d.at_ := by omega
              have hd3 : decide (d.at_ ≤ (st.now : Int)) = false := decide_eq_false h3
              have HTM : Hid (∀ wx, Calls Try.prog 11 #[.int .i64 d.at_] wx fun e w' => e = .returned (.bool false) ∧ Below wx.heap.size wx w') := fun wx => by
                have := timeMay_any d.at_ wx
                rwa [decide_eq_false (show ¬ d.at_ ≤ 1099511627776 by omega), Bool.and_false] at this
              clear h2
              go_upto_region 37 with (first | (go_at_call 12; with_reducible refine (HIN.out _).mono ?_; rintro e w5 ⟨rfl, hb5⟩; replace M := M.below hb5; clear hb5) | (go_at_call 11; with_reducible refine (HTM.out _).mono ?_; rintro e w5 ⟨rfl, hb5⟩; replace M := M.below hb5; clear hb5) | (with_reducible (first | refine wA (HRW.out _ M.new) ?_ | (refine wV M ?_; clear M; intro z11 w M) | refine wq M ?_ | (refine wS M ?_; clear M; intro w M) | (refine wV M ?_; clear M; intro z w M) | (refine wR M ?_; clear M; intro q w M))))
              go_wp2_with (first | (((with_reducible refine o_list rfl fun K hK => ?_); (refine q_app (R := numF) (plainF_firm _) M 2 rfl 12 rfl (by rfl) (by rfl) HC8.out ?_; clear M; intro ra3 rc3 w M; (try simp only [List.set_cons_zero, List.set_cons_succ] at M)); refine hK _ _ ?_; clear hK K)) | (((with_reducible refine o_list rfl fun K hK => ?_); (refine q_app (R := intsF) intsF_firm M 4 rfl [] ⟨none, 0, 0, rfl, SlF.nil⟩ (by rfl) (by rfl) HD8.out ?_; clear M; intro ra4 rc4 w M; (try simp only [List.set_cons_zero, List.set_cons_succ] at M)); refine hK _ _ ?_; clear hK K)) | (with_reducible (first | (refine w_ (q_rowv M ?_); clear M; intro q w M) | refine wq M ?_ | (refine wS M ?_; clear M; intro w M) | (refine wV M ?_; clear M; intro z w M) | (refine wR M ?_; clear M; intro q w M))))
              go_roundg (n1 - (k + 1))
              case measure => omega
              case rel => exact ⟨k + 1, ra3, rc3, ra4, rc4, r3, m3, k3, by omega, by go_num, by rw [HAT.out, HST.out], by rw [HCL.out], by rw [HDL.out], rfl, by rw [HCN.out, HDN.out, HAT.out, HST.out]; rw [HCL.out, HDL.out] at M; exact M.drop.drop.drop⟩
          · have h3 : ¬ d.at_ ≤ st.now := fun h => h2 (.inl h)
            have hd3 : decide (d.at_ ≤ (st.now : Int)) = false := decide_eq_false h3
            have HTM : Hid (∀ wx, Calls Try.prog 11 #[.int .i64 d.at_] wx fun e w' => e = .returned (.bool true) ∧ Below wx.heap.size wx w') := fun wx => by
              have := timeMay_any d.at_ wx
              rwa [decide_eq_true (show 0 ≤ d.at_ by omega), decide_eq_true (show d.at_ ≤ 1099511627776 by omega)] at this
            by_cases h5 : 1000 ≤ st.S.length
            · have HCO : Hid (codeSet st d = 8) := by show _ = _; unfold codeSet; rw [if_neg (by simpa using h1), if_neg h2, if_pos h5]
              have HST := Lib.hid (HSTO.out (by rw [HCO.out]; decide))
              rw [HCO.out] at HCN
              have h6 : 1000 ≤ m3 := by have := HM3.out; omega
              clear HCV HSTO HCO h2 h5
              go_upto_region 37 with (first | (go_at_call 12; with_reducible refine (HIN.out _).mono ?_; rintro e w5 ⟨rfl, hb5⟩; replace M := M.below hb5; clear hb5) | (go_at_call 11; with_reducible refine (HTM.out _).mono ?_; rintro e w5 ⟨rfl, hb5⟩; replace M := M.below hb5; clear hb5) | (with_reducible (first | refine wA (HRW.out _ M.new) ?_ | (refine wV M ?_; clear M; intro z11 w M) | refine wq M ?_ | (refine wS M ?_; clear M; intro w M) | (refine wV M ?_; clear M; intro z w M) | (refine wR M ?_; clear M; intro q w M))))
              go_wp2_with (first | (((with_reducible refine o_list rfl fun K hK => ?_); (refine q_app (R := numF) (plainF_firm _) M 2 rfl 8 rfl (by rfl) (by rfl) HC8.out ?_; clear M; intro ra3 rc3 w M; (try simp only [List.set_cons_zero, List.set_cons_succ] at M)); refine hK _ _ ?_; clear hK K)) | (((with_reducible refine o_list rfl fun K hK => ?_); (refine q_app (R := intsF) intsF_firm M 4 rfl [] ⟨none, 0, 0, rfl, SlF.nil⟩ (by rfl) (by rfl) HD8.out ?_; clear M; intro ra4 rc4 w M; (try simp only [List.set_cons_zero, List.set_cons_succ] at M)); refine hK _ _ ?_; clear hK K)) | (with_reducible (first | (refine w_ (q_rowv M ?_); clear M; intro q w M) | refine wq M ?_ | (refine wS M ?_; clear M; intro w M) | (refine wV M ?_; clear M; intro z w M) | (refine wR M ?_; clear M; intro q w M))))
              go_roundg (n1 - (k + 1))
              case measure => omega
              case rel => exact ⟨k + 1, ra3, rc3, ra4, rc4, r3, m3, k3, by omega, by go_num, by rw [HAT.out, HST.out], by rw [HCL.out], by rw [HDL.out], rfl, by rw [HCN.out, HDN.out, HAT.out, HST.out]; rw [HCL.out, HDL.out] at M; exact M.drop.drop.drop⟩
            · have h6 : ¬ 1000 ≤ m3 := by have := HM3.out; omega
              by_cases h7 : hasI st.S d.id = true
              · have HCO : Hid (codeSet st d = 7) := by show _ = _; unfold codeSet; rw [if_neg (by simpa using h1), if_neg h2, if_neg h5, if_pos h7]
                have HST := Lib.hid (HSTO.out (by rw [HCO.out]; decide))
                rw [HCO.out] at HCN
                have h8 : 0 ≤ ix := HIX.out.has.2 h7
                clear HCV HSTO HCO h2 h5 h7
                go_upto_region 37 with (first | (go_at_call 12; with_reducible refine (HIN.out _).mono ?_; rintro e w5 ⟨rfl, hb5⟩; replace M := M.below hb5; clear hb5) | (go_at_call 11; with_reducible refine (HTM.out _).mono ?_; rintro e w5 ⟨rfl, hb5⟩; replace M := M.below hb5; clear hb5) | (go_at_call 13; have hq := HAL.out _ _ (M.slf (plainF_firm almC) (i := 3) rfl (by decide)); with_reducible refine hq.mono ?_; clear hq; rintro e w5 ⟨rfl, hb5⟩; replace M := M.below hb5; clear hb5) | (with_reducible (first | refine wA (HRW.out _ M.new) ?_ | (refine wV M ?_; clear M; intro z11 w M) | refine wq M ?_ | (refine wS M ?_; clear M; intro w M) | (refine wV M ?_; clear M; intro z w M) | (refine wR M ?_; clear M; intro q w M))))
                go_wp2_with (first | (((with_reducible refine o_list rfl fun K hK => ?_); (refine q_app (R := numF) (plainF_firm _) M 2 rfl 7 rfl (by rfl) (by rfl) HC8.out ?_; clear M; intro ra3 rc3 w M; (try simp only [List.set_cons_zero, List.set_cons_succ] at M)); refine hK _ _ ?_; clear hK K)) | (((with_reducible refine o_list rfl fun K hK => ?_); (refine q_app (R := intsF) intsF_firm M 4 rfl [] ⟨none, 0, 0, rfl, SlF.nil⟩ (by rfl) (by rfl) HD8.out ?_; clear M; intro ra4 rc4 w M; (try simp only [List.set_cons_zero, List.set_cons_succ] at M)); refine hK _ _ ?_; clear hK K)) | (with_reducible (first | (refine w_ (q_rowv M ?_); clear M; intro q w M) | refine wq M ?_ | (refine wS M ?_; clear M; intro w M) | (refine wV M ?_; clear M; intro z w M) | (refine wR M ?_; clear M; intro q w M))))
                go_roundg (n1 - (k + 1))
                case measure => omega
                case rel => exact ⟨k + 1, ra3, rc3, ra4, rc4, r3, m3, k3, by omega, by go_num, by rw [HAT.out, HST.out], by rw [HCL.out], by rw [HDL.out], rfl, by rw [HCN.out, HDN.out, HAT.out, HST.out]; rw [HCL.out, HDL.out] at M; exact M.drop.drop.drop⟩
              · have HCO : Hid (codeSet st d = 0) := by show _ = _; unfold codeSet; rw [if_neg (by simpa using h1), if_neg h2, if_neg h5, if_neg h7]
                have h8 : ¬ 0 ≤ ix := fun h => h7 (HIX.out.has.1 h)
                have HST : Hid (stepW st d = ⟨st.now, st.S ++ [⟨d.id, d.at_.toNat, st.next + 1⟩], st.next + 1⟩) := by show _ = _; rw [HCV.out.2.2]; unfold setW; rw [if_pos HCO.out]
                rw [HCO.out] at HCN
                have HROW : Hid ([Value.int .i64 d.id, .int .i64 d.at_] = almC ⟨d.id, d.at_.toNat, st.next + 1⟩) := by
                  show _ = [Value.int .i64 d.id, .int .i64 ((d.at_.toNat : Nat) : Int)]
                  rw [Int.toNat_of_nonneg (by omega)]
                have HS8 : Hid (st.S.length ≤ 100000000) := by show _ ≤ _; omega
                clear HCV HSTO HCO h2 h5 h7
                go_upto_region 37 with (first | (go_at_call 12; with_reducible refine (HIN.out _).mono ?_; rintro e w5 ⟨rfl, hb5⟩; replace M := M.below hb5; clear hb5) | (go_at_call 11; with_reducible refine (HTM.out _).mono ?_; rintro e w5 ⟨rfl, hb5⟩; replace M := M.below hb5; clear hb5) | (go_at_call 13; have hq := HAL.out _ _ (M.slf (plainF_firm almC) (i := 3) rfl (by decide)); with_reducible refine hq.mono ?_; clear hq; rintro e w5 ⟨rfl, hb5⟩; replace M := M.below hb5; clear hb5) | (((with_reducible refine o_list rfl fun K hK => ?_); (refine q_app (R := almF) (plainF_firm _) M 4 rfl ⟨d.id, d.at_.toNat, st.next + 1⟩ HROW.out (by rfl) (by rfl) HS8.out ?_; clear M; intro ra5 rc5 w M; (try simp only [List.set_cons_zero, List.set_cons_succ] at M)); refine hK _ _ ?_; clear hK K)) | (with_reducible (first | refine wA (HRW.out _ M.new) ?_ | (refine wV M ?_; clear M; intro z11 w M) | (refine w_ (q_row M (by rfl) ?_); clear M; intro q5 w M) | refine wq M ?_ | (refine wS M ?_; clear M; intro w M) | (refine wV M ?_; clear M; intro z w M) | (refine wR M ?_; clear M; intro q w M))))
                replace M := M.drop
                go_wp2_with (first | (((with_reducible refine o_list rfl fun K hK => ?_); (refine q_app (R := numF) (plainF_firm _) M 2 rfl 0 rfl (by rfl) (by rfl) HC8.out ?_; clear M; intro ra3 rc3 w M; (try simp only [List.set_cons_zero, List.set_cons_succ] at M)); refine hK _ _ ?_; clear hK K)) | (((with_reducible refine o_list rfl fun K hK => ?_); (refine q_app (R := intsF) intsF_firm M 4 rfl [] ⟨none, 0, 0, rfl, SlF.nil⟩ (by rfl) (by rfl) HD8.out ?_; clear M; intro ra4 rc4 w M; (try simp only [List.set_cons_zero, List.set_cons_succ] at M)); refine hK _ _ ?_; clear hK K)) | (with_reducible (first | (refine w_ (q_rowv M ?_); clear M; intro q w M) | refine wq M ?_ | (refine wS M ?_; clear M; intro w M) | (refine wV M ?_; clear M; intro z w M) | (refine wR M ?_; clear M; intro q w M))))
                go_roundg (n1 - (k + 1))
                case measure => omega
                case rel => exact ⟨k + 1, ra3, rc3, ra4, rc4, ra5, _, rc5, by omega, by go_num, by rw [HAT.out, HST.out], by rw [HCL.out], by rw [HDL.out], rfl, by rw [HCN.out, HDN.out, HAT.out, HST.out]; rw [HCL.out, HDL.out] at M; exact M.drop.drop.drop⟩
        · have HIN : Hid (∀ wx, Calls Try.prog 12 #[.int .i64 d.id, .int .i64 1, .int .i64 1048576] wx fun e w' => e = .returned (.bool false) ∧ Below wx.heap.size wx w') := fun wx => by
            have := in_any d.id 1 1048576 wx
            by_cases h2 : 1 ≤ d.id
            · rwa [decide_eq_true h2, decide_eq_false (show ¬ d.id ≤ 1048576 by omega)] at this
            · rwa [decide_eq_false h2, Bool.false_and] at this
          have HCO : Hid (codeSet st d = 2) := by show _ = _; unfold codeSet; rw [if_pos h1]
          have HST := Lib.hid (HSTO.out (by rw [HCO.out]; decide))
          rw [HCO.out] at HCN
          clear HCV HSTO HCO h1
          go_upto_region 37 with (first | (go_at_call 12; with_reducible refine (HIN.out _).mono ?_; rintro e w5 ⟨rfl, hb5⟩; replace M := M.below hb5; clear hb5) | (with_reducible (first | refine wA (HRW.out _ M.new) ?_ | (refine wV M ?_; clear M; intro z11 w M) | refine wq M ?_ | (refine wS M ?_; clear M; intro w M) | (refine wV M ?_; clear M; intro z w M) | (refine wR M ?_; clear M; intro q w M))))
          go_wp2_with (first | (((with_reducible refine o_list rfl fun K hK => ?_); (refine q_app (R := numF) (plainF_firm _) M 2 rfl 2 rfl (by rfl) (by rfl) HC8.out ?_; clear M; intro ra3 rc3 w M; (try simp only [List.set_cons_zero, List.set_cons_succ] at M)); refine hK _ _ ?_; clear hK K)) | (((with_reducible refine o_list rfl fun K hK => ?_); (refine q_app (R := intsF) intsF_firm M 4 rfl [] ⟨none, 0, 0, rfl, SlF.nil⟩ (by rfl) (by rfl) HD8.out ?_; clear M; intro ra4 rc4 w M; (try simp only [List.set_cons_zero, List.set_cons_succ] at M)); refine hK _ _ ?_; clear hK K)) | (with_reducible (first | (refine w_ (q_rowv M ?_); clear M; intro q w M) | refine wq M ?_ | (refine wS M ?_; clear M; intro w M) | (refine wV M ?_; clear M; intro z w M) | (refine wR M ?_; clear M; intro q w M))))
          go_roundg (n1 - (k + 1))
          case measure => omega
          case rel => exact ⟨k + 1, ra3, rc3, ra4, rc4, r3, m3, k3, by omega, by go_num, by rw [HAT.out, HST.out], by rw [HCL.out], by rw [HDL.out], rfl, by rw [HCN.out, HDN.out, HAT.out, HST.out]; rw [HCL.out, HDL.out] at M; exact M.drop.drop.drop⟩
      · have hq1 : (d.kind == 1) = false := beq_eq_false_iff_ne.2 hk1
        by_cases hk2 : d.kind = 2
        · have HCV : Hid (codeW st d = codeClear st d ∧ dueW st d = [] ∧ stepW st d = clearW st d) := by
            unfold codeW dueW stepW
            rw [if_neg hk1, if_neg hk1, if_pos hk2, if_pos hk2, if_neg (by omega)]
            exact ⟨rfl, rfl, rfl⟩
          have hq2 : (d.kind == 2) = true := beq_iff_eq.2 hk2
          rw [HCV.out.1] at HCN
          rw [HCV.out.2.1] at HDN
          by_cases h7 : hasI st.S d.id = true
          · have HCO : Hid (codeClear st d = 0) := by show _ = _; unfold codeClear; rw [if_pos h7]
            rw [HCO.out] at HCN
            have h8 : ¬ ix < 0 := by have := HIX.out.has.2 h7; omega
            obtain ⟨ik, hik, hixk, hikid, -⟩ : ∃ k, ∃ h : k < st.S.length, ix = (k : Int) ∧ st.S[k].id = d.id ∧ ∀ j (h : j < st.S.length), j < k → st.S[j].id ≠ d.id := by
              rcases HIX.out with ⟨e, h⟩ | h
              · exact absurd e (by omega)
              · exact h
            have HST : Hid (stepW st d = ⟨st.now, st.S.eraseIdx ik, st.next⟩) := by show _ = _; rw [HCV.out.2.2]; unfold clearW; rw [erase_filter hik hikid HOK.out.ids]
            subst hixk
            have h9 : ¬ (ik : Int) < 0 := h8
            clear HCV HCO h7 hik hikid h8
            go_upto_region 37 with (first | (go_at_call 13; have hq := HAL.out _ _ (M.slf (plainF_firm almC) (i := 3) rfl (by decide)); with_reducible refine hq.mono ?_; clear hq; rintro e w5 ⟨rfl, hb5⟩; replace M := M.below hb5; clear hb5) | (go_at_call 14; have hq := without_any (k := ik) M (i := 3) rfl hm3; with_reducible refine hq.mono ?_; clear hq M; go_loud (rintro e w5 ⟨vw, rfl, M⟩); obtain ⟨ra5, rc5, hvw⟩ := slc_slice M (i := 0) rfl; subst hvw) | (with_reducible (first | refine wA (HRW.out _ M.new) ?_ | (refine wV M ?_; clear M; intro z11 w M) | refine wq M ?_ | (refine wS M ?_; clear M; intro w M) | (refine wV M ?_; clear M; intro z w M) | (refine wR M ?_; clear M; intro q w M))))
            replace M := (M.cut4).dn3b
            go_wp2_with (first | (((with_reducible refine o_list rfl fun K hK => ?_); (refine q_app (R := numF) (plainF_firm _) M 2 rfl 0 rfl (by rfl) (by rfl) HC8.out ?_; clear M; intro ra3 rc3 w M; (try simp only [List.set_cons_zero, List.set_cons_succ] at M)); refine hK _ _ ?_; clear hK K)) | (((with_reducible refine o_list rfl fun K hK => ?_); (refine q_app (R := intsF) intsF_firm M 4 rfl [] ⟨none, 0, 0, rfl, SlF.nil⟩ (by rfl) (by rfl) HD8.out ?_; clear M; intro ra4 rc4 w M; (try simp only [List.set_cons_zero, List.set_cons_succ] at M)); refine hK _ _ ?_; clear hK K)) | (with_reducible (first | (refine w_ (q_rowv M ?_); clear M; intro q w M) | refine wq M ?_ | (refine wS M ?_; clear M; intro w M) | (refine wV M ?_; clear M; intro z w M) | (refine wR M ?_; clear M; intro q w M))))
            go_roundg (n1 - (k + 1))
            case measure => omega
            case rel => exact ⟨k + 1, ra3, rc3, ra4, rc4, ra5, _, rc5, by omega, by go_num, by rw [HAT.out, HST.out], by rw [HCL.out], by rw [HDL.out], rfl, by rw [HCN.out, HDN.out, HAT.out, HST.out]; rw [HCL.out, HDL.out] at M; exact M.drop.drop.drop⟩
          · have HCO : Hid (codeClear st d = 6) := by show _ = _; unfold codeClear; rw [if_neg h7]
            rw [HCO.out] at HCN
            have h8 : ix < 0 := by
              by_cases h : 0 ≤ ix
              · exact absurd (HIX.out.has.1 h) h7
              · omega
            have HST : Hid (stepW st d = st) := by show _ = _; rw [HCV.out.2.2]; exact clearW_none (by simpa using h7)
            clear HCV HCO h7
            go_upto_region 37 with (first | (go_at_call 13; have hq := HAL.out _ _ (M.slf (plainF_firm almC) (i := 3) rfl (by decide)); with_reducible refine hq.mono ?_; clear hq; rintro e w5 ⟨rfl, hb5⟩; replace M := M.below hb5; clear hb5) | (with_reducible (first | refine wA (HRW.out _ M.new) ?_ | (refine wV M ?_; clear M; intro z11 w M) | refine wq M ?_ | (refine wS M ?_; clear M; intro w M) | (refine wV M ?_; clear M; intro z w M) | (refine wR M ?_; clear M; intro q w M))))
            go_wp2_with (first | (((with_reducible refine o_list rfl fun K hK => ?_); (refine q_app (R := numF) (plainF_firm _) M 2 rfl 6 rfl (by rfl) (by rfl) HC8.out ?_; clear M; intro ra3 rc3 w M; (try simp only [List.set_cons_zero, List.set_cons_succ] at M)); refine hK _ _ ?_; clear hK K)) | (((with_reducible refine o_list rfl fun K hK => ?_); (refine q_app (R := intsF) intsF_firm M 4 rfl [] ⟨none, 0, 0, rfl, SlF.nil⟩ (by rfl) (by rfl) HD8.out ?_; clear M; intro ra4 rc4 w M; (try simp only [List.set_cons_zero, List.set_cons_succ] at M)); refine hK _ _ ?_; clear hK K)) | (with_reducible (first | (refine w_ (q_rowv M ?_); clear M; intro q w M) | refine wq M ?_ | (refine wS M ?_; clear M; intro w M) | (refine wV M ?_; clear M; intro z w M) | (refine wR M ?_; clear M; intro q w M))))
            go_roundg (n1 - (k + 1))
            case measure => omega
            case rel => exact ⟨k + 1, ra3, rc3, ra4, rc4, r3, m3, k3, by omega, by go_num, by rw [HAT.out, HST.out], by rw [HCL.out], by rw [HDL.out], rfl, by rw [HCN.out, HDN.out, HAT.out, HST.out]; rw [HCL.out, HDL.out] at M; exact M.drop.drop.drop⟩
        · have hq2 : (d.kind == 2) = false := beq_eq_false_iff_ne.2 hk2
          by_cases hk3 : d.kind = 3
          · have HCV : Hid (codeW st d = codePass st d ∧ dueW st d = duesW st d ∧ stepW st d = passW st d) := by
              unfold codeW dueW stepW
              rw [if_neg hk1, if_neg hk1, if_neg hk2, if_neg hk2, if_pos hk3, if_pos hk3, if_pos hk3]
              exact ⟨rfl, rfl, rfl⟩
            have hq3 : (d.kind == 3) = true := beq_iff_eq.2 hk3
            rw [HCV.out.1] at HCN
            rw [HCV.out.2.1] at HDN
            by_cases h2 : d.at_ < st.now ∨ 1099511627776 < d.at_
            · have HCO : Hid (codePass st d = 12) := by show _ = _; unfold codePass; rw [if_pos h2]
              have HDU : Hid (duesW st d = []) := by show _ = _; unfold duesW; rw [HCO.out, if_neg (by decide)]
              have HST : Hid (stepW st d = st) := by show _ = _; rw [HCV.out.2.2]; unfold passW; rw [HCO.out, if_neg (by decide)]
              rw [HCO.out] at HCN
              rw [HDU.out] at HDN
              clear HCV HCO HDU
              by_cases h3 : d.at_ < st.now
              · have hd3 : decide (d.at_ < (st.now : Int)) = true := decide_eq_true h3
                clear h2
                go_upto_region 37 with (first | (with_reducible (first | refine wA (HRW.out _ M.new) ?_ | (refine wV M ?_; clear M; intro z11 w M) | refine wq M ?_ | (refine wS M ?_; clear M; intro w M) | (refine wV M ?_; clear M; intro z w M) | (refine wR M ?_; clear M; intro q w M))))
                go_wp2_with (first | (((with_reducible refine o_list rfl fun K hK => ?_); (refine q_app (R := numF) (plainF_firm _) M 2 rfl 12 rfl (by rfl) (by rfl) HC8.out ?_; clear M; intro ra3 rc3 w M; (try simp only [List.set_cons_zero, List.set_cons_succ] at M)); refine hK _ _ ?_; clear hK K)) | (((with_reducible refine o_list rfl fun K hK => ?_); (refine q_app (R := intsF) intsF_firm M 4 rfl [] ⟨none, 0, 0, rfl, SlF.nil⟩ (by rfl) (by rfl) HD8.out ?_; clear M; intro ra4 rc4 w M; (try simp only [List.set_cons_zero, List.set_cons_succ] at M)); refine hK _ _ ?_; clear hK K)) | (with_reducible (first | (refine w_ (q_rowv M ?_); clear M; intro q w M) | refine wq M ?_ | (refine wS M ?_; clear M; intro w M) | (refine wV M ?_; clear M; intro z w M) | (refine wR M ?_; clear M; intro q w M))))
                go_roundg (n1 - (k + 1))
                case measure => omega
                case rel => exact ⟨k + 1, ra3, rc3, ra4, rc4, r3, m3, k3, by omega, by go_num, by rw [HAT.out, HST.out], by rw [HCL.out], by rw [HDL.out], rfl, by rw [HCN.out, HDN.out, HAT.out, HST.out]; rw [HCL.out, HDL.out] at M; exact M.drop.drop.drop⟩
              · have h4 : 1099511627776 < d.at_ := by omega
                have hd3 : decide (d.at_ < (st.now : Int)) = false := decide_eq_false h3
                have HTM : Hid (∀ wx, Calls Try.prog 11 #[.int .i64 d.at_] wx fun e w' => e = .returned (.bool false) ∧ Below wx.heap.size wx w') := fun wx => by
                  have := timeMay_any d.at_ wx
                  rwa [decide_eq_false (show ¬ d.at_ ≤ 1099511627776 by omega), Bool.and_false] at this
                clear h2
                go_upto_region 37 with (first | (go_at_call 11; with_reducible refine (HTM.out _).mono ?_; rintro e w5 ⟨rfl, hb5⟩; replace M := M.below hb5; clear hb5) | (with_reducible (first | refine wA (HRW.out _ M.new) ?_ | (refine wV M ?_; clear M; intro z11 w M) | refine wq M ?_ | (refine wS M ?_; clear M; intro w M) | (refine wV M ?_; clear M; intro z w M) | (refine wR M ?_; clear M; intro q w M))))
                go_wp2_with (first | (((with_reducible refine o_list rfl fun K hK => ?_); (refine q_app (R := numF) (plainF_firm _) M 2 rfl 12 rfl (by rfl) (by rfl) HC8.out ?_; clear M; intro ra3 rc3 w M; (try simp only [List.set_cons_zero, List.set_cons_succ] at M)); refine hK _ _ ?_; clear hK K)) | (((with_reducible refine o_list rfl fun K hK => ?_); (refine q_app (R := intsF) intsF_firm M 4 rfl [] ⟨none, 0, 0, rfl, SlF.nil⟩ (by rfl) (by rfl) HD8.out ?_; clear M; intro ra4 rc4 w M; (try simp only [List.set_cons_zero, List.set_cons_succ] at M)); refine hK _ _ ?_; clear hK K)) | (with_reducible (first | (refine w_ (q_rowv M ?_); clear M; intro q w M) | refine wq M ?_ | (refine wS M ?_; clear M; intro w M) | (refine wV M ?_; clear M; intro z w M) | (refine wR M ?_; clear M; intro q w M))))
                go_roundg (n1 - (k + 1))
                case measure => omega
                case rel => exact ⟨k + 1, ra3, rc3, ra4, rc4, r3, m3, k3, by omega, by go_num, by rw [HAT.out, HST.out], by rw [HCL.out], by rw [HDL.out], rfl, by rw [HCN.out, HDN.out, HAT.out, HST.out]; rw [HCL.out, HDL.out] at M; exact M.drop.drop.drop⟩
            · have h3 : ¬ d.at_ < st.now := fun h => h2 (.inl h)
              have hd3 : decide (d.at_ < (st.now : Int)) = false := decide_eq_false h3
              have HTM : Hid (∀ wx, Calls Try.prog 11 #[.int .i64 d.at_] wx fun e w' => e = .returned (.bool true) ∧ Below wx.heap.size wx w') := fun wx => by
                have := timeMay_any d.at_ wx
                rwa [decide_eq_true (show 0 ≤ d.at_ by omega), decide_eq_true (show d.at_ ≤ 1099511627776 by omega)] at this
              have HCO : Hid (codePass st d = 0) := by show _ = _; unfold codePass; rw [if_neg h2]
              obtain ⟨to, hto⟩ : ∃ to : Nat, d.at_ = (to : Int) := ⟨d.at_.toNat, by omega⟩
              have e0 : d.at_.toNat = to := by omega
              have HDU : Hid (duesW st d = (takeR to st.S.length st.S).1.map Tm.id) := by show _ = _; unfold duesW; rw [if_pos HCO.out, e0]
              have HST0 : Hid (stepW st d = ⟨to, (takeR to st.S.length st.S).2, st.next⟩) := by show _ = _; rw [HCV.out.2.2]; unfold passW; rw [if_pos HCO.out, e0]
              rw [HCO.out] at HCN
              rw [HDU.out] at HDN
              have HTO := Lib.hid hto
              rw [hto] at HRW HTM h3 hd3
              have hfew : st.S.length ≤ 1000 := HOK.out.few
              clear HCV HCO HDU h2 e0 HAL HIX hto
              go_upto_region 32 with (first | (go_at_call 11; with_reducible refine (HTM.out _).mono ?_; rintro e w5 ⟨rfl, hb5⟩; replace M := M.below hb5; clear hb5) | (with_reducible (first | refine wA (HRW.out _ M.new) ?_ | (refine wV M ?_; clear M; intro z11 w M) | refine wq M ?_ | (refine wS M ?_; clear M; intro w M) | (refine wV M ?_; clear M; intro z w M) | (refine wR M ?_; clear M; intro q w M))))
              replace M := M.none_ (plainF_firm fun x : Int => [Value.int .i64 x]) 3 1
              go_loopg [9, 13, 14] st.S.length (fun f' i9 i13 i14 wr => ∃ (S1 : List Tm) (D1 : List Tm) (ra5 : Option Addr) (m5 rc5 : Nat) (rd : Option Addr) (md rcd : Nat), Hid (S1.length ≤ f') ∧ i9 = .slice ra5 m5 rc5 ∧ i13 = .slice rd md rcd ∧ Mem (StaysB g w0) g w0 wr ⟨0, 0⟩ (slc w0.heap.size 3 1 numF (.slice rd md rcd) (D1.map Tm.id) :: own z11 [.int .i64 d.kind, .int .i64 d.id, .int .i64 to] 40 :: slc w0.heap.size 25 1 numF (.slice r1 k k1) cs :: slc w0.heap.size 41 1 intsF (.slice r2 k k2) dl :: slc w0.heap.size 51 2 almF (.slice ra5 m5 rc5) S1 :: []) ∧ Hid (takeR to st.S.length st.S = (D1 ++ (takeR to S1.length S1).1, (takeR to S1.length S1).2) ∧ D1.length + S1.length = st.S.length))
              case atStart => exact ⟨st.S, [], r3, m3, k3, none, 0, 0, Lib.hid (Nat.le_refl _), rfl, rfl, M, Lib.hid ⟨by simp, by simp⟩⟩
              case round =>
                clear M
                obtain ⟨S1, D1, ra5, m5, rc5, rd, md, rcd, HME, rfl, rfl, M, HTK⟩ := hrel
                have HM5 : Hid (m5 = S1.length) := Lib.hid (M.slf (plainF_firm almC) (i := 4) rfl (by decide)).len
                have hm5 : m5 ≤ 1000 := by have := HM5.out; have := HTK.out.2; omega
                have hle5 := (M.slf (plainF_firm almC) (i := 4) rfl (by decide)).le
                have HEND : Hid ((takeR to S1.length S1) = ([], S1) → (D1.map Tm.id = (takeR to st.S.length st.S).1.map Tm.id ∧ stepW st d = ⟨to, S1, st.next⟩)) := fun h => by
                  rw [HST0.out, HTK.out.1, h]
                  exact ⟨by simp, rfl⟩
                by_cases h0 : 0 < m5
                · have hd5 : decide ((0 : Int) < (m5 : Int)) = true := decide_eq_true (by omega)
                  have hl0 : 0 < S1.length := by have := HM5.out; omega
                  have hbl : bestK S1 S1.length < S1.length := bestK_lt S1 S1.length hl0
                  obtain ⟨za, hza⟩ := M.slcAddr (i := 4) rfl (List.length_pos_iff.1 hl0)
                  subst hza
                  have HEA : Hid (∀ wx L2, Mem (StaysB g w0) g w0 wx ⟨0, 0⟩ L2 → L2[4]? = some (slc w0.heap.size 51 2 almF (.slice (some ⟨za, 0, none⟩) m5 rc5) S1) → Calls Try.prog 15 #[.slice (some ⟨za, 0, none⟩) m5 rc5] wx fun e w' => e = .returned (.int .i64 (bestK S1 S1.length)) ∧ Below wx.heap.size wx w') := fun wx L2 Mx hx => by
                    have := earliest_any (Mx.slf (plainF_firm almC) hx (by decide)) h0 (by omega)
                    rwa [HM5.out] at this ⊢
                  have hixb := fun wx => alm_ix (z := za) (rc := rc5) (show bestK S1 S1.length < m5 by have := HM5.out; omega) wx
                  have HCE : Hid (∀ wx L2 i, Mem (StaysB g w0) g w0 wx ⟨0, 0⟩ L2 → L2[i]? = some (slc w0.heap.size 51 2 almF (.slice (some ⟨za, 0, none⟩) m5 rc5) S1) → wx.cell? ⟨za, bestK S1 S1.length * 2, none⟩ = some (.int .i64 S1[bestK S1 S1.length].id) ∧ wx.cell? ⟨za, bestK S1 S1.length * 2 + 1, none⟩ = some (.int .i64 S1[bestK S1 S1.length].at_)) := fun wx L2 i Mx hx => Mx.almCell hx hbl
                  by_cases hat : S1[bestK S1 S1.length].at_ ≤ to
                  · have HTS := Lib.hid (takeR_step hbl hat)
                    have HER : Hid ((S1.eraseIdx (bestK S1 S1.length)).length + 1 = S1.length) := by have := List.length_eraseIdx_of_lt hbl; show _ = _; omega
                    have HDL1 : Hid ((D1.map Tm.id).length ≤ 100000000) := by show _ ≤ _; rw [List.length_map]; have := HTK.out.2; omega
                    have HBK := Lib.hid hbl
                    clear HEND
                    generalize S1[bestK S1 S1.length] = x0 at *
                    generalize bestK S1 S1.length = bk at *
                    have hle2 : ((x0.at_ : Int) ≤ (to : Int)) := by omega
                    have hm5b : m5 ≤ 100000 := by omega
                    obtain ⟨outd, hod⟩ : ∃ outd, D1.map Tm.id = outd := ⟨_, rfl⟩
                    rw [hod] at M HDL1
                    have HOD := Lib.hid hod
                    clear hod
                    go_wp2_with (first | (go_at_call 15; have hq := HEA.out _ _ M rfl; with_reducible refine hq.mono ?_; clear hq; rintro e w5 ⟨rfl, hb5⟩; replace M := M.below hb5; clear hb5) | (refine wCg (HCE.out _ _ 4 M rfl).2 ?_) | (((with_reducible refine o_list rfl fun K hK => ?_); (refine q_app (R := numF) (plainF_firm _) M 1 rfl x0.id rfl (by rfl) (by rfl) HDL1.out ?_; clear M; intro ra7 rc7 w M; (try simp only [List.set_cons_zero, List.set_cons_succ] at M)); refine hK _ _ ?_; clear hK K)) | (go_at_call 14; replace M := M.drop; have hq := without_any (k := bk) M (i := 4) rfl hm5b; with_reducible refine hq.mono ?_; clear hq M; go_loud (rintro e w5 ⟨vw, rfl, M⟩); obtain ⟨ra9, rc9, hvw⟩ := slc_slice M (i := 0) rfl; subst hvw; replace M := M.cut5b.dn4b) | (with_reducible (first | refine wC (HCE.out _ _ 4 M rfl).1 ?_ | (refine w_ (q_rowv M ?_); clear M; intro q w M) | refine wq M ?_ | (refine wS M ?_; clear M; intro w M) | (refine wV M ?_; clear M; intro z w M) | (refine wR M ?_; clear M; intro q w M))))
                    go_roundg (S1.eraseIdx bk).length
                    case measure => have := HER.out; have := HME.out; omega
                    case rel => exact ⟨S1.eraseIdx bk, D1 ++ [x0], ra9, _, rc9, ra7, _, rc7, Lib.hid (Nat.le_refl _), rfl, rfl, by rw [List.map_append, HOD.out]; exact M, Lib.hid ⟨by rw [HTK.out.1, HTS.out]; simp, by have := HTK.out.2; have := HER.out; simp; omega⟩⟩
                  · have HST1 := HEND.out (takeR_stop (fun h => hat (by have := h.2; rwa [atK_get hbl] at this)))
                    have HST := Lib.hid HST1.2
                    rw [← HST1.1] at HDN
                    clear HST1 HEND HTK HME
                    generalize S1[bestK S1 S1.length] = x0 at *
                    generalize bestK S1 S1.length = bk at *
                    have hle2 : ¬ ((x0.at_ : Int) ≤ (to : Int)) := by omega
                    generalize D1.map Tm.id = outd at *
                    go_upto_region 37 with (first | (go_at_call 15; have hq := HEA.out _ _ M rfl; with_reducible refine hq.mono ?_; clear hq; rintro e w5 ⟨rfl, hb5⟩; replace M := M.below hb5; clear hb5) | (refine wCg (HCE.out _ _ 4 M rfl).2 ?_) | (with_reducible (first | refine wq M ?_ | (refine wS M ?_; clear M; intro w M) | (refine wV M ?_; clear M; intro z w M) | (refine wR M ?_; clear M; intro q w M))))
                    obtain ⟨ao, cap, hvo, M9⟩ := M.done (plainF_firm fun x : Int => [Value.int .i64 x]) (by decide)
                    injection hvo with hv1 hv2 hv3
                    subst hv1 hv2 hv3
                    clear M
                    have M := M9
                    clear M9
                    go_wp2_with (first | (((with_reducible refine o_list rfl fun K hK => ?_); (refine q_app (R := numF) (plainF_firm _) M 3 rfl 0 rfl (by rfl) (by rfl) HC8.out ?_; clear M; intro ra3 rc3 w M; (try simp only [List.set_cons_zero, List.set_cons_succ] at M)); refine hK _ _ ?_; clear hK K)) | (((with_reducible refine o_list rfl fun K hK => ?_); (refine q_app (R := intsF) intsF_firm M 5 rfl outd ⟨_, _, _, rfl, M.dat_ (i := 2) rfl⟩ (by rfl) (by rfl) HD8.out ?_; clear M; intro ra4 rc4 w M; (try simp only [List.set_cons_zero, List.set_cons_succ] at M)); refine hK _ _ ?_; clear hK K)) | (with_reducible (first | (refine w_ (q_rowv M ?_); clear M; intro q w M) | refine wq M ?_ | (refine wS M ?_; clear M; intro w M) | (refine wV M ?_; clear M; intro z w M) | (refine wR M ?_; clear M; intro q w M))))
                    go_roundg (n1 - (k + 1))
                    case measure => omega
                    case rel => exact ⟨k + 1, ra3, rc3, ra4, rc4, _, _, _, by omega, by go_num, by rw [HAT.out, HST.out], by rw [HCL.out], by rw [HDL.out], rfl, by rw [HCN.out, HDN.out, HAT.out, HST.out]; rw [HCL.out, HDL.out] at M; exact M.drop.drop.drop.drop⟩
                · have hl0 : ¬ 0 < S1.length := by have := HM5.out; omega
                  have HST1 := HEND.out (takeR_stop (fun h => hl0 h.1))
                  have HST := Lib.hid HST1.2
                  rw [← HST1.1] at HDN
                  clear HST1 HEND HTK HME hl0
                  have hm50 : m5 = 0 := by omega
                  subst hm50
                  generalize D1.map Tm.id = outd at *
                  go_upto_region 37 with (first | (with_reducible (first | refine wq M ?_ | (refine wS M ?_; clear M; intro w M) | (refine wV M ?_; clear M; intro z w M) | (refine wR M ?_; clear M; intro q w M))))
                  obtain ⟨ao, cap, hvo, M9⟩ := M.done (plainF_firm fun x : Int => [Value.int .i64 x]) (by decide)
                  injection hvo with hv1 hv2 hv3
                  subst hv1 hv2 hv3
                  clear M
                  have M := M9
                  clear M9
                  go_wp2_with (first | (((with_reducible refine o_list rfl fun K hK => ?_); (refine q_app (R := numF) (plainF_firm _) M 3 rfl 0 rfl (by rfl) (by rfl) HC8.out ?_; clear M; intro ra3 rc3 w M; (try simp only [List.set_cons_zero, List.set_cons_succ] at M)); refine hK _ _ ?_; clear hK K)) | (((with_reducible refine o_list rfl fun K hK => ?_); (refine q_app (R := intsF) intsF_firm M 5 rfl outd ⟨_, _, _, rfl, M.dat_ (i := 2) rfl⟩ (by rfl) (by rfl) HD8.out ?_; clear M; intro ra4 rc4 w M; (try simp only [List.set_cons_zero, List.set_cons_succ] at M)); refine hK _ _ ?_; clear hK K)) | (with_reducible (first | (refine w_ (q_rowv M ?_); clear M; intro q w M) | refine wq M ?_ | (refine wS M ?_; clear M; intro w M) | (refine wV M ?_; clear M; intro z w M) | (refine wR M ?_; clear M; intro q w M))))
                  go_roundg (n1 - (k + 1))
                  case measure => omega
                  case rel => exact ⟨k + 1, ra3, rc3, ra4, rc4, _, _, _, by omega, by go_num, by rw [HAT.out, HST.out], by rw [HCL.out], by rw [HDL.out], rfl, by rw [HCN.out, HDN.out, HAT.out, HST.out]; rw [HCL.out, HDL.out] at M; exact M.drop.drop.drop.drop⟩
          · have hq3 : (d.kind == 3) = false := beq_eq_false_iff_ne.2 hk3
            have HCV : Hid (codeW st d = 3 ∧ dueW st d = [] ∧ stepW st d = st) := by
              unfold codeW dueW stepW
              rw [if_neg hk1, if_neg hk1, if_neg hk2, if_neg hk2, if_neg hk3, if_neg hk3, if_neg hk3]
              exact ⟨rfl, rfl, rfl⟩
            rw [HCV.out.1] at HCN
            rw [HCV.out.2.1] at HDN
            have HST : Hid (stepW st d = st) := Lib.hid HCV.out.2.2
            clear HCV
            go_upto_region 37 with (first | (with_reducible (first | refine wA (HRW.out _ M.new) ?_ | (refine wV M ?_; clear M; intro z11 w M) | refine wq M ?_ | (refine wS M ?_; clear M; intro w M) | (refine wV M ?_; clear M; intro z w M) | (refine wR M ?_; clear M; intro q w M))))
            go_wp2_with (first | (((with_reducible refine o_list rfl fun K hK => ?_); (refine q_app (R := numF) (plainF_firm _) M 2 rfl 3 rfl (by rfl) (by rfl) HC8.out ?_; clear M; intro ra3 rc3 w M; (try simp only [List.set_cons_zero, List.set_cons_succ] at M)); refine hK _ _ ?_; clear hK K)) | (((with_reducible refine o_list rfl fun K hK => ?_); (refine q_app (R := intsF) intsF_firm M 4 rfl [] ⟨none, 0, 0, rfl, SlF.nil⟩ (by rfl) (by rfl) HD8.out ?_; clear M; intro ra4 rc4 w M; (try simp only [List.set_cons_zero, List.set_cons_succ] at M)); refine hK _ _ ?_; clear hK K)) | (with_reducible (first | (refine w_ (q_rowv M ?_); clear M; intro q w M) | refine wq M ?_ | (refine wS M ?_; clear M; intro w M) | (refine wV M ?_; clear M; intro z w M) | (refine wR M ?_; clear M; intro q w M))))
            go_roundg (n1 - (k + 1))
            case measure => omega
            case rel => exact ⟨k + 1, ra3, rc3, ra4, rc4, r3, m3, k3, by omega, by go_num, by rw [HAT.out, HST.out], by rw [HCL.out], by rw [HDL.out], rfl, by rw [HCN.out, HDN.out, HAT.out, HST.out]; rw [HCL.out, HDL.out] at M; exact M.drop.drop.drop⟩
    · have e : k = n1 := by omega
      have hkk : ¬ (k : Int) < (n1 : Int) := by omega
      have HKL : Hid (k = l.length) := by show _ = _; rw [e]; exact HN.out
      go_wp2_with (first | (with_reducible (first | refine wq M ?_ | (refine wS M ?_; clear M; intro w M) | (refine wV M ?_; clear M; intro z w M) | (refine wR M ?_; clear M; intro q w M))))
      go_ret3
      unfold PlayP
      rw [HR.out]
      simp only
      rw [← HKL.out]
      obtain ⟨ao, cap, hvo, M2⟩ := M.done (plainF_firm fun x : Int => [Value.int .i64 x]) (by decide)
      obtain ⟨ao2, cap2, hvo2, M3⟩ := M2.swap.done intsF_firm (by decide)
      injection hvo with h5 h6 h7
      injection hvo2 with h8 h9 h10
      subst h5 h7 h8 h10
      have h11 := M3.dat_ (i := 0) rfl
      have h12 := M3.dat_ (i := 1) rfl
      refine ⟨_, _, _, _, _, _, rfl, M.new, ?_, ?_⟩
      · have h13 := SlF.same h12 (plainF_firm _) (Same.wide fun kk hkk _ => hkk.1)
        rw [← h6] at h13
        rw [← e]
        exact h13
      · have h13 := SlF.same h11 intsF_firm (Same.wide fun kk hkk _ => hkk.1)
        rw [← h9] at h13
        rw [← e]
        exact h13
end
end Go.Proofs.Ytpnhkkjjdcjmgaa
