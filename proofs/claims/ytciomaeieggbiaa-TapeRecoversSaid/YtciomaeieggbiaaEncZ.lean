/-
  The walk of the reference's OperationBytes, second part: a query, an insert.
-/
import Derived.Test.YtciomaeieggbiaaEncY
namespace Go.Proofs.Ytciomaeieggbiaa
open Go.RowKit
set_option linter.unusedVariables false
set_option linter.unusedSimpArgs false

theorem own_lt {B : Nat} {w : World} {e : TypeId} {o : Value} {l : List UInt8} (h : OwnF (from_ B) B w e 1 byteF o l) : ∀ g, o.ownBlock = some g → g < w.heap.size := by
  obtain ⟨rs, h1, _⟩ := h
  exact fun g hg => (h1.lt g hg).2

set_option maxHeartbeats 1000000 in
set_option maxRecDepth 100000 in
theorem opb_query (d : Int) (c : Bool) (type : ByteArray) (start stop : Int) (vo : Option Addr) (m vcap : Nat) (vs : List Val) (w : World) (ht : type.size ≤ 10) (hV : SlR w 3 valR vo m vcap vs) (h : wireE ⟨3, type, start, stop, d, c⟩ vs = 0) :
    Calls Try.prog 12 #[Opn.val ⟨3, type, start, stop, d, c⟩ (.slice vo m vcap)] w (EncPost ⟨3, type, start, stop, d, c⟩ vs w) := by
  obtain ⟨i0, hi, hz0, hz1, hz2⟩ := info_parts info_byte
  have HC : Hid (∀ wx, Below w.heap.size w wx → Calls Try.prog 30 #[Opn.val ⟨3, type, start, stop, d, c⟩ (.slice vo m vcap)] wx fun e' w' => e' = .returned (.int .i64 0) ∧ Below wx.heap.size wx w') := fun wx hb => by
    rw [← h]; exact wireFault_any _ vo m vcap vs wx (by show type.size ≤ maxLen; unfold maxLen; omega) (hV.mono valR_stays hb)
  have HW : Hid (wireE ⟨3, type, start, stop, d, c⟩ vs = 0) := h
  have HT := Lib.hid (fun wx => textBytes_any type wx (by omega))
  have HE : Hid (encL ⟨3, type, start, stop, d, c⟩ vs = [UInt8.ofNat 3] ++ textL type) := by show _ = _; unfold encL opL; rw [if_pos h]; rfl
  clear h
  unfold EncPost
  rw [HW.out]
  clear HW
  generalize encL _ vs = L at HE ⊢
  unfold Opn.val at HC ⊢
  simp only at HC ⊢
  go_enter Try.func12, Try.ntmps12
  go_wp2_with fail
  refine (HC.out _ (by repeat (first | exact Below.refl _ _ | assumption | refine below_step ?_ (by assumption) | refine below_step ?_ (Joins.below_draws _ _ _) | (refine Below.alloc ?_ (by first | omega | (simp; done) | (simp; omega)) _) | (refine Below.setCell ?_ (by first | omega | (simp; done) | (simp; omega)) _) | refine Below.drew ?_))).mono ?_
  rintro e w1 ⟨rfl, hb1⟩
  obtain ⟨hc_w1, hf_w1⟩ := bcell hb1; have hs_w1 := hb1.size; (try simp only [World.size_alloc, World.size_drew, World.size_setCell] at hs_w1); (try simp only [World.size_drew, World.cell?_drew, World.frozen?_drew] at hc_w1 hf_w1); have z0_w1 : w.heap.size < w1.heap.size := (by omega)
  have OC1 : OpCells ⟨3, type, start, stop, d, c⟩ (.slice vo m vcap) w.heap.size w1 := OpCells.below (w := w.alloc (.cells #[.int .i64 3, .string type, .int .i64 start, .int .i64 stop, .slice vo m vcap, .int .i64 d, .bool c] 33)) ⟨by simp, by simp, by simp, by simp, by simp, by simp, by simp⟩ hb1 (by simp)
  have B1 : Below w.heap.size w w1 := (by repeat (first | exact Below.refl _ _ | assumption | refine below_step ?_ (by assumption) | refine below_step ?_ (Joins.below_draws _ _ _) | (refine Below.alloc ?_ (by first | omega | (simp; done) | (simp; omega)) _) | (refine Below.setCell ?_ (by first | omega | (simp; done) | (simp; omega)) _) | refine Below.drew ?_))
  obtain ⟨o0, o1, o2, o3, o4, o5, o6⟩ := id OC1
  simp only at o0 o1 o2 o3 o4 o5 o6
  clear hc_w1 hf_w1
  go_wp2_with fail
  refine (HT.out _).mono ?_
  rintro e w2 ⟨ao2, cap2, rfl, hb2, hS2⟩
  have hs2 := hb2.size
  simp only [World.size_alloc] at hs2
  have hS0 := out_sl ((own_one w1 3 (by omega)).below byteF_firm hb2)
  go_wp2_with fail
  refine (joined_own _ _ _ _ _ _ _ _ _ _ _ hS0 hS2 (by rw [textL_len]; omega)).mono ?_
  rintro e w3 ⟨ao3, cap3, rfl, hb3, hO3⟩
  have hs3 := hb3.size
  have B3 : Below w1.heap.size w1 w3 := (Joins.below_alloc1 w1 (.cells #[.int .u8 3] 5)).trans ((hb2.mono (by simp)).trans (hb3.mono (by omega)))
  have OC3 := OC1.below B3 z0_w1
  obtain ⟨p0, p1, p2, p3, p4, p5, p6⟩ := id OC3
  simp only at p0 p1 p2 p3 p4 p5 p6
  have O3 := Lib.hid (out_lower (B := w1.heap.size) hO3 (by omega))
  clear o0 o1 o2 o3 o4 o5 o6 hO3 hb3 hS0 hS2 hb2
  go_wp2
  go_ret2
  have hO := O3.out
  rw [← HE.out] at hO
  have hS := out_sl hO
  have hl := hS.len
  rw [hl] at hS ⊢
  exact ⟨ao3, cap3, rfl, B1.trans (B3.mono B1.size), hS.wide byteF_firm (fun b hb _ => by (have : w1.heap.size ≤ b := hb); show w.heap.size ≤ b; omega)⟩

set_option maxHeartbeats 4000000 in
set_option maxRecDepth 100000 in
theorem opb_ins (d : Int) (c : Bool) (type : ByteArray) (start stop : Nat) (vo : Option Addr) (m vcap : Nat) (vs : List Val) (w : World) (ht : type.size ≤ 10) (hst : start ≤ 1099511627776) (hsp : stop ≤ 1099511627776) (hm4 : vs.length ≤ 4) (hmay : ∀ v ∈ vs, valMay v) (hV : SlR w 3 valR vo m vcap vs) (h : wireE ⟨1, type, start, stop, d, c⟩ vs = 0) :
    Calls Try.prog 12 #[Opn.val ⟨1, type, start, stop, d, c⟩ (.slice vo m vcap)] w (EncPost ⟨1, type, start, stop, d, c⟩ vs w) := by
  obtain ⟨i0, hi, hz0, hz1, hz2⟩ := info_parts info_byte
  have HC : Hid (∀ wx, Below w.heap.size w wx → Calls Try.prog 30 #[Opn.val ⟨1, type, start, stop, d, c⟩ (.slice vo m vcap)] wx fun e' w' => e' = .returned (.int .i64 0) ∧ Below wx.heap.size wx w') := fun wx hb => by
    rw [← h]; exact wireFault_any _ vo m vcap vs wx (by show type.size ≤ maxLen; unfold maxLen; omega) (hV.mono valR_stays hb)
  have HW : Hid (wireE ⟨1, type, start, stop, d, c⟩ vs = 0) := h
  have HT := Lib.hid (fun wx => textBytes_any type wx (by omega))
  have hml : m = vs.length := hV.len
  have hvle := hV.le
  have ML := Lib.hid hml
  have hm' : m ≤ 4 := by omega
  have HE : Hid ((((([UInt8.ofNat 1] ++ textL type) ++ sevL start) ++ sevL stop) ++ [UInt8.ofNat m]) ++ (vs.drop 0).flatMap valL = encL ⟨1, type, start, stop, d, c⟩ vs) := by show _ = _; unfold encL opL; rw [if_pos h, ML.out]; rfl
  have l1 : (sevL start).length ≤ 9 := sevL_len 8 start (by omega)
  have l2 : (sevL stop).length ≤ 9 := sevL_len 8 stop (by omega)
  have l0 := textL_len type
  have hvlen : Hid (vs.length = m) := hml.symm
  have H1 := Lib.hid (fun wx => sevens_any start start wx (Nat.le_refl _) (by omega))
  have H2 := Lib.hid (fun wx => sevens_any stop stop wx (Nat.le_refl _) (by omega))
  clear hml hm4
  clear h
  unfold EncPost
  rw [HW.out]
  clear HW
  generalize encL _ vs = L at HE ⊢
  unfold Opn.val at HC ⊢
  simp only at HC ⊢
  go_enter Try.func12, Try.ntmps12
  go_wp2_with fail
  refine (HC.out _ (by repeat (first | exact Below.refl _ _ | assumption | refine below_step ?_ (by assumption) | refine below_step ?_ (Joins.below_draws _ _ _) | (refine Below.alloc ?_ (by first | omega | (simp; done) | (simp; omega)) _) | (refine Below.setCell ?_ (by first | omega | (simp; done) | (simp; omega)) _) | refine Below.drew ?_))).mono ?_
  rintro e w1 ⟨rfl, hb1⟩
  obtain ⟨hc_w1, hf_w1⟩ := bcell hb1; have hs_w1 := hb1.size; (try simp only [World.size_alloc, World.size_drew, World.size_setCell] at hs_w1); (try simp only [World.size_drew, World.cell?_drew, World.frozen?_drew] at hc_w1 hf_w1); have z0_w1 : w.heap.size < w1.heap.size := (by omega)
  have OC1 : OpCells ⟨1, type, start, stop, d, c⟩ (.slice vo m vcap) w.heap.size w1 := OpCells.below (w := w.alloc (.cells #[.int .i64 1, .string type, .int .i64 start, .int .i64 stop, .slice vo m vcap, .int .i64 d, .bool c] 33)) ⟨by simp, by simp, by simp, by simp, by simp, by simp, by simp⟩ hb1 (by simp)
  have B1 : Below w.heap.size w w1 := (by repeat (first | exact Below.refl _ _ | assumption | refine below_step ?_ (by assumption) | refine below_step ?_ (Joins.below_draws _ _ _) | (refine Below.alloc ?_ (by first | omega | (simp; done) | (simp; omega)) _) | (refine Below.setCell ?_ (by first | omega | (simp; done) | (simp; omega)) _) | refine Below.drew ?_))
  obtain ⟨o0, o1, o2, o3, o4, o5, o6⟩ := id OC1
  simp only at o0 o1 o2 o3 o4 o5 o6
  clear hc_w1 hf_w1
  go_wp2_with fail
  refine (HT.out _).mono ?_
  rintro e w2 ⟨ao2, cap2, rfl, hb2, hS2⟩
  have hs2 := hb2.size
  simp only [World.size_alloc] at hs2
  have hS0 := out_sl ((own_one w1 1 (by omega)).below byteF_firm hb2)
  go_wp2_with fail
  refine (joined_own _ _ _ _ _ _ _ _ _ _ _ hS0 hS2 (by rw [textL_len]; omega)).mono ?_
  rintro e w3 ⟨ao3, cap3, rfl, hb3, hO3⟩
  have hs3 := hb3.size
  have B3 : Below w1.heap.size w1 w3 := (Joins.below_alloc1 w1 (.cells #[.int .u8 1] 5)).trans ((hb2.mono (by simp)).trans (hb3.mono (by omega)))
  have OC3 := OC1.below B3 z0_w1
  obtain ⟨p0, p1, p2, p3, p4, p5, p6⟩ := id OC3
  simp only at p0 p1 p2 p3 p4 p5 p6
  have O3 := Lib.hid (out_lower (B := w1.heap.size) hO3 (by omega))
  clear o0 o1 o2 o3 o4 o5 o6 hO3 hb3 hS0 hS2 hb2
  have hN3 : 1 + (textL type).length ≤ 12 := by omega
  generalize 1 + (textL type).length = N3 at O3 hN3 ⊢
  generalize textL type = T at O3 HE HT l0 ⊢
  generalize sevL start = D1 at H1 HE l1
  generalize sevL stop = D2 at H2 HE l2
  clear HT
  go_wp2_with fail
  refine (H1.out _).mono ?_
  rintro e w4 ⟨ao4, cap4, rfl, hb4, hS4⟩
  have hs4 := hb4.size
  have hSx := out_sl (O3.out.below byteF_firm hb4)
  go_wp2_with fail
  refine (joined_own _ _ _ _ _ _ _ _ _ _ _ hSx hS4 (by omega)).mono ?_
  rintro e w5 ⟨ao5, cap5, rfl, hb5, hO5⟩
  have hs5 := hb5.size
  have B5 : Below w1.heap.size w1 w5 := B3.trans ((hb4.mono (by omega)).trans (hb5.mono (by omega)))
  have OC5 := OC1.below B5 z0_w1
  have O5 := Lib.hid (out_lower (B := w1.heap.size) hO5 (by omega))
  clear p0 p1 p2 p3 p4 p5 p6 hO5 hb5 hSx hS4 hb4 O3 OC3
  obtain ⟨p0, p1, p2, p3, p4, p5, p6⟩ := id OC5
  simp only at p0 p1 p2 p3 p4 p5 p6
  have hN5 : N3 + D1.length ≤ 21 := by omega
  generalize N3 + D1.length = N5 at O5 hN5 ⊢
  clear H1
  go_wp2_with fail
  refine (H2.out _).mono ?_
  rintro e w6 ⟨ao6, cap6, rfl, hb6, hS6⟩
  have hs6 := hb6.size
  have hSx := out_sl (O5.out.below byteF_firm hb6)
  go_wp2_with fail
  refine (joined_own _ _ _ _ _ _ _ _ _ _ _ hSx hS6 (by omega)).mono ?_
  rintro e w7 ⟨ao7, cap7, rfl, hb7, hO7⟩
  have hs7 := hb7.size
  have B7 : Below w1.heap.size w1 w7 := B5.trans ((hb6.mono (by omega)).trans (hb7.mono (by omega)))
  have OC7 := OC1.below B7 z0_w1
  have O7 := Lib.hid ((out_lower (B := w1.heap.size) hO7 (by omega)).alloc byteF_firm (.cells #[.int .u8 m] 5))
  clear p0 p1 p2 p3 p4 p5 p6 hO7 hb7 hSx hS6 hb6 O5 OC5
  obtain ⟨p0, p1, p2, p3, p4, p5, p6⟩ := id OC7
  simp only at p0 p1 p2 p3 p4 p5 p6
  have hN7 : N5 + D2.length ≤ 30 := by omega
  have HN : Hid ((([UInt8.ofNat 1] ++ T ++ D1) ++ D2).length = N5 + D2.length) := (out_sl O7.out).len.symm
  generalize N5 + D2.length = N7 at O7 hN7 HN ⊢
  have HY := Lib.hid (byteF_of (off_ (from_ w1.heap.size) (.slice ao7 N7 cap7)) (w7.alloc (.cells #[.int .u8 m] 5)) m (by omega))
  generalize (([UInt8.ofNat 1] ++ T ++ D1) ++ D2) = acc7 at O7 HN HE
  clear H2
  have hmi : (m : Int) ≤ 4 := by omega
  go_wp2_with (first
    | (at_builtin; go_loud (refine wpList_append_F rfl _ _ 34 rfl w1.heap.size 5 i0 (.int .u8 0) 1 1 Try.underlying34 hi hz0 hz1 hz2 rfl (by decide) _ N7 rfl O7.out HN.out byteF_firm (UInt8.ofNat m) [.int .u8 m] ⟨w7.heap.size, 0, none⟩ rfl rfl (cell_one_new _ _ _) (fun u hu => by rw [List.mem_singleton.1 hu]; rfl) HY.out (by omega) (by decide) (by simp; omega) ?_); intro ra8 rc8 w8 hown8 hgrow8 hb8)
    | fail)
  have hs8 := hb8.size
  have B8 : Below w1.heap.size w1 w8 := B7.trans ((Below.alloc (Below.refl _ _) (by omega) _).trans hb8)
  have OC8 := OC1.below B8 z0_w1
  have O8 := Lib.hid hown8
  have HL : Hid ((acc7 ++ [UInt8.ofNat m]).length ≤ 40) := by show _ ≤ _; rw [List.length_append, HN.out]; simp; omega
  clear p0 p1 p2 p3 p4 p5 p6 OC7 O7 hown8 hb8 hgrow8 HY HN
  generalize acc7 ++ [UInt8.ofNat m] = acc0 at HE O8 HL
  have hmay' := Lib.hid hmay
  clear hmay
  go_wp2_with fail
  go_loopw [5, 6] (fun o i wr => ∃ (k : Nat) (acc : List UInt8), k ≤ m ∧ i = .int .i64 k ∧ Below w1.heap.size w1 wr ∧ OwnF (from_ w1.heap.size) w1.heap.size wr 5 1 byteF o acc ∧ Hid (acc.length ≤ 40 + 22 * k ∧ acc ++ (vs.drop k).flatMap valL = L)) (fun _ i _ => m - (intOf i).toNat)
  case atStart => exact ⟨0, acc0, by omega, rfl, B8, O8.out, by have := HL.out; omega, HE.out⟩
  case round =>
    obtain ⟨k, acc, hk, rfl, hbr, hor, HX⟩ := hrel
    obtain ⟨hx1, hx2⟩ := HX.out
    have HXX := Lib.hid hx2
    clear hx2 HX HE O8 HL OC8
    have hsr := hbr.size
    obtain ⟨ra, rc, rfl⟩ := hor.slice
    have OR := Lib.hid hor
    clear hor
    have hbw : Below w.heap.size w wr := B1.trans (hbr.mono B1.size)
    obtain ⟨p0, p1, p2, p3, p4, p5, p6⟩ := OC1.below hbr z0_w1
    simp only at p0 p1 p2 p3 p4 p5 p6
    by_cases hlt : k < m
    · have hkl : k < vs.length := by have := hvlen.out; omega
      obtain ⟨b, off, row, hix, hblt, hrow, hrr, hvn⟩ := (hV.mono valR_stays hbw).index (P := Try.prog) Try.underlying31 size_value (i := k) hkl
      subst hrr
      obtain ⟨c0, c1, c2⟩ := hrow.three
      have hmy : valMay vs[k] := hmay'.out _ (List.getElem_mem hkl)
      have HD : Hid (acc ++ (valL vs[k] ++ (vs.drop (k + 1)).flatMap valL) = L) := by
        show _ = _
        rw [← HXX.out, List.drop_eq_getElem_cons hkl, List.flatMap_cons]
      clear HXX hmay' OC1
      have hvl := valL_len hmy
      generalize vs[k] = v at c0 c1 c2 hmy HD hvl hvn
      obtain ⟨kind, int, text⟩ := v
      simp only at c0 c1 c2 hvn
      rcases hmy with ⟨k1, g1⟩ | ⟨k2, g2⟩
      · simp only at k1 g1
        subst k1
        have HD' : Hid (((acc ++ [UInt8.ofNat 1]) ++ sevL (foldN int)) ++ (vs.drop (k + 1)).flatMap valL = L) := by
          show _ = _
          rw [← HD.out]; unfold valL; simp only [if_true, reduceIte]; simp
        have hpl : (sevL (foldN int)).length ≤ 21 := by simp [valL] at hvl; omega
        clear HD hvl
        have HB := Lib.hid (byteF_of (off_ (from_ w1.heap.size) (.slice ra acc.length rc)) ((wr.alloc (.cells #[.int .i64 1, .int .i64 int, .string text] 84)).alloc (.cells #[.int .u8 1] 5)) 1 (by omega))
        have ORa := Lib.hid ((OR.out.alloc byteF_firm (.cells #[.int .i64 1, .int .i64 int, .string text] 84)).alloc byteF_firm (.cells #[.int .u8 1] 5))
        go_wp2_with (first
          | (at_builtin; go_loud (refine wpList_append_F rfl _ _ 34 rfl w1.heap.size 5 i0 (.int .u8 0) 1 1 Try.underlying34 hi hz0 hz1 hz2 rfl (by decide) _ acc.length rfl ORa.out rfl byteF_firm (UInt8.ofNat 1) [.int .u8 1] ⟨wr.heap.size + 1, 0, none⟩ rfl rfl (by simpa using cell_one_new (wr.alloc (.cells #[.int .i64 1, .int .i64 int, .string text] 84)) (.int .u8 1) 5) (fun u hu => by rw [List.mem_singleton.1 hu]; rfl) HB.out (by omega) (by decide) (by simp; omega) ?_); intro ra9 rc9 w9 hown9 hgrow9 hb9; (have hkeep : w9.heap[wr.heap.size]? = ((wr.alloc (.cells #[.int .i64 1, .int .i64 int, .string text] 84)).alloc (.cells #[.int .u8 1] 5)).heap[wr.heap.size]? := hgrow9.block wr.heap.size (by simp; omega) (fun e => Nat.lt_irrefl _ (own_lt OR.out _ e.symm))); (have d0 : w9.cell? ⟨wr.heap.size, 0, none⟩ = some (.int .i64 1) := by rw [World.cell?_of_block (a := ⟨wr.heap.size, 0, none⟩) hkeep]; simp); (have d1 : w9.cell? ⟨wr.heap.size, 1, none⟩ = some (.int .i64 int) := by rw [World.cell?_of_block (a := ⟨wr.heap.size, 1, none⟩) hkeep]; simp); (have d2 : w9.cell? ⟨wr.heap.size, 2, none⟩ = some (.string text) := by rw [World.cell?_of_block (a := ⟨wr.heap.size, 2, none⟩) hkeep]; simp))
          | fail)
        have hs9 := hgrow9.size
        simp only [World.size_alloc] at hs9
        have B9 : Below w1.heap.size wr w9 := (Below.alloc (Below.alloc (Below.refl _ _) (by omega) _) (by simp; omega) _).trans hb9
        clear hkeep hgrow9 ORa HB hb9
        have O9 := Lib.hid hown9
        clear hown9
        have HLL : Hid ((acc ++ [UInt8.ofNat 1]).length = acc.length + 1) := by show _ = _; simp
        have HF := Lib.hid (fun wx => folded_any int wx g1)
        have HS7 := Lib.hid (fun wx => sevens_any (foldN int) (foldN int) wx (Nat.le_refl _) (by unfold foldN; split <;> omega))
        generalize foldN int = fi at HF HS7 HD' hpl
        go_wp2_with fail
        refine (HF.out _).mono ?_
        rintro e wy ⟨rfl, rfl⟩
        go_wp2_with fail
        refine (HS7.out _).mono ?_
        rintro e wy ⟨aoy, capy, rfl, hby, hSy⟩
        have hsy := hby.size
        have hSx := out_sl (O9.out.below byteF_firm hby)
        generalize sevL fi = D at hSy hpl HD'
        go_wp2_with fail
        refine (joined_own _ _ _ _ _ _ _ _ _ _ _ hSx hSy (by omega)).mono ?_
        rintro e wb ⟨aob, capb, rfl, hbb, hOb⟩
        have hsb := hbb.size
        have Bb : Below w1.heap.size w1 wb := hbr.trans (B9.trans ((hby.mono (by omega)).trans (hbb.mono (by omega))))
        have hOb2 := out_lower (B := w1.heap.size) hOb (by omega)
        clear hSx hSy hbb hOb
        go_wp2
        exact ⟨⟨k + 1, (acc ++ [UInt8.ofNat 1]) ++ D, by omega, by go_num, Bb, hOb2, by (rw [List.length_append, List.length_append]; simp; omega), HD'.out⟩, by simp [intOf]; omega⟩
      · simp only at k2 g2
        subst k2
        have HD' : Hid (((acc ++ [UInt8.ofNat 2]) ++ textL text) ++ (vs.drop (k + 1)).flatMap valL = L) := by
          show _ = _
          rw [← HD.out]; unfold valL; simp only [show ¬ ((2 : Int) = 1) by omega, if_false, reduceIte]; simp
        have hpl : (textL text).length ≤ 21 := by simp [valL] at hvl; omega
        clear HD hvl
        have HB := Lib.hid (byteF_of (off_ (from_ w1.heap.size) (.slice ra acc.length rc)) ((wr.alloc (.cells #[.int .i64 2, .int .i64 int, .string text] 84)).alloc (.cells #[.int .u8 2] 5)) 2 (by omega))
        have ORa := Lib.hid ((OR.out.alloc byteF_firm (.cells #[.int .i64 2, .int .i64 int, .string text] 84)).alloc byteF_firm (.cells #[.int .u8 2] 5))
        go_wp2_with (first
          | (at_builtin; go_loud (refine wpList_append_F rfl _ _ 34 rfl w1.heap.size 5 i0 (.int .u8 0) 1 1 Try.underlying34 hi hz0 hz1 hz2 rfl (by decide) _ acc.length rfl ORa.out rfl byteF_firm (UInt8.ofNat 2) [.int .u8 2] ⟨wr.heap.size + 1, 0, none⟩ rfl rfl (by simpa using cell_one_new (wr.alloc (.cells #[.int .i64 2, .int .i64 int, .string text] 84)) (.int .u8 2) 5) (fun u hu => by rw [List.mem_singleton.1 hu]; rfl) HB.out (by omega) (by decide) (by simp; omega) ?_); intro ra9 rc9 w9 hown9 hgrow9 hb9; (have hkeep : w9.heap[wr.heap.size]? = ((wr.alloc (.cells #[.int .i64 2, .int .i64 int, .string text] 84)).alloc (.cells #[.int .u8 2] 5)).heap[wr.heap.size]? := hgrow9.block wr.heap.size (by simp; omega) (fun e => Nat.lt_irrefl _ (own_lt OR.out _ e.symm))); (have d0 : w9.cell? ⟨wr.heap.size, 0, none⟩ = some (.int .i64 2) := by rw [World.cell?_of_block (a := ⟨wr.heap.size, 0, none⟩) hkeep]; simp); (have d1 : w9.cell? ⟨wr.heap.size, 1, none⟩ = some (.int .i64 int) := by rw [World.cell?_of_block (a := ⟨wr.heap.size, 1, none⟩) hkeep]; simp); (have d2 : w9.cell? ⟨wr.heap.size, 2, none⟩ = some (.string text) := by rw [World.cell?_of_block (a := ⟨wr.heap.size, 2, none⟩) hkeep]; simp))
          | fail)
        have hs9 := hgrow9.size
        simp only [World.size_alloc] at hs9
        have B9 : Below w1.heap.size wr w9 := (Below.alloc (Below.alloc (Below.refl _ _) (by omega) _) (by simp; omega) _).trans hb9
        clear hkeep hgrow9 ORa HB hb9
        have O9 := Lib.hid hown9
        clear hown9
        have HLL : Hid ((acc ++ [UInt8.ofNat 2]).length = acc.length + 1) := by show _ = _; simp
        have HS7 := Lib.hid (fun wx => textBytes_any text wx (by omega))
        generalize textL text = D at HS7 HD' hpl
        go_wp2_with fail
        refine (HS7.out _).mono ?_
        rintro e wy ⟨aoy, capy, rfl, hby, hSy⟩
        have hsy := hby.size
        have hSx := out_sl (O9.out.below byteF_firm hby)
        go_wp2_with fail
        refine (joined_own _ _ _ _ _ _ _ _ _ _ _ hSx hSy (by omega)).mono ?_
        rintro e wb ⟨aob, capb, rfl, hbb, hOb⟩
        have hsb := hbb.size
        have Bb : Below w1.heap.size w1 wb := hbr.trans (B9.trans ((hby.mono (by omega)).trans (hbb.mono (by omega))))
        have hOb2 := out_lower (B := w1.heap.size) hOb (by omega)
        clear hSx hSy hbb hOb
        go_wp2
        exact ⟨⟨k + 1, (acc ++ [UInt8.ofNat 2]) ++ D, by omega, by go_num, Bb, hOb2, by (rw [List.length_append, List.length_append]; simp; omega), HD'.out⟩, by simp [intOf]; omega⟩
    · have hkm : k = m := by omega
      have HX2 : Hid (acc = L) := by
        show _ = _
        rw [← HXX.out, List.drop_of_length_le (by have := hvlen.out; omega)]; simp
      rw [HX2.out] at OR ⊢
      clear HXX HX2 hmay'
      have hS := out_sl OR.out
      clear OR
      go_wp2
      go_ret2
      exact ⟨ra, rc, rfl, hbw, hS.wide byteF_firm (fun b hb _ => by (have : w1.heap.size ≤ b := hb); show w.heap.size ≤ b; omega)⟩
end Go.Proofs.Ytciomaeieggbiaa
