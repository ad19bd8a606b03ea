/-
  The walk of the reference's OperationBytes.
-/
import Derived.Test.YtciomaeieggbiaaEncX
namespace Go.Proofs.Ytciomaeieggbiaa
open Go.RowKit
set_option linter.unusedVariables false
set_option linter.unusedSimpArgs false

theorem ownsRow_base {w : World} {base base' size n : Nat} {e : TypeId} {v : Value} {xs : List Value} (h : w.ownsRow base e size v n xs) (hb : base' ≤ base) : w.ownsRow base' e size v n xs :=
  ⟨h.1, h.2.imp id (fun ⟨g, cap, cur, e1, e2, r⟩ => ⟨g, cap, cur, e1, Nat.le_trans hb e2, r⟩)⟩

theorem out_lower {B B' : Nat} {w : World} {e : TypeId} {o : Value} {l : List UInt8} (h : OwnF (from_ B') B' w e 1 byteF o l) (hB : B ≤ B') : OwnF (from_ B) B w e 1 byteF o l := by
  obtain ⟨rs, h1, h2⟩ := h
  exact ⟨rs, ownsRow_base h1 hB, h2⟩
theorem out_sl {B : Nat} {w : World} {e : TypeId} {ao : Option Addr} {n cap : Nat} {l : List UInt8} (h : OwnF (from_ B) B w e 1 byteF (.slice ao n cap) l) : SlF (from_ B) w 1 byteF ao n cap l := by
  obtain ⟨a2, c2, e2, hS⟩ := h.done byteF_firm (G := from_ B) (by omega) (fun b _ h => h.elim id id)
  simp only [Value.slice.injEq] at e2
  obtain ⟨rfl, rfl, rfl⟩ := e2
  exact hS
theorem own_one (w : World) (n : Nat) (h : n < 256) : OwnF (from_ w.heap.size) w.heap.size (w.alloc (.cells #[.int .u8 n] 5)) 5 1 byteF (.slice (some ⟨w.heap.size, 0, none⟩) 1 1) [UInt8.ofNat n] := by
  refine ⟨[.int .u8 n], ⟨rfl, Or.inr ⟨w.heap.size, 1, #[.int .u8 n], rfl, Nat.le_refl _, heap_alloc_new w _, Nat.le_refl _, by unfold maxLen; omega, by simp, by simp⟩⟩, fun i hi => ?_⟩
  obtain rfl : i = 0 := by simpa using hi
  refine ⟨[.int .u8 n], rfl, fun j hj => ?_, ?_⟩
  · obtain rfl : j = 0 := by omega
    rfl
  · show [Value.int .u8 (n : Int)] = [byteC _]
    unfold byteC
    rw [List.getElem_cons_zero, u8_cell n h]
theorem byteF_of (F : Nat → Prop) (w : World) (n : Nat) (h : n < 256) : byteF F w [.int .u8 n] (UInt8.ofNat n) := by
  show [Value.int .u8 (n : Int)] = [byteC _]
  unfold byteC
  rw [u8_cell n h]

set_option maxHeartbeats 1000000 in
set_option maxRecDepth 100000 in
theorem opb_bad (o : Opn) (vo : Option Addr) (m vcap : Nat) (vs : List Val) (w : World) (ht : o.type.size ≤ maxLen) (hV : SlR w 3 valR vo m vcap vs) (h : ¬ wireE o vs = 0) :
    Calls Try.prog 12 #[o.val (.slice vo m vcap)] w (EncPost o vs w) := by
  have HC : Hid (∀ wx, Below w.heap.size w wx → Calls Try.prog 30 #[o.val (.slice vo m vcap)] wx fun e' w' => e' = .returned (.int .i64 (wireE o vs)) ∧ Below wx.heap.size wx w') := fun wx hb => wireFault_any o vo m vcap vs wx ht (hV.mono valR_stays hb)
  have HE : Hid (encL o vs = []) := by show _ = _; unfold encL; rw [if_neg h]
  have hq : (wireE o vs != 0) = true := by simpa using h
  unfold EncPost
  rw [HE.out]
  clear HE h
  generalize wireE o vs = code at HC hq
  unfold Opn.val at HC ⊢
  go_enter Try.func12, Try.ntmps12
  go_wp2_with fail
  refine (HC.out _ (by repeat (first | exact Below.refl _ _ | assumption | refine below_step ?_ (by assumption) | refine below_step ?_ (Joins.below_draws _ _ _) | (refine Below.alloc ?_ (by first | omega | (simp; done) | (simp; omega)) _) | (refine Below.setCell ?_ (by first | omega | (simp; done) | (simp; omega)) _) | refine Below.drew ?_))).mono ?_
  rintro e w1 ⟨rfl, hb1⟩
  go_wp2
  go_ret2
  exact ⟨none, 0, rfl, (by repeat (first | exact Below.refl _ _ | assumption | refine below_step ?_ (by assumption) | refine below_step ?_ (Joins.below_draws _ _ _) | (refine Below.alloc ?_ (by first | omega | (simp; done) | (simp; omega)) _) | (refine Below.setCell ?_ (by first | omega | (simp; done) | (simp; omega)) _) | refine Below.drew ?_)), SlF.nil⟩
set_option maxHeartbeats 1000000 in
set_option maxRecDepth 100000 in
theorem opb_adv1 (d : Nat) (type : ByteArray) (start stop : Int) (vo : Option Addr) (m vcap : Nat) (vs : List Val) (w : World) (ht : type.size ≤ maxLen) (hV : SlR w 3 valR vo m vcap vs) (h : wireE ⟨2, type, start, stop, d, true⟩ vs = 0) (hd2 : d ≤ 1099511627776) :
    Calls Try.prog 12 #[Opn.val ⟨2, type, start, stop, d, true⟩ (.slice vo m vcap)] w (EncPost ⟨2, type, start, stop, d, true⟩ vs w) := by
  obtain ⟨i0, hi, hz0, hz1, hz2⟩ := info_parts info_byte
  have HC : Hid (∀ wx, Below w.heap.size w wx → Calls Try.prog 30 #[Opn.val ⟨2, type, start, stop, d, true⟩ (.slice vo m vcap)] wx fun e' w' => e' = .returned (.int .i64 0) ∧ Below wx.heap.size wx w') := fun wx hb => by
    rw [← h]; exact wireFault_any _ vo m vcap vs wx ht (hV.mono valR_stays hb)
  have HE : Hid (encL ⟨2, type, start, stop, d, true⟩ vs = [UInt8.ofNat 2] ++ sevL d ++ [UInt8.ofNat 1]) := by show _ = _; unfold encL opL; rw [if_pos h, if_pos rfl]; rfl
  have HW : Hid (wireE ⟨2, type, start, stop, d, true⟩ vs = 0) := h
  have HL : Hid ((sevL d).length ≤ 9) := sevL_len 8 d (by omega)
  have HD := Lib.hid (fun wx => sevens_any d d wx (Nat.le_refl _) (by omega))
  clear h
  unfold EncPost
  rw [HW.out]
  clear HW
  generalize encL _ vs = L at HE ⊢
  generalize sevL d = D at HL HE HD
  unfold Opn.val at HC ⊢
  simp only at HC ⊢
  go_enter Try.func12, Try.ntmps12
  go_wp2_with fail
  refine (HC.out _ (by repeat (first | exact Below.refl _ _ | assumption | refine below_step ?_ (by assumption) | refine below_step ?_ (Joins.below_draws _ _ _) | (refine Below.alloc ?_ (by first | omega | (simp; done) | (simp; omega)) _) | (refine Below.setCell ?_ (by first | omega | (simp; done) | (simp; omega)) _) | refine Below.drew ?_))).mono ?_
  rintro e w1 ⟨rfl, hb1⟩
  obtain ⟨hc_w1, hf_w1⟩ := bcell hb1; have hs_w1 := hb1.size; (try simp only [World.size_alloc, World.size_drew, World.size_setCell] at hs_w1); (try simp only [World.size_drew, World.cell?_drew, World.frozen?_drew] at hc_w1 hf_w1); have z0_w1 : w.heap.size < w1.heap.size := (by omega)
  have OC1 : OpCells ⟨2, type, start, stop, d, true⟩ (.slice vo m vcap) w.heap.size w1 := OpCells.below (w := w.alloc (.cells #[.int .i64 2, .string type, .int .i64 start, .int .i64 stop, .slice vo m vcap, .int .i64 d, .bool true] 33)) ⟨by simp, by simp, by simp, by simp, by simp, by simp, by simp⟩ hb1 (by simp)
  have B1 : Below w.heap.size w w1 := (by repeat (first | exact Below.refl _ _ | assumption | refine below_step ?_ (by assumption) | refine below_step ?_ (Joins.below_draws _ _ _) | (refine Below.alloc ?_ (by first | omega | (simp; done) | (simp; omega)) _) | (refine Below.setCell ?_ (by first | omega | (simp; done) | (simp; omega)) _) | refine Below.drew ?_))
  obtain ⟨o0, o1, o2, o3, o4, o5, o6⟩ := id OC1
  simp only at o0 o1 o2 o3 o4 o5 o6
  clear hc_w1 hf_w1
  go_wp2_with fail
  refine (HD.out _).mono ?_
  rintro e w2 ⟨ao2, cap2, rfl, hb2, hS2⟩
  have hs2 := hb2.size
  simp only [World.size_alloc] at hs2
  have hS0 := out_sl ((own_one w1 2 (by omega)).below byteF_firm hb2)
  go_wp2_with fail
  refine (joined_own _ _ _ _ _ _ _ _ _ _ _ hS0 hS2 (by have := HL.out; omega)).mono ?_
  rintro e w3 ⟨ao3, cap3, rfl, hb3, hO3⟩
  have hs3 := hb3.size
  have B3 : Below w1.heap.size w1 w3 := (Joins.below_alloc1 w1 (.cells #[.int .u8 2] 5)).trans ((hb2.mono (by simp)).trans (hb3.mono (by omega)))
  obtain ⟨p0, p1, p2, p3, p4, p5, p6⟩ := OC1.below B3 z0_w1
  simp only at p0 p1 p2 p3 p4 p5 p6
  have O3 := Lib.hid ((out_lower (B := w1.heap.size) hO3 (by omega)).alloc byteF_firm (.cells #[.int .u8 1] 5))
  have HN : Hid (([UInt8.ofNat 2] ++ D).length = 1 + D.length) := by show _ = _; simp; omega
  have HY := Lib.hid (byteF_of (off_ (from_ w1.heap.size) (.slice ao3 (1 + D.length) cap3)) (w3.alloc (.cells #[.int .u8 1] 5)) 1 (by omega))
  have hdl : D.length ≤ 9 := HL.out
  clear o0 o1 o2 o3 o4 o5 o6 hO3 hb3 hS0 hS2 hb2
  go_wp2_with (first
    | (at_builtin; go_loud (refine wpList_append_F rfl _ _ 34 rfl w1.heap.size 5 i0 (.int .u8 0) 1 1 Try.underlying34 hi hz0 hz1 hz2 rfl (by decide) _ (1 + D.length) rfl O3.out HN.out byteF_firm (UInt8.ofNat 1) [.int .u8 1] ⟨w3.heap.size, 0, none⟩ rfl rfl (cell_one_new _ _ _) (fun u hu => by rw [List.mem_singleton.1 hu]; rfl) HY.out (by omega) (by decide) (by simp; omega) ?_); intro ra5 rc5 w5 hown' hgrow hb5)
    | fail)
  go_ret2
  rw [← HE.out] at hown'
  have hS := out_sl hown'
  have hl := hS.len
  rw [hl] at hS ⊢
  exact ⟨ra5, rc5, rfl, B1.trans ((B3.trans ((Below.alloc (Below.refl _ _) (by omega) _).trans hb5)).mono B1.size), hS.wide byteF_firm (fun b hb _ => by (have : w1.heap.size ≤ b := hb); show w.heap.size ≤ b; omega)⟩
set_option maxHeartbeats 1000000 in
set_option maxRecDepth 100000 in
theorem opb_adv0 (d : Nat) (type : ByteArray) (start stop : Int) (vo : Option Addr) (m vcap : Nat) (vs : List Val) (w : World) (ht : type.size ≤ maxLen) (hV : SlR w 3 valR vo m vcap vs) (h : wireE ⟨2, type, start, stop, d, false⟩ vs = 0) (hd2 : d ≤ 1099511627776) :
    Calls Try.prog 12 #[Opn.val ⟨2, type, start, stop, d, false⟩ (.slice vo m vcap)] w (EncPost ⟨2, type, start, stop, d, false⟩ vs w) := by
  obtain ⟨i0, hi, hz0, hz1, hz2⟩ := info_parts info_byte
  have HC : Hid (∀ wx, Below w.heap.size w wx → Calls Try.prog 30 #[Opn.val ⟨2, type, start, stop, d, false⟩ (.slice vo m vcap)] wx fun e' w' => e' = .returned (.int .i64 0) ∧ Below wx.heap.size wx w') := fun wx hb => by
    rw [← h]; exact wireFault_any _ vo m vcap vs wx ht (hV.mono valR_stays hb)
  have HE : Hid (encL ⟨2, type, start, stop, d, false⟩ vs = [UInt8.ofNat 2] ++ sevL d ++ [UInt8.ofNat 0]) := by show _ = _; unfold encL opL; rw [if_pos h, if_pos rfl]; rfl
  have HW : Hid (wireE ⟨2, type, start, stop, d, false⟩ vs = 0) := h
  have HL : Hid ((sevL d).length ≤ 9) := sevL_len 8 d (by omega)
  have HD := Lib.hid (fun wx => sevens_any d d wx (Nat.le_refl _) (by omega))
  clear h
  unfold EncPost
  rw [HW.out]
  clear HW
  generalize encL _ vs = L at HE ⊢
  generalize sevL d = D at HL HE HD
  unfold Opn.val at HC ⊢
  simp only at HC ⊢
  go_enter Try.func12, Try.ntmps12
  go_wp2_with fail
  refine (HC.out _ (by repeat (first | exact Below.refl _ _ | assumption | refine below_step ?_ (by assumption) | refine below_step ?_ (Joins.below_draws _ _ _) | (refine Below.alloc ?_ (by first | omega | (simp; done) | (simp; omega)) _) | (refine Below.setCell ?_ (by first | omega | (simp; done) | (simp; omega)) _) | refine Below.drew ?_))).mono ?_
  rintro e w1 ⟨rfl, hb1⟩
  obtain ⟨hc_w1, hf_w1⟩ := bcell hb1; have hs_w1 := hb1.size; (try simp only [World.size_alloc, World.size_drew, World.size_setCell] at hs_w1); (try simp only [World.size_drew, World.cell?_drew, World.frozen?_drew] at hc_w1 hf_w1); have z0_w1 : w.heap.size < w1.heap.size := (by omega)
  have OC1 : OpCells ⟨2, type, start, stop, d, false⟩ (.slice vo m vcap) w.heap.size w1 := OpCells.below (w := w.alloc (.cells #[.int .i64 2, .string type, .int .i64 start, .int .i64 stop, .slice vo m vcap, .int .i64 d, .bool false] 33)) ⟨by simp, by simp, by simp, by simp, by simp, by simp, by simp⟩ hb1 (by simp)
  have B1 : Below w.heap.size w w1 := (by repeat (first | exact Below.refl _ _ | assumption | refine below_step ?_ (by assumption) | refine below_step ?_ (Joins.below_draws _ _ _) | (refine Below.alloc ?_ (by first | omega | (simp; done) | (simp; omega)) _) | (refine Below.setCell ?_ (by first | omega | (simp; done) | (simp; omega)) _) | refine Below.drew ?_))
  obtain ⟨o0, o1, o2, o3, o4, o5, o6⟩ := id OC1
  simp only at o0 o1 o2 o3 o4 o5 o6
  clear hc_w1 hf_w1
  go_wp2_with fail
  refine (HD.out _).mono ?_
  rintro e w2 ⟨ao2, cap2, rfl, hb2, hS2⟩
  have hs2 := hb2.size
  simp only [World.size_alloc] at hs2
  have hS0 := out_sl ((own_one w1 2 (by omega)).below byteF_firm hb2)
  go_wp2_with fail
  refine (joined_own _ _ _ _ _ _ _ _ _ _ _ hS0 hS2 (by have := HL.out; omega)).mono ?_
  rintro e w3 ⟨ao3, cap3, rfl, hb3, hO3⟩
  have hs3 := hb3.size
  have B3 : Below w1.heap.size w1 w3 := (Joins.below_alloc1 w1 (.cells #[.int .u8 2] 5)).trans ((hb2.mono (by simp)).trans (hb3.mono (by omega)))
  obtain ⟨p0, p1, p2, p3, p4, p5, p6⟩ := OC1.below B3 z0_w1
  simp only at p0 p1 p2 p3 p4 p5 p6
  have O3 := Lib.hid ((out_lower (B := w1.heap.size) hO3 (by omega)).alloc byteF_firm (.cells #[.int .u8 0] 5))
  have HN : Hid (([UInt8.ofNat 2] ++ D).length = 1 + D.length) := by show _ = _; simp; omega
  have HY := Lib.hid (byteF_of (off_ (from_ w1.heap.size) (.slice ao3 (1 + D.length) cap3)) (w3.alloc (.cells #[.int .u8 0] 5)) 0 (by omega))
  have hdl : D.length ≤ 9 := HL.out
  clear o0 o1 o2 o3 o4 o5 o6 hO3 hb3 hS0 hS2 hb2
  go_wp2_with (first
    | (at_builtin; go_loud (refine wpList_append_F rfl _ _ 34 rfl w1.heap.size 5 i0 (.int .u8 0) 1 1 Try.underlying34 hi hz0 hz1 hz2 rfl (by decide) _ (1 + D.length) rfl O3.out HN.out byteF_firm (UInt8.ofNat 0) [.int .u8 0] ⟨w3.heap.size, 0, none⟩ rfl rfl (cell_one_new _ _ _) (fun u hu => by rw [List.mem_singleton.1 hu]; rfl) HY.out (by omega) (by decide) (by simp; omega) ?_); intro ra5 rc5 w5 hown' hgrow hb5)
    | fail)
  go_ret2
  rw [← HE.out] at hown'
  have hS := out_sl hown'
  have hl := hS.len
  rw [hl] at hS ⊢
  exact ⟨ra5, rc5, rfl, B1.trans ((B3.trans ((Below.alloc (Below.refl _ _) (by omega) _).trans hb5)).mono B1.size), hS.wide byteF_firm (fun b hb _ => by (have : w1.heap.size ≤ b := hb); show w.heap.size ≤ b; omega)⟩
end Go.Proofs.Ytciomaeieggbiaa
