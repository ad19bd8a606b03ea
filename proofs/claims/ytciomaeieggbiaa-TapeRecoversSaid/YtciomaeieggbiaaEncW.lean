/-
  The walk of wire.Encode.
-/
import Derived.Test.YtciomaeieggbiaaEncP
namespace Go.Proofs.Ytciomaeieggbiaa
open Go.RowKit
set_option linter.unusedVariables false
set_option linter.unusedSimpArgs false

theorem WriterAt.read {B b : Nat} {l : List UInt8} {w : World} (h : WriterAt B b (Lib.byteCells l) w) :
    ∃ ao cap, w.cell? ⟨b, 0, none⟩ = some (.slice ao l.length cap) ∧ SlF (from_ B) w 1 byteF ao l.length cap l := by
  obtain ⟨hB, v, hbk, hown⟩ := h
  have hc : w.cell? ⟨b, 0, none⟩ = some v := by rw [Lib.cell_of_heap hbk]; rfl
  rw [Lib.byteCells_length] at hown
  have hO : OwnF (from_ B) B w 5 1 byteF v l := by
    refine ⟨Lib.byteCells l, hown, fun i hi => ⟨[byteC l[i]], rfl, fun j hj => ?_, rfl⟩⟩
    obtain rfl : j = 0 := by omega
    simp [Lib.byteCells, byteC, List.getElem?_eq_getElem hi]
  obtain ⟨ao, cap, rfl, hS⟩ := hO.done byteF_firm (G := from_ B) (by omega) (fun b _ h => h.elim id id)
  exact ⟨ao, cap, hc, hS⟩
def OpCells (o : Opn) (v : Value) (b : Nat) (w : World) : Prop := w.cell? ⟨b, 0, none⟩ = some (.int .i64 o.kind) ∧ w.cell? ⟨b, 1, none⟩ = some (.string o.type) ∧ w.cell? ⟨b, 2, none⟩ = some (.int .i64 o.start) ∧ w.cell? ⟨b, 3, none⟩ = some (.int .i64 o.stop) ∧ w.cell? ⟨b, 4, none⟩ = some v ∧ w.cell? ⟨b, 5, none⟩ = some (.int .i64 o.delta) ∧ w.cell? ⟨b, 6, none⟩ = some (.bool o.collect)
theorem OpCells.below {o : Opn} {v : Value} {b B : Nat} {w w' : World} (h : OpCells o v b w) (hb : Below B w w') (hB : b < B) : OpCells o v b w' := by
  obtain ⟨h0, h1, h2, h3, h4, h5, h6⟩ := h
  have e : ∀ k, w'.cell? ⟨b, k, none⟩ = w.cell? ⟨b, k, none⟩ := fun k => hb.cell (p := ⟨b, k, none⟩) hB
  exact ⟨(e 0).trans h0, (e 1).trans h1, (e 2).trans h2, (e 3).trans h3, (e 4).trans h4, (e 5).trans h5, (e 6).trans h6⟩
def EncPost (o : Opn) (vs : List Val) (w : World) (e : Ending) (w' : World) : Prop :=
  ∃ ao cap, e = .returned (.tuple #[.slice ao (encL o vs).length cap, .int .i64 (wireE o vs)]) ∧ Below w.heap.size w w' ∧ SlF (from_ w.heap.size) w' 1 byteF ao (encL o vs).length cap (encL o vs)

set_option maxHeartbeats 1000000 in
set_option maxRecDepth 100000 in
theorem encode_bad (o : Opn) (vo : Option Addr) (m vcap : Nat) (vs : List Val) (w : World) (ht : o.type.size ≤ maxLen) (hV : SlR w 3 valR vo m vcap vs) (h : ¬ wireE o vs = 0) :
    Calls Try.prog 11 #[o.val (.slice vo m vcap)] w (EncPost o vs w) := by
  have HC : Hid (∀ wx, Below w.heap.size w wx → Calls Try.prog 25 #[o.val (.slice vo m vcap)] wx fun e' w' => e' = .returned (.int .i64 (wireE o vs)) ∧ Below wx.heap.size wx w') := fun wx hb => wireCheck_any o vo m vcap vs wx ht (hV.mono valR_stays hb)
  have HE : Hid (encL o vs = []) := by show _ = _; unfold encL; rw [if_neg h]
  have hq : (wireE o vs != 0) = true := by simpa using h
  unfold EncPost
  rw [HE.out]
  clear HE h
  generalize wireE o vs = code at HC hq
  unfold Opn.val at HC ⊢
  go_enter Try.func11, Try.ntmps11
  go_wp2_with fail
  refine (HC.out _ (by repeat (first | exact Below.refl _ _ | assumption | refine below_step ?_ (by assumption) | refine below_step ?_ (Joins.below_draws _ _ _) | (refine Below.alloc ?_ (by first | omega | (simp; done) | (simp; omega)) _) | (refine Below.setCell ?_ (by first | omega | (simp; done) | (simp; omega)) _) | refine Below.drew ?_))).mono ?_
  rintro e w1 ⟨rfl, hb1⟩
  go_wp2
  go_ret2
  exact ⟨none, 0, rfl, (by repeat (first | exact Below.refl _ _ | assumption | refine below_step ?_ (by assumption) | refine below_step ?_ (Joins.below_draws _ _ _) | (refine Below.alloc ?_ (by first | omega | (simp; done) | (simp; omega)) _) | (refine Below.setCell ?_ (by first | omega | (simp; done) | (simp; omega)) _) | refine Below.drew ?_)), SlF.nil⟩

set_option maxHeartbeats 1000000 in
set_option maxRecDepth 100000 in
theorem encode_adv1 (d : Nat) (type : ByteArray) (start stop : Int) (vo : Option Addr) (m vcap : Nat) (vs : List Val) (w : World) (ht : type.size ≤ maxLen) (hV : SlR w 3 valR vo m vcap vs) (h : wireE ⟨2, type, start, stop, d, true⟩ vs = 0) (hd2 : d ≤ 1099511627776) :
    Calls Try.prog 11 #[Opn.val ⟨2, type, start, stop, d, true⟩ (.slice vo m vcap)] w (EncPost ⟨2, type, start, stop, d, true⟩ vs w) := by
  have HC : Hid (∀ wx, Below w.heap.size w wx → Calls Try.prog 25 #[Opn.val ⟨2, type, start, stop, d, true⟩ (.slice vo m vcap)] wx fun e' w' => e' = .returned (.int .i64 0) ∧ Below wx.heap.size wx w') := fun wx hb => by
    rw [← h]; exact wireCheck_any _ vo m vcap vs wx ht (hV.mono valR_stays hb)
  have HE : Hid (encL ⟨2, type, start, stop, d, true⟩ vs = [2] ++ sevL d ++ [UInt8.ofNat 1]) := by show _ = _; unfold encL opL; rw [if_pos h, if_pos rfl]; rfl
  have HW : Hid (wireE ⟨2, type, start, stop, d, true⟩ vs = 0) := h
  have HL : Hid ((sevL d).length ≤ 9) := sevL_len 8 d (by omega)
  clear h
  unfold EncPost
  rw [HW.out]
  clear HW
  generalize encL _ vs = L at HE ⊢
  unfold Opn.val at HC ⊢
  simp only at HC ⊢
  go_enter Try.func11, Try.ntmps11
  go_wp2_with fail
  refine (HC.out _ (by repeat (first | exact Below.refl _ _ | assumption | refine below_step ?_ (by assumption) | refine below_step ?_ (Joins.below_draws _ _ _) | (refine Below.alloc ?_ (by first | omega | (simp; done) | (simp; omega)) _) | (refine Below.setCell ?_ (by first | omega | (simp; done) | (simp; omega)) _) | refine Below.drew ?_))).mono ?_
  rintro e w1 ⟨rfl, hb1⟩
  obtain ⟨hc_w1, hf_w1⟩ := bcell hb1; have hs_w1 := hb1.size; (try simp only [World.size_alloc, World.size_drew, World.size_setCell] at hs_w1); (try simp only [World.size_drew, World.cell?_drew, World.frozen?_drew] at hc_w1 hf_w1); have z0_w1 : w.heap.size < w1.heap.size := (by omega)
  have W0 := Lib.hid (writer_new w1)
  go_wp2_with fail
  refine (wsmall_any _ _ [] 2 _ W0.out (by omega) (by simp) (by simp)).mono ?_
  rintro e w2 ⟨rfl, hw2, hb2⟩
  have OC1 : OpCells ⟨2, type, start, stop, d, true⟩ (.slice vo m vcap) w.heap.size w1 := OpCells.below (w := w.alloc (.cells #[.int .i64 2, .string type, .int .i64 start, .int .i64 stop, .slice vo m vcap, .int .i64 d, .bool true] 33)) ⟨by simp, by simp, by simp, by simp, by simp, by simp, by simp⟩ hb1 (by simp)
  have OC2 := (OC1.below (Joins.below_alloc1 w1 (.cells #[.slice none 0 0] 78)) z0_w1).below hb2 z0_w1
  have B1 : Below w.heap.size w w1 := (by repeat (first | exact Below.refl _ _ | assumption | refine below_step ?_ (by assumption) | refine below_step ?_ (Joins.below_draws _ _ _) | (refine Below.alloc ?_ (by first | omega | (simp; done) | (simp; omega)) _) | (refine Below.setCell ?_ (by first | omega | (simp; done) | (simp; omega)) _) | refine Below.drew ?_))
  have B2 : Below w1.heap.size w1 w2 := (Joins.below_alloc1 w1 (.cells #[.slice none 0 0] 78)).trans hb2
  have hs2 := B2.size
  obtain ⟨o0, o1, o2, o3, o4, o5, o6⟩ := id OC2
  simp only at o0 o1 o2 o3 o4 o5 o6
  have W2 : Hid (WriterAt w1.heap.size w1.heap.size (Lib.byteCells [2]) w2) := hw2
  clear hw2 W0 hb2 hc_w1 hf_w1
  go_wp2_with fail
  refine (wlong_any _ _ [2] d _ W2.out (by omega) (by simp) (by omega)).mono ?_
  rintro e w3 ⟨rfl, hw3, hb3⟩
  have hs3 := hb3.size
  obtain ⟨p0, p1, p2, p3, p4, p5, p6⟩ := OC2.below hb3 z0_w1
  simp only at p0 p1 p2 p3 p4 p5 p6
  clear o0 o1 o2 o3 o4 o5 o6 W2
  have W3 := Lib.hid hw3
  clear hw3
  go_wp2_with fail
  refine (wsmall_any _ _ _ 1 _ W3.out (by omega) (by rw [Lib.byteCells_length, List.length_append]; have := HL.out; simp; omega) (by omega)).mono ?_
  rintro e w4 ⟨rfl, hw4, hb4⟩
  have hw4' : WriterAt w1.heap.size w1.heap.size (Lib.byteCells L) w4 := by
    rw [HE.out, Lib.byteCells_append]; exact hw4
  obtain ⟨ao, cap, q0, hS⟩ := hw4'.read
  have hle := hS.le
  have B4 := B1.trans (((B2.trans hb3).trans hb4).mono B1.size)
  clear hw4 hw4' W3 hb3 hb4
  go_wp2
  go_ret2
  exact ⟨ao, cap, rfl, B4, hS.wide byteF_firm (fun b hb _ => by (have : w1.heap.size ≤ b := hb); show w.heap.size ≤ b; omega)⟩
set_option maxHeartbeats 1000000 in
set_option maxRecDepth 100000 in
theorem encode_adv0 (d : Nat) (type : ByteArray) (start stop : Int) (vo : Option Addr) (m vcap : Nat) (vs : List Val) (w : World) (ht : type.size ≤ maxLen) (hV : SlR w 3 valR vo m vcap vs) (h : wireE ⟨2, type, start, stop, d, false⟩ vs = 0) (hd2 : d ≤ 1099511627776) :
    Calls Try.prog 11 #[Opn.val ⟨2, type, start, stop, d, false⟩ (.slice vo m vcap)] w (EncPost ⟨2, type, start, stop, d, false⟩ vs w) := by
  have HC : Hid (∀ wx, Below w.heap.size w wx → Calls Try.prog 25 #[Opn.val ⟨2, type, start, stop, d, false⟩ (.slice vo m vcap)] wx fun e' w' => e' = .returned (.int .i64 0) ∧ Below wx.heap.size wx w') := fun wx hb => by
    rw [← h]; exact wireCheck_any _ vo m vcap vs wx ht (hV.mono valR_stays hb)
  have HE : Hid (encL ⟨2, type, start, stop, d, false⟩ vs = [2] ++ sevL d ++ [UInt8.ofNat 0]) := by show _ = _; unfold encL opL; rw [if_pos h, if_pos rfl]; rfl
  have HW : Hid (wireE ⟨2, type, start, stop, d, false⟩ vs = 0) := h
  have HL : Hid ((sevL d).length ≤ 9) := sevL_len 8 d (by omega)
  clear h
  unfold EncPost
  rw [HW.out]
  clear HW
  generalize encL _ vs = L at HE ⊢
  unfold Opn.val at HC ⊢
  simp only at HC ⊢
  go_enter Try.func11, Try.ntmps11
  go_wp2_with fail
  refine (HC.out _ (by repeat (first | exact Below.refl _ _ | assumption | refine below_step ?_ (by assumption) | refine below_step ?_ (Joins.below_draws _ _ _) | (refine Below.alloc ?_ (by first | omega | (simp; done) | (simp; omega)) _) | (refine Below.setCell ?_ (by first | omega | (simp; done) | (simp; omega)) _) | refine Below.drew ?_))).mono ?_
  rintro e w1 ⟨rfl, hb1⟩
  obtain ⟨hc_w1, hf_w1⟩ := bcell hb1; have hs_w1 := hb1.size; (try simp only [World.size_alloc, World.size_drew, World.size_setCell] at hs_w1); (try simp only [World.size_drew, World.cell?_drew, World.frozen?_drew] at hc_w1 hf_w1); have z0_w1 : w.heap.size < w1.heap.size := (by omega)
  have W0 := Lib.hid (writer_new w1)
  go_wp2_with fail
  refine (wsmall_any _ _ [] 2 _ W0.out (by omega) (by simp) (by simp)).mono ?_
  rintro e w2 ⟨rfl, hw2, hb2⟩
  have OC1 : OpCells ⟨2, type, start, stop, d, false⟩ (.slice vo m vcap) w.heap.size w1 := OpCells.below (w := w.alloc (.cells #[.int .i64 2, .string type, .int .i64 start, .int .i64 stop, .slice vo m vcap, .int .i64 d, .bool false] 33)) ⟨by simp, by simp, by simp, by simp, by simp, by simp, by simp⟩ hb1 (by simp)
  have OC2 := (OC1.below (Joins.below_alloc1 w1 (.cells #[.slice none 0 0] 78)) z0_w1).below hb2 z0_w1
  have B1 : Below w.heap.size w w1 := (by repeat (first | exact Below.refl _ _ | assumption | refine below_step ?_ (by assumption) | refine below_step ?_ (Joins.below_draws _ _ _) | (refine Below.alloc ?_ (by first | omega | (simp; done) | (simp; omega)) _) | (refine Below.setCell ?_ (by first | omega | (simp; done) | (simp; omega)) _) | refine Below.drew ?_))
  have B2 : Below w1.heap.size w1 w2 := (Joins.below_alloc1 w1 (.cells #[.slice none 0 0] 78)).trans hb2
  have hs2 := B2.size
  obtain ⟨o0, o1, o2, o3, o4, o5, o6⟩ := id OC2
  simp only at o0 o1 o2 o3 o4 o5 o6
  have W2 : Hid (WriterAt w1.heap.size w1.heap.size (Lib.byteCells [2]) w2) := hw2
  clear hw2 W0 hb2 hc_w1 hf_w1
  go_wp2_with fail
  refine (wlong_any _ _ [2] d _ W2.out (by omega) (by simp) (by omega)).mono ?_
  rintro e w3 ⟨rfl, hw3, hb3⟩
  have hs3 := hb3.size
  obtain ⟨p0, p1, p2, p3, p4, p5, p6⟩ := OC2.below hb3 z0_w1
  simp only at p0 p1 p2 p3 p4 p5 p6
  clear o0 o1 o2 o3 o4 o5 o6 W2
  have W3 := Lib.hid hw3
  clear hw3
  go_wp2_with fail
  refine (wsmall_any _ _ _ 0 _ W3.out (by omega) (by rw [Lib.byteCells_length, List.length_append]; have := HL.out; simp; omega) (by omega)).mono ?_
  rintro e w4 ⟨rfl, hw4, hb4⟩
  have hw4' : WriterAt w1.heap.size w1.heap.size (Lib.byteCells L) w4 := by
    rw [HE.out, Lib.byteCells_append]; exact hw4
  obtain ⟨ao, cap, q0, hS⟩ := hw4'.read
  have hle := hS.le
  have B4 := B1.trans (((B2.trans hb3).trans hb4).mono B1.size)
  clear hw4 hw4' W3 hb3 hb4
  go_wp2
  go_ret2
  exact ⟨ao, cap, rfl, B4, hS.wide byteF_firm (fun b hb _ => by (have : w1.heap.size ≤ b := hb); show w.heap.size ≤ b; omega)⟩
end Go.Proofs.Ytciomaeieggbiaa
