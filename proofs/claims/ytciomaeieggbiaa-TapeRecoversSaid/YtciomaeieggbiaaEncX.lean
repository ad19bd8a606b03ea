/-
  The walk of wire.Encode, second part: a query, an insert.
-/
import Derived.Test.YtciomaeieggbiaaEncW
namespace Go.Proofs.Ytciomaeieggbiaa
open Go.RowKit
set_option linter.unusedVariables false
set_option linter.unusedSimpArgs false

theorem text_cells (l : List UInt8) (s : ByteArray) (h : s.size < 256) : Lib.byteCells l ++ [.int .u8 s.size] ++ Lib.strCells s = Lib.byteCells (l ++ textL s) := by
  unfold textL
  rw [Lib.byteCells_append, Lib.byteCells_append, Lib.strCells_eq, ← List.append_assoc]
  congr 2
  simp only [Lib.byteCells, List.map_cons, List.map_nil]
  rw [u8_cell _ h]
theorem small_cells (l : List UInt8) (n : Nat) (h : n < 256) : Lib.byteCells l ++ [.int .u8 n] = Lib.byteCells (l ++ [UInt8.ofNat n]) := by
  rw [Lib.byteCells_append]
  simp only [Lib.byteCells, List.map_cons, List.map_nil]
  rw [u8_cell _ h]
theorem textL_len (s : ByteArray) : (textL s).length = s.size + 1 := by simp [textL]
theorem wtextL_any (B b : Nat) (l : List UInt8) (s : ByteArray) (w : World) (h : WriterAt B b (Lib.byteCells l) w) (hn : s.size < 256) (hlen : l.length + s.size + 1 ≤ 140737488355328) (hBw : B ≤ w.heap.size) :
    Calls Try.prog 28 #[.pointer (some ⟨b, 0, none⟩), .string s] w fun e w' => e = .returned (.tuple #[]) ∧ WriterAt B b (Lib.byteCells (l ++ textL s)) w' ∧ Below B w w' := by
  have := wtext_any B b _ s w h hn (by rw [Lib.byteCells_length]; exact hlen) hBw
  rw [text_cells l s hn] at this
  exact this
theorem wsmallL_any (B b : Nat) (l : List UInt8) (n : Nat) (w : World) (h : WriterAt B b (Lib.byteCells l) w) (hn : n < 256) (hlen : l.length + 1 ≤ 140737488355328) (hBw : B ≤ w.heap.size) :
    Calls Try.prog 26 #[.pointer (some ⟨b, 0, none⟩), .int .i64 n] w fun e w' => e = .returned (.tuple #[]) ∧ WriterAt B b (Lib.byteCells (l ++ [UInt8.ofNat n])) w' ∧ Below B w w' ∧ Spare b w w' := by
  have := wsmall_spare B b _ n w h hn (by rw [Lib.byteCells_length]; exact hlen) hBw
  rw [small_cells l n hn] at this
  exact this

set_option maxHeartbeats 1000000 in
set_option maxRecDepth 100000 in
theorem encode_query (d : Int) (c : Bool) (type : ByteArray) (start stop : Int) (vo : Option Addr) (m vcap : Nat) (vs : List Val) (w : World) (ht : type.size ≤ 10) (hV : SlR w 3 valR vo m vcap vs) (h : wireE ⟨3, type, start, stop, d, c⟩ vs = 0) :
    Calls Try.prog 11 #[Opn.val ⟨3, type, start, stop, d, c⟩ (.slice vo m vcap)] w (EncPost ⟨3, type, start, stop, d, c⟩ vs w) := by
  have HC : Hid (∀ wx, Below w.heap.size w wx → Calls Try.prog 25 #[Opn.val ⟨3, type, start, stop, d, c⟩ (.slice vo m vcap)] wx fun e' w' => e' = .returned (.int .i64 0) ∧ Below wx.heap.size wx w') := fun wx hb => by
    rw [← h]; exact wireCheck_any _ vo m vcap vs wx (by show type.size ≤ maxLen; unfold maxLen; omega) (hV.mono valR_stays hb)
  have HE : Hid (encL ⟨3, type, start, stop, d, c⟩ vs = [3] ++ textL type) := by show _ = _; unfold encL opL; rw [if_pos h]; rfl
  have HW : Hid (wireE ⟨3, type, start, stop, d, c⟩ vs = 0) := h
  clear h
  unfold EncPost
  rw [HW.out]
  clear HW
  generalize encL _ vs = L at HE ⊢
  unfold Opn.val at HC ⊢
  simp only at HC ⊢
  go_enter Try.func11, Try.ntmps11
  go_wp2_with fail
  refine (HC.out _ (by repeat (first | exact Below.refl _ _ | assumption | refine below_step ?_ (by assumption) | refine below_step ?_ (Joins.below_draws _ _ _) | (refine Below.alloc ?_ (by first | omega | (simp; done) | (simp; omega)) _) | (refine Below.setCell ?_ (by first | omega | (simp; done) | (simp; omega)) _) | refine Below.drew ?_))).mono ?_
  rintro e w1 ⟨rfl, hb1⟩
  obtain ⟨hc_w1, hf_w1⟩ := bcell hb1; have hs_w1 := hb1.size; (try simp only [World.size_alloc, World.size_drew, World.size_setCell] at hs_w1); (try simp only [World.size_drew, World.cell?_drew, World.frozen?_drew] at hc_w1 hf_w1); have z0_w1 : w.heap.size < w1.heap.size := (by omega)
  have W0 : Hid (WriterAt w1.heap.size w1.heap.size (Lib.byteCells []) (w1.alloc (.cells #[.slice none 0 0] 78))) := writer_new w1
  go_wp2_with fail
  refine (wsmallL_any _ _ [] 3 _ W0.out (by omega) (by simp) (by simp)).mono ?_
  rintro e w2 ⟨rfl, hw2, hb2, -⟩
  have OC1 : OpCells ⟨3, type, start, stop, d, c⟩ (.slice vo m vcap) w.heap.size w1 := OpCells.below (w := w.alloc (.cells #[.int .i64 3, .string type, .int .i64 start, .int .i64 stop, .slice vo m vcap, .int .i64 d, .bool c] 33)) ⟨by simp, by simp, by simp, by simp, by simp, by simp, by simp⟩ hb1 (by simp)
  have OC2 := (OC1.below (Joins.below_alloc1 w1 (.cells #[.slice none 0 0] 78)) z0_w1).below hb2 z0_w1
  have B1 : Below w.heap.size w w1 := (by repeat (first | exact Below.refl _ _ | assumption | refine below_step ?_ (by assumption) | refine below_step ?_ (Joins.below_draws _ _ _) | (refine Below.alloc ?_ (by first | omega | (simp; done) | (simp; omega)) _) | (refine Below.setCell ?_ (by first | omega | (simp; done) | (simp; omega)) _) | refine Below.drew ?_))
  have B2 : Below w1.heap.size w1 w2 := (Joins.below_alloc1 w1 (.cells #[.slice none 0 0] 78)).trans hb2
  have hs2 := B2.size
  obtain ⟨o0, o1, o2, o3, o4, o5, o6⟩ := id OC2
  simp only at o0 o1 o2 o3 o4 o5 o6
  have W2 := Lib.hid hw2
  clear hw2 W0 hb2 hc_w1 hf_w1
  go_wp2_with fail
  refine (wtextL_any _ _ _ type _ W2.out (by omega) (by simp; omega) (by omega)).mono ?_
  rintro e w3 ⟨rfl, hw3, hb3⟩
  have hs3 := hb3.size
  obtain ⟨p0, p1, p2, p3, p4, p5, p6⟩ := OC2.below hb3 z0_w1
  simp only at p0 p1 p2 p3 p4 p5 p6
  clear o0 o1 o2 o3 o4 o5 o6 W2
  have hw3' : WriterAt w1.heap.size w1.heap.size (Lib.byteCells L) w3 := by rw [HE.out]; exact hw3
  obtain ⟨ao, cap, q0, hS⟩ := hw3'.read
  have hle := hS.le
  have B4 := B1.trans ((B2.trans hb3).mono B1.size)
  clear hw3 hw3' hb3
  go_wp2
  go_ret2
  exact ⟨ao, cap, rfl, B4, hS.wide byteF_firm (fun b hb _ => by (have : w1.heap.size ≤ b := hb); show w.heap.size ≤ b; omega)⟩

theorem valL_len {v : Val} (h : valMay v) : (valL v).length ≤ 22 := by
  unfold valL
  rw [List.length_append]
  rcases h with ⟨k1, h1, h2⟩ | ⟨k2, h2⟩
  · rw [if_pos k1]
    have := sevL_len 8 (foldN v.int) (by unfold foldN; split <;> omega)
    simp; omega
  · rw [if_neg (by omega), textL_len]
    simp; omega

set_option maxHeartbeats 4000000 in
set_option maxRecDepth 100000 in
theorem encode_ins (d : Int) (c : Bool) (type : ByteArray) (start stop : Nat) (vo : Option Addr) (m vcap : Nat) (vs : List Val) (w : World) (ht : type.size ≤ 10) (hst : start ≤ 1099511627776) (hsp : stop ≤ 1099511627776) (hm4 : vs.length ≤ 4) (hmay : ∀ v ∈ vs, valMay v) (hV : SlR w 3 valR vo m vcap vs) (h : wireE ⟨1, type, start, stop, d, c⟩ vs = 0) :
    Calls Try.prog 11 #[Opn.val ⟨1, type, start, stop, d, c⟩ (.slice vo m vcap)] w (EncPost ⟨1, type, start, stop, d, c⟩ vs w) := by
  have HC : Hid (∀ wx, Below w.heap.size w wx → Calls Try.prog 25 #[Opn.val ⟨1, type, start, stop, d, c⟩ (.slice vo m vcap)] wx fun e' w' => e' = .returned (.int .i64 0) ∧ Below wx.heap.size wx w') := fun wx hb => by
    rw [← h]; exact wireCheck_any _ vo m vcap vs wx (by show type.size ≤ maxLen; unfold maxLen; omega) (hV.mono valR_stays hb)
  have hml : m = vs.length := hV.len
  have hvle := hV.le
  have ML := Lib.hid hml
  have hm' : m ≤ 4 := by omega
  have HE : Hid (([1] ++ textL type ++ sevL start ++ sevL stop ++ [UInt8.ofNat m]) ++ (vs.drop 0).flatMap valL = encL ⟨1, type, start, stop, d, c⟩ vs) := by show _ = _; unfold encL opL; rw [if_pos h, ML.out]; rfl
  have HW : Hid (wireE ⟨1, type, start, stop, d, c⟩ vs = 0) := h
  have l1 := sevL_len 8 start (by omega)
  have l2 := sevL_len 8 stop (by omega)
  have l0 := textL_len type
  have hvlen : Hid (vs.length = m) := hml.symm
  clear h hml hm4
  unfold EncPost
  rw [HW.out]
  clear HW
  generalize encL _ vs = L at HE ⊢
  unfold Opn.val at HC ⊢
  simp only at HC ⊢
  go_enter Try.func11, Try.ntmps11
  go_wp2_with fail
  refine (HC.out _ (by repeat (first | exact Below.refl _ _ | assumption | refine below_step ?_ (by assumption) | refine below_step ?_ (Joins.below_draws _ _ _) | (refine Below.alloc ?_ (by first | omega | (simp; done) | (simp; omega)) _) | (refine Below.setCell ?_ (by first | omega | (simp; done) | (simp; omega)) _) | refine Below.drew ?_))).mono ?_
  rintro e w1 ⟨rfl, hb1⟩
  obtain ⟨hc_w1, hf_w1⟩ := bcell hb1; have hs_w1 := hb1.size; (try simp only [World.size_alloc, World.size_drew, World.size_setCell] at hs_w1); (try simp only [World.size_drew, World.cell?_drew, World.frozen?_drew] at hc_w1 hf_w1); have z0_w1 : w.heap.size < w1.heap.size := (by omega)
  have W0 : Hid (WriterAt w1.heap.size w1.heap.size (Lib.byteCells []) (w1.alloc (.cells #[.slice none 0 0] 78))) := writer_new w1
  go_wp2_with fail
  refine (wsmallL_any _ _ [] 1 _ W0.out (by omega) (by simp) (by simp)).mono ?_
  rintro e w2 ⟨rfl, hw2, hb2, -⟩
  have OC1 : OpCells ⟨1, type, start, stop, d, c⟩ (.slice vo m vcap) w.heap.size w1 := OpCells.below (w := w.alloc (.cells #[.int .i64 1, .string type, .int .i64 start, .int .i64 stop, .slice vo m vcap, .int .i64 d, .bool c] 33)) ⟨by simp, by simp, by simp, by simp, by simp, by simp, by simp⟩ hb1 (by simp)
  have OC2 := (OC1.below (Joins.below_alloc1 w1 (.cells #[.slice none 0 0] 78)) z0_w1).below hb2 z0_w1
  have B1 : Below w.heap.size w w1 := (by repeat (first | exact Below.refl _ _ | assumption | refine below_step ?_ (by assumption) | refine below_step ?_ (Joins.below_draws _ _ _) | (refine Below.alloc ?_ (by first | omega | (simp; done) | (simp; omega)) _) | (refine Below.setCell ?_ (by first | omega | (simp; done) | (simp; omega)) _) | refine Below.drew ?_))
  have B2 : Below w1.heap.size w1 w2 := (Joins.below_alloc1 w1 (.cells #[.slice none 0 0] 78)).trans hb2
  have hs2 := B2.size
  obtain ⟨o0, o1, o2, o3, o4, o5, o6⟩ := id OC2
  simp only at o0 o1 o2 o3 o4 o5 o6
  have W2 := Lib.hid hw2
  clear hw2 W0 hb2 hc_w1 hf_w1
  go_wp2_with fail
  refine (wtextL_any _ _ _ type _ W2.out (by omega) (by simp; omega) (by omega)).mono ?_
  rintro e w3 ⟨rfl, hw3, hb3⟩
  have hs3 := hb3.size
  have OC3 := OC2.below hb3 z0_w1
  obtain ⟨p0, p1, p2, p3, p4, p5, p6⟩ := id OC3
  simp only at p0 p1 p2 p3 p4 p5 p6
  clear o0 o1 o2 o3 o4 o5 o6 W2
  have W3 := Lib.hid hw3
  clear hw3
  go_wp2_with fail
  refine (wlong_any _ _ _ start _ W3.out (by omega) (by simp; omega) (by omega)).mono ?_
  rintro e w4 ⟨rfl, hw4, hb4⟩
  have hs4 := hb4.size
  have OC4 := OC3.below hb4 z0_w1
  clear p0 p1 p2 p3 p4 p5 p6 W3
  obtain ⟨p0, p1, p2, p3, p4, p5, p6⟩ := id OC4
  simp only at p0 p1 p2 p3 p4 p5 p6
  have W4 := Lib.hid hw4
  clear hw4
  go_wp2_with fail
  refine (wlong_any _ _ _ stop _ W4.out (by omega) (by simp; omega) (by omega)).mono ?_
  rintro e w5 ⟨rfl, hw5, hb5⟩
  have hs5 := hb5.size
  have OC5 := OC4.below hb5 z0_w1
  clear p0 p1 p2 p3 p4 p5 p6 W4
  obtain ⟨p0, p1, p2, p3, p4, p5, p6⟩ := id OC5
  simp only at p0 p1 p2 p3 p4 p5 p6
  have W5 := Lib.hid hw5
  clear hw5
  go_wp2_with fail
  refine (wsmallL_any _ _ _ m _ W5.out (by omega) (by simp; omega) (by omega)).mono ?_
  rintro e w6 ⟨rfl, hw6, hb6, -⟩
  have hs6 := hb6.size
  have OC6 := OC5.below hb6 z0_w1
  clear p0 p1 p2 p3 p4 p5 p6 W5
  obtain ⟨p0, p1, p2, p3, p4, p5, p6⟩ := id OC6
  simp only at p0 p1 p2 p3 p4 p5 p6
  have B6 : Below w1.heap.size w1 w6 := (((B2.trans hb3).trans hb4).trans hb5).trans hb6
  clear hb3 hb4 hb5 hb6 OC1 OC2 OC3 OC4 OC5 OC6
  have W6 : Hid (WriterAt w1.heap.size w1.heap.size (Lib.byteCells ([1] ++ textL type ++ sevL start ++ sevL stop ++ [UInt8.ofNat m])) w6) := hw6
  have HL : Hid (([1] ++ textL type ++ sevL start ++ sevL stop ++ [UInt8.ofNat m]).length ≤ 40) := by show _ ≤ _; simp; omega
  clear hw6
  generalize [1] ++ textL type ++ sevL start ++ sevL stop ++ [UInt8.ofNat m] = acc0 at W6 HL HE
  go_wp2_with fail
  go_loopw [68] (fun i wr => ∃ (k : Nat) (acc : List UInt8), k ≤ m ∧ i = .int .i64 k ∧ Below w1.heap.size w1 wr ∧ WriterAt w1.heap.size w1.heap.size (Lib.byteCells acc) wr ∧ Hid (acc.length ≤ 40 + 22 * k ∧ acc ++ (vs.drop k).flatMap valL = L)) (fun i _ => m - (intOf i).toNat)
  case atStart => exact ⟨0, acc0, by omega, rfl, B6, W6.out, by have := HL.out; omega, HE.out⟩
  case round =>
    obtain ⟨k, acc, hk, rfl, hbr, hwr, HX⟩ := hrel
    obtain ⟨hx1, hx2⟩ := HX.out
    have HXX := Lib.hid hx2
    clear hx2 HX HE W6 HL
    have hsr := hbr.size
    have WR := Lib.hid hwr
    clear hwr
    have hbw : Below w.heap.size w wr := B1.trans (hbr.mono B1.size)
    by_cases hlt : k < m
    · have hkl : k < vs.length := by have := hvlen.out; omega
      obtain ⟨b, off, row, hix, hblt, hrow, hrr, hvn⟩ := (hV.mono valR_stays hbw).index (P := Try.prog) Try.underlying31 size_value (i := k) hkl
      subst hrr
      obtain ⟨c0, c1, c2⟩ := hrow.three
      have hmy : valMay vs[k] := hmay _ (List.getElem_mem hkl)
      have HD : Hid (acc ++ (valL vs[k] ++ (vs.drop (k + 1)).flatMap valL) = L) := by
        show _ = _
        rw [← HXX.out, List.drop_eq_getElem_cons hkl, List.flatMap_cons]
      clear HXX
      have hvl := valL_len hmy
      generalize vs[k] = v at c0 c1 c2 hmy HD hvl hvn
      obtain ⟨kind, int, text⟩ := v
      simp only at c0 c1 c2 hvn
      rcases hmy with ⟨k1, g1⟩ | ⟨k2, g2⟩
      · simp only at k1 g1
        subst k1
        have HD' : Hid (((acc ++ [UInt8.ofNat 1]) ++ sevL (foldN int)) ++ (vs.drop (k + 1)).flatMap valL = L) := by
          show _ = _
          rw [← HD.out]; unfold valL; simp only [if_true, reduceIte]; simp
        have hpl : (sevL (foldN int)).length ≤ 21 := by simp [valL] at hvl; omega
        clear HD hvl
        have WRa := Lib.hid (WR.out.below (Joins.below_alloc1 wr (.cells #[.int .i64 1, .int .i64 int, .string text] 84)))
        have hni : NotIn w1.heap.size wr.heap.size (wr.alloc (.cells #[.int .i64 1, .int .i64 int, .string text] 84)) := WR.out.notIn (Nat.le_refl _) (Below.heap_alloc _ _ _ WR.out.lt)
        clear WR
        go_wp2_with fail
        refine (wsmallL_any _ _ acc 1 _ WRa.out (by omega) (by omega) (by simp; omega)).mono ?_
        rintro e w7 ⟨rfl, hw7, hb7, hsp7⟩
        have hkeep := (hsp7 wr.heap.size (by simp) hni).1
        have d0 : w7.cell? ⟨wr.heap.size, 0, none⟩ = some (.int .i64 1) := by rw [World.cell?_of_block (a := ⟨wr.heap.size, 0, none⟩) hkeep]; simp
        have d1 : w7.cell? ⟨wr.heap.size, 1, none⟩ = some (.int .i64 int) := by rw [World.cell?_of_block (a := ⟨wr.heap.size, 1, none⟩) hkeep]; simp
        have d2 : w7.cell? ⟨wr.heap.size, 2, none⟩ = some (.string text) := by rw [World.cell?_of_block (a := ⟨wr.heap.size, 2, none⟩) hkeep]; simp
        have hs7 := hb7.size
        simp only [World.size_alloc] at hs7
        have B7 : Below w1.heap.size wr w7 := (Below.alloc (Below.refl _ _) (by omega) _).trans hb7
        clear hsp7 hni hkeep WRa hb7
        have W7 := Lib.hid hw7
        clear hw7
        go_wp2_with fail
        refine (wsigned_any _ _ _ int _ W7.out g1 (by simp; omega) (by omega)).mono ?_
        rintro e w8 ⟨rfl, hw8, hb8⟩
        go_wp2
        go_roundw
        case rel => exact ⟨k + 1, (acc ++ [UInt8.ofNat 1]) ++ sevL (foldN int), by omega, by go_num, (hbr.trans B7).trans hb8, hw8, by (rw [List.length_append, List.length_append]; simp; omega), HD'.out⟩
        case measure => simp [intOf]; omega
      · simp only at k2 g2
        subst k2
        have HD' : Hid (((acc ++ [UInt8.ofNat 2]) ++ textL text) ++ (vs.drop (k + 1)).flatMap valL = L) := by
          show _ = _
          rw [← HD.out]; unfold valL; simp only [show ¬ ((2 : Int) = 1) by omega, if_false, reduceIte]; simp
        have hpl : (textL text).length ≤ 21 := by simp [valL] at hvl; omega
        clear HD hvl
        have WRa := Lib.hid (WR.out.below (Joins.below_alloc1 wr (.cells #[.int .i64 2, .int .i64 int, .string text] 84)))
        have hni : NotIn w1.heap.size wr.heap.size (wr.alloc (.cells #[.int .i64 2, .int .i64 int, .string text] 84)) := WR.out.notIn (Nat.le_refl _) (Below.heap_alloc _ _ _ WR.out.lt)
        clear WR
        go_wp2_with fail
        refine (wsmallL_any _ _ acc 2 _ WRa.out (by omega) (by omega) (by simp; omega)).mono ?_
        rintro e w7 ⟨rfl, hw7, hb7, hsp7⟩
        have hkeep := (hsp7 wr.heap.size (by simp) hni).1
        have d0 : w7.cell? ⟨wr.heap.size, 0, none⟩ = some (.int .i64 2) := by rw [World.cell?_of_block (a := ⟨wr.heap.size, 0, none⟩) hkeep]; simp
        have d1 : w7.cell? ⟨wr.heap.size, 1, none⟩ = some (.int .i64 int) := by rw [World.cell?_of_block (a := ⟨wr.heap.size, 1, none⟩) hkeep]; simp
        have d2 : w7.cell? ⟨wr.heap.size, 2, none⟩ = some (.string text) := by rw [World.cell?_of_block (a := ⟨wr.heap.size, 2, none⟩) hkeep]; simp
        have hs7 := hb7.size
        simp only [World.size_alloc] at hs7
        have B7 : Below w1.heap.size wr w7 := (Below.alloc (Below.refl _ _) (by omega) _).trans hb7
        clear hsp7 hni hkeep WRa hb7
        have W7 := Lib.hid hw7
        clear hw7
        go_wp2_with fail
        refine (wtextL_any _ _ _ text _ W7.out (by omega) (by simp; omega) (by omega)).mono ?_
        rintro e w8 ⟨rfl, hw8, hb8⟩
        go_wp2
        go_roundw
        case rel => exact ⟨k + 1, (acc ++ [UInt8.ofNat 2]) ++ textL text, by omega, by go_num, (hbr.trans B7).trans hb8, hw8, by (rw [List.length_append, List.length_append]; simp; omega), HD'.out⟩
        case measure => simp [intOf]; omega
    · have hkm : k = m := by omega
      have HX2 : Hid (acc = L) := by
        show _ = _
        rw [← HXX.out, List.drop_of_length_le (by have := hvlen.out; omega)]; simp
      rw [HX2.out] at WR
      clear HXX HX2
      obtain ⟨ao, cap, q0, hS⟩ := WR.out.read
      have hle := hS.le
      clear WR
      go_wp2
      go_ret2
      exact ⟨ao, cap, rfl, hbw, hS.wide byteF_firm (fun b hb _ => by (have : w1.heap.size ≤ b := hb); show w.heap.size ≤ b; omega)⟩
end Go.Proofs.Ytciomaeieggbiaa
