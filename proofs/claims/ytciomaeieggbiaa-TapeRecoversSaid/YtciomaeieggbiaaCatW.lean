/-
  The walks of slices.Grow and slices.Concat at bytes.
-/
import Derived.Test.YtciomaeieggbiaaEncZ
import Derived.Test.YtciomaeieggbiaaTapX
import Derived.Test.YtciomaeieggbiaaOpen
import Derived.Lib.AppendZerosOnto
namespace Go.Proofs.Ytciomaeieggbiaa
open Go.RowKit
set_option linter.unusedVariables false
set_option linter.unusedSimpArgs false

set_option maxHeartbeats 1000000 in
set_option maxRecDepth 100000 in
theorem grow_nil (n : Nat) (w : World) (h0 : 0 < n) (hn : n ≤ 1000000) :
    Calls Try.prog 67 #[.slice none 0 0, .int .i64 n] w fun e w' => ∃ G, e = .returned (.slice (some ⟨w.heap.size, 0, none⟩) 0 G) ∧ OwnF (from_ w.heap.size) w.heap.size w' 5 1 byteF (.slice (some ⟨w.heap.size, 0, none⟩) 0 G) [] ∧ Below w.heap.size w w' := by
  obtain ⟨i0, hi, hz0, hz1, hz2⟩ := info_parts info_byte
  have hold : (Builtin.firstCells i0.size 0 (.slice none 0 0)).run Try.prog w.drew = .ok ([] : List Value).toArray w.drew := by simp [Builtin.firstCells]
  have hr := Lib.run_append_grow_zeros (P := Try.prog) w 34 3 34 5 i0 (.int .u8 0) .i64 .i64 Try.underlying34 Try.underlying3 hi hz0 none 0 0 [] hold n h0 (by omega) (by omega) (by omega) (by rw [hz2]; omega)
    (by rw [hz2]; simp [Builtin.nextslicecap]; split <;> omega)
  have hG1 := grownCap_ge w (0 + n) 0 5
  have hG2 := grownCap_le_maxLen w (0 + n) 0 5 (by unfold maxLen; omega)
  generalize hG : grownCap w (0 + n) 0 5 = G at hr hG1 hG2
  have hn' : (0 : Int) < n := by omega
  have hnn : ¬ (n : Int) < 0 := by omega
  have hGi : (G : Int) ≤ 9223372036854775807 := by unfold maxLen at hG2; omega
  obtain ⟨W1, hr1, OW, hbW⟩ : ∃ W1, (Builtin.append_ #[34, 3] 34 #[.slice none 0 0, .int .i64 n]).run Try.prog w = .ok (.slice (some ⟨w.heap.size, 0, none⟩) n G) W1 ∧ OwnF (from_ w.heap.size) w.heap.size W1 5 1 byteF (.slice (some ⟨w.heap.size, 0, none⟩) 0 G) [] ∧ Below w.heap.size w W1 := by
    refine ⟨_, by rw [Nat.zero_add] at hr; exact hr, ?_, Below.alloc (Below.drew (Below.refl _ _)) (Nat.le_refl _) _⟩
    refine ⟨[], ⟨rfl, Or.inr ⟨w.heap.size, G, _, rfl, Nat.le_refl _, heap_alloc_new w.drew _, Nat.zero_le _, hG2, ?_, by simp⟩⟩, fun i hi => absurd hi (by simp)⟩
    simp [Builtin.zeroCells, Value.cells]; omega
  clear hG hold hr
  go_enter Try.func67, Try.ntmps67
  go_wp2_with (first | (at_builtin; refine Lib.wpList_append_run _ rfl _ _ _ _ rfl _ _ rfl rfl _ _ hr1 ?_) | fail)
  go_ret
  exact ⟨G, rfl, OW, hbW⟩

theorem out_len {B : Nat} {w : World} {e : TypeId} {ao : Option Addr} {n cap : Nat} {l : List UInt8} (h : OwnF (from_ B) B w e 1 byteF (.slice ao n cap) l) : n = l.length := by
  obtain ⟨a2, c2, e2⟩ := h.slice
  simp only [Value.slice.injEq] at e2
  exact e2.2.1
theorem out_cap {B : Nat} {w : World} {e : TypeId} {ao : Option Addr} {n cap : Nat} {l : List UInt8} (h : OwnF (from_ B) B w e 1 byteF (.slice ao n cap) l) : n ≤ cap := by
  obtain ⟨a2, c2, e2, hS⟩ := h.done byteF_firm (G := from_ B) (by omega) (fun b _ h => h.elim id id)
  simp only [Value.slice.injEq] at e2
  obtain ⟨rfl, rfl, rfl⟩ := e2
  exact hS.le.1
/-- Nothing appended to whatever slice. -/
theorem run_append_none {P : Program} {t e : TypeId} {i : TypeInfo} (ht : P.underlying t = some (.slice e)) (hi : P.info? e = some i) (w : World) (vo ao : Option Addr) (n vc cap : Nat) (h : n ≤ vc) :
    (Builtin.append_ #[t, t] t #[.slice vo n vc, .slice ao 0 cap]).run P w = .ok (.slice vo n vc) w := by
  cases ao <;> cases vo <;> simp [Builtin.append_, run_underlying ht, sizeOf, typeInfo, hi, Builtin.lenOf, Builtin.firstCells, storeCells, loadCells, loadCellsFrom, h]
theorem run_append_bytes {P : Program} {t e : TypeId} {i : TypeInfo} (ht : P.underlying t = some (.slice e)) (hi : P.info? e = some i) (hz : i.zero = some (.int .u8 0)) (hsize : i.size = 1) (hby : i.bytes = 1)
    {F : Nat → Prop} {w : World} {B : Nat} {vo : Option Addr} {m vc : Nat} {xs : List UInt8} (hown : OwnF (from_ B) B w e 1 byteF (.slice vo m vc) xs) {ao : Option Addr} {n cap : Nat} {ys : List UInt8} (h : SlF F w 1 byteF ao n cap ys) (hb : m + n ≤ 140737488355328) (hB : B ≤ w.heap.size) :
    ∃ ra rc w', (Builtin.append_ #[t, t] t #[.slice vo m vc, .slice ao n cap]).run P w = .ok (.slice ra (m + n) rc) w' ∧ OwnF (from_ B) B w' e 1 byteF (.slice ra (m + n) rc) (xs ++ ys) ∧ Below B w w' := by
  have hm : m = xs.length := (out_len hown)
  obtain ⟨hn, hcap, hmax, hnil, hrows⟩ := h
  rcases Nat.eq_zero_or_pos n with h0 | hpos
  · subst h0
    have hx : ys = [] := List.eq_nil_of_length_eq_zero hn.symm
    subst hx
    refine ⟨vo, vc, w, run_append_none ht hi w vo ao m vc cap (out_cap hown), by simpa using hown, Below.refl _ _⟩
  · cases ao with
    | none => have := hnil rfl; omega
    | some a =>
      obtain ⟨rs, h1, h2⟩ := hown
      rw [← hm] at h1
      obtain ⟨b, off, row, e1, _⟩ := hrows 0 (by omega)
      injection e1 with e1
      subst e1
      obtain ⟨v', w', hrun, hown', hgrown, _, hob⟩ := run_append_own_at (P := P) w B t t e i (.int .u8 0) 1 1 ht hi hz hsize hby rfl (by omega) (.slice vo m vc) m rs h1 ⟨b, off, none⟩ n cap (Lib.byteCells ys) (by rw [Lib.byteCells_length]; omega)
        (fun j u hu => by
          have hj : j < ys.length := by have := (List.getElem?_eq_some_iff.1 hu).1; rwa [Lib.byteCells_length] at this
          obtain ⟨b2, off2, row2, e2, _, _, hr, hx⟩ := hrows j hj
          injection e2 with e2; injection e2 with e3 e4; subst e3; subst e4
          have hx' : row2 = [byteC ys[j]] := hx
          subst hx'
          have := hr.2 0 (by omega)
          rw [Go.WideShapes.add_plain]
          simp only [Nat.mul_one, Nat.add_zero] at this
          rw [this, ← hu]
          simp [Lib.byteCells, byteC, List.getElem?_eq_getElem hj])
        (Lib.byteCells_one ys) (by unfold maxLen; omega) (by omega) hB
      have hbel : Below B w w' := (Below.refl _ _).grown hgrown hB (fun g hg => (h1.lt g hg).1)
      have hO : OwnF (from_ B) B w' e 1 byteF v' (xs ++ ys) := by
        have hl : (xs ++ ys).length = m + n := by rw [List.length_append]; omega
        refine ⟨rs ++ Lib.byteCells ys, by rw [hl]; exact hown', fun i hi => ?_⟩
        have hrl : rs.length = xs.length := by have := h1.1; omega
        by_cases hix : i < xs.length
        · obtain ⟨row3, q1, q2, q3⟩ := h2 i hix
          refine ⟨row3, q1, fun j hj => ?_, ?_⟩
          · obtain rfl : j = 0 := by omega
            rw [List.getElem?_append_left (by omega)]
            exact q2 0 (by omega)
          · rw [List.getElem_append_left hix]; exact q3
        · refine ⟨[byteC (xs ++ ys)[i]], rfl, fun j hj => ?_, rfl⟩
          obtain rfl : j = 0 := by omega
          rw [List.getElem?_append_right (by omega)]
          have hiy : i - xs.length < ys.length := by rw [List.length_append] at hi; omega
          rw [List.getElem_append_right (by omega)]
          simp only [Nat.mul_one, Nat.add_zero, hrl]
          simp [Lib.byteCells, byteC, List.getElem?_eq_getElem hiy]
      obtain ⟨ra, rc, hv⟩ := hO.slice
      have hl : (xs ++ ys).length = m + n := by rw [List.length_append]; omega
      rw [hl] at hv
      subst hv
      exact ⟨ra, rc, w', hrun, hO, hbel⟩

theorem flat_step {α : Type} (xss : List (List α)) (k : Nat) (h : k < xss.length) : (xss.take (k + 1)).flatten = (xss.take k).flatten ++ xss[k] := by
  rw [← List.take_append_getElem h, List.flatten_append]; simp
theorem flat_le {α : Type} (xss : List (List α)) (k : Nat) : (xss.take k).flatten.length ≤ xss.flatten.length := by
  conv => rhs; rw [← List.take_append_drop k xss, List.flatten_append, List.length_append]
  omega
theorem size_bytes : SizeIs Try.prog 34 1 := fun w => by kernel_rfl
set_option maxHeartbeats 2000000 in
set_option maxRecDepth 100000 in
theorem concat_any (F : Nat → Prop) (ao : Option Addr) (n cap : Nat) (xss : List (List UInt8)) (w : World) (h : SlF F w 1 (sliceF 1 1 byteF) ao n cap xss) (hb : xss.flatten.length ≤ 1000000) (hpos : 0 < xss.flatten.length) :
    Calls Try.prog 39 #[.slice ao n cap] w fun e w' => ∃ ao' cap', e = .returned (.slice ao' xss.flatten.length cap') ∧ Below w.heap.size w w' ∧ SlF (from_ w.heap.size) w' 1 byteF ao' xss.flatten.length cap' xss.flatten := by
  obtain ⟨i0, hi, hz0, hz1, hz2⟩ := info_parts info_byte
  have NL : Hid (n = xss.length) := h.len
  have hle := h.le
  have HF := Lib.hid (flat_le xss)
  have HS := Lib.hid (flat_step xss)
  have HR := Lib.hid (fun w' (hb : Below w.heap.size w w') => h.below (sliceF_firm byteF_firm) hb)
  have HB := Lib.hid hb
  have HP := Lib.hid hpos
  clear h hb hpos
  go_enter Try.func39, Try.ntmps39
  go_wp2_with fail
  go_loopw [3, 11] (fun s i wr => ∃ k : Nat, k ≤ n ∧ s = .int .i64 ((xss.take k).flatten.length : Nat) ∧ i = .int .i64 k ∧ Below w.heap.size w wr) (fun _ i _ => n - (intOf i).toNat)
  case atStart => exact ⟨0, by omega, by simp, rfl, Below.refl _ _⟩
  case round =>
    obtain ⟨k, hk, rfl, rfl, hbr⟩ := hrel
    by_cases hlt : k < n
    · have hkl : k < xss.length := by have := NL.out; omega
      obtain ⟨b, off, row, hix, hblt, hrow, hrr⟩ := (HR.out _ hbr).toR.index (P := Try.prog) Try.underlying122 size_bytes (i := k) hkl
      obtain ⟨ao1, n1, cap1, rfl, hS1, hn1⟩ := hrr
      have c0 := hrow.one
      simp only [Nat.mul_one] at hix c0
      have h1 := HS.out k hkl
      have h2 := HF.out (k + 1)
      rw [h1, List.length_append, ← hS1.len] at h2
      have hB := HB.out
      have h3 : Hid ((xss.take (k + 1)).flatten.length = (xss.take k).flatten.length + n1) := by show _ = _; rw [h1, List.length_append, ← hS1.len]
      clear h1
      generalize (xss.take k).flatten.length = q at h2 h3 ⊢
      have hq : (q : Int) + n1 ≤ 1000000 := by omega
      clear h2 hB
      go_wp2
      go_roundw
      case rel => exact ⟨k + 1, by omega, by (rw [h3.out]; go_num), by go_num, hbr⟩
      case measure => simp [intOf]; omega
    · have hkn : k = n := by omega
      have hfl : Hid ((xss.take k).flatten = xss.flatten) := by show _ = _; rw [List.take_of_length_le (by have := NL.out; omega)]
      rw [hfl.out]
      have hB := HB.out
      have hP := HP.out
      have HG := Lib.hid (fun wx => grow_nil xss.flatten.length wx hP hB)
      generalize hq : xss.flatten.length = q at HG hB hP ⊢
      have HQ := Lib.hid hq
      clear hq hfl
      have hBi : (q : Int) ≤ 1000000 := by omega
      go_wp2_with fail
      refine (HG.out _).mono ?_
      rintro e w1 ⟨G, rfl, hown, hb1⟩
      have hwr := hbr.size
      have O1 := Lib.hid (out_lower (B := w.heap.size) hown hwr)
      have hb2 : Below w.heap.size w w1 := hbr.trans (hb1.mono hwr)
      clear hown HG hb1 hbr hwr
      go_wp2_with fail
      go_loopw [6, 27] (fun o i wr => ∃ k : Nat, k ≤ n ∧ i = .int .i64 k ∧ Below w.heap.size w wr ∧ OwnF (from_ w.heap.size) w.heap.size wr 5 1 byteF o (xss.take k).flatten) (fun _ i _ => n - (intOf i).toNat)
      case atStart => exact ⟨0, by omega, rfl, hb2, by simpa using O1.out⟩
      case round =>
        obtain ⟨k, hk, rfl, hbr, hown⟩ := hrel
        clear O1
        have hwr := hbr.size
        obtain ⟨ra, rc, rfl⟩ := hown.slice
        by_cases hlt : k < n
        · have hkl : k < xss.length := by have := NL.out; omega
          obtain ⟨b, off, row, hix, hblt, hrow, hrr⟩ := (HR.out _ hbr).toR.index (P := Try.prog) Try.underlying122 size_bytes (i := k) hkl
          obtain ⟨ao1, n1, cap1, rfl, hS1, hn1⟩ := hrr
          have c0 := hrow.one
          simp only [Nat.mul_one] at hix c0
          have h1 := HS.out k hkl
          have h2 := HF.out (k + 1)
          rw [h1, List.length_append, ← hS1.len, HQ.out] at h2
          obtain ⟨rb, rd, w5, hrun, hO5, hb5⟩ := run_append_bytes (P := Try.prog) Try.underlying34 hi hz0 hz1 hz2 hown hS1 (by omega) hwr
          rw [← h1] at hO5
          have O5 := Lib.hid hO5
          clear hO5 hown h1 h2 hS1
          generalize (xss.take k).flatten.length = q0 at hrun O5 ⊢
          go_wp2_with (first | (at_builtin; refine wpList_append_run rfl _ _ 34 rfl rfl rfl rfl hrun ?_) | fail)
          exact ⟨⟨k + 1, by omega, by go_num, hbr.trans hb5, O5.out⟩, by simp [intOf]; omega⟩
        · have hfl : Hid ((xss.take k).flatten = xss.flatten) := by show _ = _; rw [List.take_of_length_le (by have := NL.out; omega)]
          rw [hfl.out] at hown ⊢
          rw [HQ.out] at hown ⊢
          have hS := out_sl hown
          clear hown
          go_wp2
          go_ret
          rw [HQ.out]
          exact ⟨ra, rc, rfl, hbr, hS⟩
end Go.Proofs.Ytciomaeieggbiaa
