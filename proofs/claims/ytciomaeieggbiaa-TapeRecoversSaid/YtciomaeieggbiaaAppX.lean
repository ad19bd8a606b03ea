/-
  The walks of tape.Append and its reference, second part: an act that may be.
-/
import Derived.Test.YtciomaeieggbiaaAppW
namespace Go.Proofs.Ytciomaeieggbiaa
open Go.RowKit
set_option linter.unusedVariables false
set_option linter.unusedSimpArgs false

theorem three_rows {F : Nat → Prop} {w : World} {g : Nat} {x0 x1 x2 : List UInt8} {v0 v1 v2 : Value} (hF : F g) (c0 : w.cell? ⟨g, 0, none⟩ = some v0) (c1 : w.cell? ⟨g, 1, none⟩ = some v1) (c2 : w.cell? ⟨g, 2, none⟩ = some v2)
    (r0 : sliceF 1 1 byteF F w [v0] x0) (r1 : sliceF 1 1 byteF F w [v1] x1) (r2 : sliceF 1 1 byteF F w [v2] x2) : SlF F w 1 (sliceF 1 1 byteF) (some ⟨g, 0, none⟩) 3 3 [x0, x1, x2] := by
  refine ⟨rfl, Nat.le_refl _, by unfold maxLen; omega, by simp, fun i hi => ?_⟩
  have hi3 : i < 3 := hi
  have hlt : g < w.heap.size := World.block_lt_of_cell? w _ c0
  match i, hi3 with
  | 0, _ => exact ⟨g, 0, [v0], rfl, hF, hlt, ⟨rfl, fun j hj => by (obtain rfl : j = 0 := by omega); simpa using c0⟩, r0⟩
  | 1, _ => exact ⟨g, 0, [v1], rfl, hF, hlt, ⟨rfl, fun j hj => by (obtain rfl : j = 0 := by omega); simpa using c1⟩, r1⟩
  | 2, _ => exact ⟨g, 0, [v2], rfl, hF, hlt, ⟨rfl, fun j hj => by (obtain rfl : j = 0 := by omega); simpa using c2⟩, r2⟩
theorem row_bytes {F : Nat → Prop} {w : World} {ao : Option Addr} {n cap : Nat} {l : List UInt8} (h : SlF F w 1 byteF ao n cap l) (hn : n ≤ 1000000) : sliceF 1 1 byteF (fun _ => True) w [.slice ao n cap] l :=
  ⟨ao, n, cap, rfl, h.wide byteF_firm (fun _ _ _ => trivial), by have := h.len; omega⟩
theorem slF_two {F : Nat → Prop} {w : World} {g : Nat} {x y : Nat} (hF : F g) (hx : x < 256) (hy : y < 256) (h0 : w.cell? ⟨g, 0, none⟩ = some (.int .u8 x)) (h1 : w.cell? ⟨g, 1, none⟩ = some (.int .u8 y)) : SlF F w 1 byteF (some ⟨g, 0, none⟩) 2 2 [UInt8.ofNat x, UInt8.ofNat y] := by
  have hlt : g < w.heap.size := World.block_lt_of_cell? w _ h0
  refine ⟨rfl, Nat.le_refl _, by unfold maxLen; omega, by simp, fun i hi => ?_⟩
  have hi2 : i < 2 := hi
  match i, hi2 with
  | 0, _ => exact ⟨g, 0, [.int .u8 x], rfl, hF, hlt, ⟨rfl, fun j hj => by (obtain rfl : j = 0 := by omega); simpa using h0⟩, byteF_of _ _ x hx⟩
  | 1, _ => exact ⟨g, 0, [.int .u8 y], rfl, hF, hlt, ⟨rfl, fun j hj => by (obtain rfl : j = 0 := by omega); simpa using h1⟩, byteF_of _ _ y hy⟩
theorem wrap_u8_len (n : Nat) : IntKind.u8.wrap (n : Int) = ((n % 256 : Nat) : Int) := by rw [IntKind.wrap_u8]; omega

set_option maxHeartbeats 2000000 in
set_option maxRecDepth 100000 in
theorem append_full (F : Nat → Prop) (ao : Option Addr) (n cap : Nat) (s : Int) (xs : List UInt8) (a : Ac) (vo : Option Addr) (m vcap : Nat) (vs : List Val) (w : World) (h : mayB n s = true) (hX : SlF F w 1 byteF ao n cap xs) (ht : a.op.type.size ≤ maxLen) (hs : a.source.size ≤ maxLen) (hV : SlR w 3 valR vo m vcap vs) (hn : noteE a vs = 0) (hfull : 200000 < n + 2 + (noteL a vs).length) :
    Calls Try.prog 14 #[.agg #[.slice ao n cap, .int .i64 s], a.val (.slice vo m vcap)] w fun e w' => e = .returned (.tuple #[.agg #[.slice none 0 0, .int .i64 0], .int .i64 8]) ∧ Below w.heap.size w w' := by
  have H : Hid (∀ wx, Below w.heap.size w wx → Calls Try.prog 36 #[.agg #[.slice ao n cap, .int .i64 s]] wx fun e w' => ∃ ao' cap', e = .returned (.tuple #[.agg #[.slice ao' n cap', .int .i64 s], .bool true]) ∧ Below wx.heap.size wx w' ∧ SlF (from_ wx.heap.size) w' 1 byteF ao' n cap' xs) := fun wx hb => open_good F ao n cap s xs wx h (hX.below byteF_firm hb)
  have HN : Hid (∀ wx, Below w.heap.size w wx → Calls Try.prog 37 #[a.val (.slice vo m vcap)] wx fun e w' => e = .returned (.int .i64 0) ∧ Below wx.heap.size wx w') := fun wx hb => by rw [← hn]; exact note_any a vo m vcap vs wx ht hs (hV.mono valR_stays hb)
  have HE : Hid (∀ wx, Below w.heap.size w wx → Calls Try.prog 38 #[a.val (.slice vo m vcap)] wx (BytesPost (noteL a vs) wx)) := fun wx hb => encodeAct_any a vo m vcap vs wx ht (hV.mono valR_stays hb) hn
  have hl := noteL_len hn
  obtain ⟨hn2, hs0, hsn⟩ := mayB_true h
  clear h hn
  unfold BytesPost at HE
  generalize noteL a vs = L at HE hfull hl
  generalize L.length = N at HE hfull hl
  have hf' : (200000 : Int) < (n : Int) + 2 + N := by omega
  obtain ⟨ak, ⟨ok, ot, o1, o2, od, oc⟩, p, src⟩ := a
  unfold Ac.val at HN HE ⊢
  simp only at HN HE ⊢
  go_enter Try.func14, Try.ntmps14
  go_wp2_with fail
  refine (H.out _ (by repeat (first | exact Below.refl _ _ | assumption | refine below_step ?_ (by assumption) | refine below_step ?_ (Joins.below_draws _ _ _) | (refine Below.alloc ?_ (by first | omega | (simp; done) | (simp; omega)) _) | (refine Below.setCell ?_ (by first | omega | (simp; done) | (simp; omega)) _) | refine Below.drew ?_))).mono ?_
  rintro e w1 ⟨ao1, cap1, rfl, hb1, hS1⟩
  obtain ⟨hc_w1, hf_w1⟩ := bcell hb1; have hs_w1 := hb1.size; (try simp only [World.size_alloc, World.size_drew, World.size_setCell] at hs_w1); (try simp only [World.size_drew, World.cell?_drew, World.frozen?_drew] at hc_w1 hf_w1); have z0_w1 : w.heap.size < w1.heap.size := (by omega); have z1_w1 : w.heap.size + 1 < w1.heap.size := (by omega); have z2_w1 : w.heap.size + 1 + 1 < w1.heap.size := (by omega)
  go_wp2_with fail
  refine (HN.out _ (by repeat (first | exact Below.refl _ _ | assumption | refine below_step ?_ (by assumption) | refine below_step ?_ (Joins.below_draws _ _ _) | (refine Below.alloc ?_ (by first | omega | (simp; done) | (simp; omega)) _) | (refine Below.setCell ?_ (by first | omega | (simp; done) | (simp; omega)) _) | refine Below.drew ?_))).mono ?_
  rintro e w2 ⟨rfl, hb2⟩
  obtain ⟨hc_w2, hf_w2⟩ := bcell hb2; have hs_w2 := hb2.size; (try simp only [World.size_alloc, World.size_drew, World.size_setCell] at hs_w2); (try simp only [World.size_drew, World.cell?_drew, World.frozen?_drew] at hc_w2 hf_w2)
  go_wp2_with fail
  refine (HE.out _ (by repeat (first | exact Below.refl _ _ | assumption | refine below_step ?_ (by assumption) | refine below_step ?_ (Joins.below_draws _ _ _) | (refine Below.alloc ?_ (by first | omega | (simp; done) | (simp; omega)) _) | (refine Below.setCell ?_ (by first | omega | (simp; done) | (simp; omega)) _) | refine Below.drew ?_))).mono ?_
  rintro e w3 ⟨ao3, cap3, rfl, hb3, hS3⟩
  obtain ⟨hc_w3, hf_w3⟩ := bcell hb3; have hs_w3 := hb3.size; (try simp only [World.size_alloc, World.size_drew, World.size_setCell] at hs_w3); (try simp only [World.size_drew, World.cell?_drew, World.frozen?_drew] at hc_w3 hf_w3)
  have y2 : w1.heap.size < w2.heap.size := by omega
  have y3 : w1.heap.size < w3.heap.size := by omega
  have z2w2 : w.heap.size + 1 + 1 < w2.heap.size := by omega
  have z2w3 : w.heap.size + 1 + 1 < w3.heap.size := by omega
  go_wp2
  refine bodyPost_ret (v := .tuple #[.agg #[.slice none 0 0, .int .i64 0], .int .i64 8]) (by simp [results, Try.results14, go_sem, hc_w1, z0_w1, z1_w1, z2_w1, hc_w2, hc_w3, z2w2, z2w3, World.cell?_setCell_other]) rfl ?_
  exact ⟨rfl, (by repeat (first | exact Below.refl _ _ | assumption | refine below_step ?_ (by assumption) | refine below_step ?_ (Joins.below_draws _ _ _) | (refine Below.alloc ?_ (by first | omega | (simp; done) | (simp; omega)) _) | (refine Below.setCell ?_ (by first | omega | (simp; done) | (simp; omega)) _) | refine Below.drew ?_))⟩

set_option maxHeartbeats 2000000 in
set_option maxRecDepth 100000 in
theorem append_good (F : Nat → Prop) (ao : Option Addr) (n cap : Nat) (s : Int) (xs : List UInt8) (a : Ac) (vo : Option Addr) (m vcap : Nat) (vs : List Val) (w : World) (h : mayB n s = true) (hX : SlF F w 1 byteF ao n cap xs) (ht : a.op.type.size ≤ maxLen) (hs : a.source.size ≤ maxLen) (hV : SlR w 3 valR vo m vcap vs) (hn : noteE a vs = 0) (hfull : ¬ 200000 < n + 2 + (noteL a vs).length) :
    Calls Try.prog 14 #[.agg #[.slice ao n cap, .int .i64 s], a.val (.slice vo m vcap)] w (TapePost 0 s (xs ++ ([UInt8.ofNat ((noteL a vs).length / 256), UInt8.ofNat ((noteL a vs).length % 256)] ++ noteL a vs)) w) := by
  have H : Hid (∀ wx, Below w.heap.size w wx → Calls Try.prog 36 #[.agg #[.slice ao n cap, .int .i64 s]] wx fun e w' => ∃ ao' cap', e = .returned (.tuple #[.agg #[.slice ao' n cap', .int .i64 s], .bool true]) ∧ Below wx.heap.size wx w' ∧ SlF (from_ wx.heap.size) w' 1 byteF ao' n cap' xs) := fun wx hb => open_good F ao n cap s xs wx h (hX.below byteF_firm hb)
  have HN : Hid (∀ wx, Below w.heap.size w wx → Calls Try.prog 37 #[a.val (.slice vo m vcap)] wx fun e w' => e = .returned (.int .i64 0) ∧ Below wx.heap.size wx w') := fun wx hb => by rw [← hn]; exact note_any a vo m vcap vs wx ht hs (hV.mono valR_stays hb)
  have HE : Hid (∀ wx, Below w.heap.size w wx → Calls Try.prog 38 #[a.val (.slice vo m vcap)] wx (BytesPost (noteL a vs) wx)) := fun wx hb => encodeAct_any a vo m vcap vs wx ht (hV.mono valR_stays hb) hn
  have hl := noteL_len hn
  obtain ⟨hn2, hs0, hsn⟩ := mayB_true h
  clear h hn
  unfold BytesPost at HE
  generalize noteL a vs = L at HE hfull hl ⊢
  obtain ⟨N, hN⟩ : ∃ N, N = L.length := ⟨_, rfl⟩
  rw [← hN] at HE hfull hl ⊢
  have NN := Lib.hid hN
  clear hN
  have hf' : ¬ (200000 : Int) < (n : Int) + 2 + N := by omega
  obtain ⟨hi, hhi⟩ : ∃ hi, hi = N / 256 := ⟨_, rfl⟩
  obtain ⟨lo, hlo⟩ : ∃ lo, lo = N % 256 := ⟨_, rfl⟩
  have e1 : (N : Int) / 256 = (hi : Int) := by omega
  have e2 : IntKind.u8.wrap (N : Int) = (lo : Int) := by rw [wrap_u8_len, hlo]
  have e3 : hi < 256 := by omega
  have e4 : lo < 256 := by omega
  have e5 : IntKind.u8.wrap (hi : Int) = (hi : Int) := IntWalk.u8_in _ (by omega)
  rw [← hhi, ← hlo]
  clear hhi hlo
  generalize hD : xs ++ ([UInt8.ofNat hi, UInt8.ofNat lo] ++ L) = D
  have HD := Lib.hid hD
  clear hD
  obtain ⟨ak, ⟨ok, ot, o1, o2, od, oc⟩, p, src⟩ := a
  unfold Ac.val at HN HE ⊢
  simp only at HN HE ⊢
  go_enter Try.func14, Try.ntmps14
  go_wp2_with fail
  refine (H.out _ (by repeat (first | exact Below.refl _ _ | assumption | refine below_step ?_ (by assumption) | refine below_step ?_ (Joins.below_draws _ _ _) | (refine Below.alloc ?_ (by first | omega | (simp; done) | (simp; omega)) _) | (refine Below.setCell ?_ (by first | omega | (simp; done) | (simp; omega)) _) | refine Below.drew ?_))).mono ?_
  rintro e w1 ⟨ao1, cap1, rfl, hb1, hS1⟩
  obtain ⟨hc_w1, hf_w1⟩ := bcell hb1; have hs_w1 := hb1.size; (try simp only [World.size_alloc, World.size_drew, World.size_setCell] at hs_w1); (try simp only [World.size_drew, World.cell?_drew, World.frozen?_drew] at hc_w1 hf_w1); have z0_w1 : w.heap.size < w1.heap.size := (by omega); have z1_w1 : w.heap.size + 1 < w1.heap.size := (by omega); have z2_w1 : w.heap.size + 1 + 1 < w1.heap.size := (by omega)
  go_wp2_with fail
  refine (HN.out _ (by repeat (first | exact Below.refl _ _ | assumption | refine below_step ?_ (by assumption) | refine below_step ?_ (Joins.below_draws _ _ _) | (refine Below.alloc ?_ (by first | omega | (simp; done) | (simp; omega)) _) | (refine Below.setCell ?_ (by first | omega | (simp; done) | (simp; omega)) _) | refine Below.drew ?_))).mono ?_
  rintro e w2 ⟨rfl, hb2⟩
  obtain ⟨hc_w2, hf_w2⟩ := bcell hb2; have hs_w2 := hb2.size; (try simp only [World.size_alloc, World.size_drew, World.size_setCell] at hs_w2); (try simp only [World.size_drew, World.cell?_drew, World.frozen?_drew] at hc_w2 hf_w2)
  go_wp2_with fail
  refine (HE.out _ (by repeat (first | exact Below.refl _ _ | assumption | refine below_step ?_ (by assumption) | refine below_step ?_ (Joins.below_draws _ _ _) | (refine Below.alloc ?_ (by first | omega | (simp; done) | (simp; omega)) _) | (refine Below.setCell ?_ (by first | omega | (simp; done) | (simp; omega)) _) | refine Below.drew ?_))).mono ?_
  rintro e w3 ⟨ao3, cap3, rfl, hb3, hS3⟩
  obtain ⟨hc_w3, hf_w3⟩ := bcell hb3; have hs_w3 := hb3.size; (try simp only [World.size_alloc, World.size_drew, World.size_setCell] at hs_w3); (try simp only [World.size_drew, World.cell?_drew, World.frozen?_drew] at hc_w3 hf_w3)
  have y2 : w1.heap.size < w2.heap.size := by omega
  have y3 : w1.heap.size < w3.heap.size := by omega
  have z2w2 : w.heap.size + 1 + 1 < w2.heap.size := by omega
  have z2w3 : w.heap.size + 1 + 1 < w3.heap.size := by omega
  have hdl : D.length = n + 2 + N := by rw [← HD.out, NN.out, hX.len]; simp; omega
  have HCat : Hid (Calls Try.prog 39 #[.slice (some ⟨w3.heap.size + 1, 0, none⟩) 3 3] ((w3.alloc (.cells #[.int .u8 hi, .int .u8 lo] 5)).alloc (.cells #[.slice ao1 n cap1, .slice (some ⟨w3.heap.size, 0, none⟩) 2 2, .slice ao3 N cap3] 34)) fun e w' => ∃ ao' cap', e = .returned (.slice ao' D.length cap') ∧ Below (w3.heap.size + 1 + 1) ((w3.alloc (.cells #[.int .u8 hi, .int .u8 lo] 5)).alloc (.cells #[.slice ao1 n cap1, .slice (some ⟨w3.heap.size, 0, none⟩) 2 2, .slice ao3 N cap3] 34)) w' ∧ SlF (from_ (w3.heap.size + 1 + 1)) w' 1 byteF ao' D.length cap' D) := by
    have hfl : [xs, [UInt8.ofNat hi, UInt8.ofNat lo], L].flatten = D := by rw [← HD.out]; simp
    have B13 : Below w1.heap.size w1 w3 := (Joins.below_alloc1 w1 (.cells #[.slice ao1 n cap1, .int .i64 s] 39)).trans ((hb2.mono (by simp)).trans (hb3.mono (by omega)))
    have B3 : Below w3.heap.size w3 ((w3.alloc (.cells #[.int .u8 hi, .int .u8 lo] 5)).alloc (.cells #[.slice ao1 n cap1, .slice (some ⟨w3.heap.size, 0, none⟩) 2 2, .slice ao3 N cap3] 34)) := Joins.below_alloc2 w3 _ _
    have R0 := row_bytes (hS1.below byteF_firm (B13.trans (B3.mono (by omega)))) (by omega)
    have R2 := row_bytes (hS3.below byteF_firm B3) (by omega)
    have R1 := row_bytes (w := (w3.alloc (.cells #[.int .u8 hi, .int .u8 lo] 5)).alloc (.cells #[.slice ao1 n cap1, .slice (some ⟨w3.heap.size, 0, none⟩) 2 2, .slice ao3 N cap3] 34)) (cap := 2) (slF_two (F := fun _ => True) (g := w3.heap.size) trivial e3 e4 (by simp) (by simp)) (by omega)
    have := concat_any (fun _ => True) (some ⟨w3.heap.size + 1, 0, none⟩) 3 3 _ _ (three_rows trivial (by simp) (by simp) (by simp) R0 R1 R2) (by rw [hfl]; omega) (by rw [hfl]; omega)
    rw [hfl] at this
    exact Lib.hid (by simpa only [World.size_alloc] using this)
  clear hdl
  go_wp2_with fail
  refine HCat.out.mono ?_
  rintro e w4 ⟨ao4, cap4, rfl, hb4, hS4⟩
  have hs4 := hb4.size
  simp only [World.size_alloc] at hs4
  have hc_w4 : ∀ b o, b < w3.heap.size → w4.cell? ⟨b, o, none⟩ = w3.cell? ⟨b, o, none⟩ := fun b o hb => by
    rw [hb4.cell (p := ⟨b, o, none⟩) (by show b < _; omega)]
    exact (Joins.below_alloc2 w3 _ _).cell (p := ⟨b, o, none⟩) hb
  have hf_w4 : ∀ b o, b < w3.heap.size → w4.frozen? ⟨b, o, none⟩ = w3.frozen? ⟨b, o, none⟩ := fun b o hb => by
    rw [hb4.frozen (p := ⟨b, o, none⟩) (by show b < _; omega)]
    exact (Joins.below_alloc2 w3 _ _).frozen (p := ⟨b, o, none⟩) hb
  have y4 : w1.heap.size < w4.heap.size := by omega
  have z2w4 : w.heap.size + 1 + 1 < w4.heap.size := by omega
  have hb4' : Below w3.heap.size w3 w4 := (Joins.below_alloc2 w3 _ _).trans (hb4.mono (by omega))
  clear HCat hb4
  go_wp2
  refine bodyPost_ret (v := .tuple #[.agg #[.slice ao4 D.length cap4, .int .i64 s], .int .i64 0]) (by simp [results, Try.results14, go_sem, hc_w1, z0_w1, z1_w1, z2_w1, hc_w2, hc_w3, hc_w4, z2w2, z2w3, z2w4, y2, y3, y4, World.cell?_setCell_other]) rfl ?_
  exact ⟨ao4, cap4, rfl, (by repeat (first | exact Below.refl _ _ | assumption | refine below_step ?_ (by assumption) | refine below_step ?_ (Joins.below_draws _ _ _) | (refine Below.alloc ?_ (by first | omega | (simp; done) | (simp; omega)) _) | (refine Below.setCell ?_ (by first | omega | (simp; done) | (simp; omega)) _) | refine Below.drew ?_)), hS4.same byteF_firm (by refine Same.into ?_ (fun b h _ => (by (first | exact h | exact trivial | (revert h; show _ ≤ b → _ ≤ b; intro h; (try simp only [World.size_alloc, World.size_setCell, World.size_drew] at *); omega)))); repeat (first | exact Same.refl | exact Same.below (by assumption) | (refine Same.trans ?_ (Same.setCell _ (by show ¬ (_ ≤ _); (try simp only [World.size_alloc, World.size_setCell, World.size_drew] at *); omega))) | refine Same.trans ?_ Same.drew | refine Same.trans ?_ (Same.alloc _) | refine Same.trans ?_ (Same.below (by assumption))))⟩
end Go.Proofs.Ytciomaeieggbiaa
