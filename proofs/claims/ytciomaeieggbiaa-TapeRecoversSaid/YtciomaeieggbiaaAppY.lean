/-
  The walks of tape.Append and its reference, third part: the reference at an act that may be.
-/
import Derived.Test.YtciomaeieggbiaaAppX
namespace Go.Proofs.Ytciomaeieggbiaa
open Go.RowKit
set_option linter.unusedVariables false
set_option linter.unusedSimpArgs false

set_option maxHeartbeats 2000000 in
set_option maxRecDepth 100000 in
theorem appended_full (ao : Option Addr) (n cap : Nat) (s : Int) (a : Ac) (vo : Option Addr) (m vcap : Nat) (vs : List Val) (w : World) (h : mayB n s = true) (ht : a.op.type.size ≤ maxLen) (hs : a.source.size ≤ maxLen) (hV : SlR w 3 valR vo m vcap vs) (hn : noteE a vs = 0) (hfull : 200000 < n + 2 + (noteL a vs).length) :
    Calls Try.prog 15 #[.agg #[.slice ao n cap, .int .i64 s], a.val (.slice vo m vcap)] w fun e w' => e = .returned (.tuple #[.agg #[.slice none 0 0, .int .i64 0], .int .i64 8]) ∧ Below w.heap.size w w' := by
  have H : Hid (∀ wx, Calls Try.prog 40 #[.agg #[.slice ao n cap, .int .i64 s]] wx fun e w' => e = .returned (.bool true) ∧ Below wx.heap.size wx w') := fun wx => by rw [← h]; exact tapeMay_any ao n cap s wx
  have HN : Hid (∀ wx, Below w.heap.size w wx → Calls Try.prog 41 #[a.val (.slice vo m vcap)] wx fun e w' => e = .returned (.int .i64 0) ∧ Below wx.heap.size wx w') := fun wx hb => by rw [← hn]; exact noteFault_any a vo m vcap vs wx ht hs (hV.mono valR_stays hb)
  have HE : Hid (∀ wx, Below w.heap.size w wx → Calls Try.prog 42 #[a.val (.slice vo m vcap)] wx (BytesPost (noteL a vs) wx)) := fun wx hb => noteBytes_any a vo m vcap vs wx ht (hV.mono valR_stays hb) hn
  have hl := noteL_len hn
  obtain ⟨hn2, hs0, hsn⟩ := mayB_true h
  clear h hn
  unfold BytesPost at HE
  generalize noteL a vs = L at HE hfull hl ⊢
  obtain ⟨N, hN⟩ : ∃ N, N = L.length := ⟨_, rfl⟩
  rw [← hN] at HE hfull hl
  have NN := Lib.hid hN
  clear hN
  obtain ⟨hi, hhi⟩ : ∃ hi, hi = N / 256 := ⟨_, rfl⟩
  obtain ⟨lo, hlo⟩ : ∃ lo, lo = N % 256 := ⟨_, rfl⟩
  have e1 : (N : Int) / 256 = (hi : Int) := by omega
  have e2 : (N : Int) % 256 = (lo : Int) := by omega
  have e3 : hi < 256 := by omega
  have e4 : lo < 256 := by omega
  have e5 : IntKind.u8.wrap (hi : Int) = (hi : Int) := IntWalk.u8_in _ (by omega)
  have e6 : IntKind.u8.wrap (lo : Int) = (lo : Int) := IntWalk.u8_in _ (by omega)
  have e7 : (N : Int).tdiv 256 = (hi : Int) := by rw [Int.tdiv_eq_ediv_of_nonneg (by omega)]; exact e1
  have e8 : (N : Int).tmod 256 = (lo : Int) := by rw [Int.tmod_eq_emod_of_nonneg (by omega)]; exact e2
  have e9 : IntKind.i64.wrap (hi : Int) = (hi : Int) := IntWalk.i64_in _ (by omega)
  have e10 : IntKind.i64.wrap (lo : Int) = (lo : Int) := IntWalk.i64_in _ (by omega)
  clear hhi hlo
  have hf' : (200000 : Int) < (n : Int) + ((2 + N : Nat) : Int) := by omega
  obtain ⟨ak, ⟨ok, ot, o1, o2, od, oc⟩, p, src⟩ := a
  unfold Ac.val at HN HE ⊢
  simp only at HN HE ⊢
  go_enter Try.func15, Try.ntmps15
  go_wp2_with fail
  refine (H.out _).mono ?_
  rintro e w1 ⟨rfl, hb1⟩
  obtain ⟨hc_w1, hf_w1⟩ := bcell hb1; have hs_w1 := hb1.size; (try simp only [World.size_alloc, World.size_drew, World.size_setCell] at hs_w1); (try simp only [World.size_drew, World.cell?_drew, World.frozen?_drew] at hc_w1 hf_w1); have z0_w1 : w.heap.size < w1.heap.size := (by omega); have z1_w1 : w.heap.size + 1 < w1.heap.size := (by omega); have z2_w1 : w.heap.size + 1 + 1 < w1.heap.size := (by omega)
  go_wp2_with fail
  refine (HN.out _ (by repeat (first | exact Below.refl _ _ | assumption | refine below_step ?_ (by assumption) | refine below_step ?_ (Joins.below_draws _ _ _) | (refine Below.alloc ?_ (by first | omega | (simp; done) | (simp; omega)) _) | (refine Below.setCell ?_ (by first | omega | (simp; done) | (simp; omega)) _) | refine Below.drew ?_))).mono ?_
  rintro e w2 ⟨rfl, hb2⟩
  obtain ⟨hc_w2, hf_w2⟩ := bcell hb2; have hs_w2 := hb2.size; (try simp only [World.size_alloc, World.size_drew, World.size_setCell] at hs_w2); (try simp only [World.size_drew, World.cell?_drew, World.frozen?_drew] at hc_w2 hf_w2)
  go_wp2_with fail
  refine (HE.out _ (by repeat (first | exact Below.refl _ _ | assumption | refine below_step ?_ (by assumption) | refine below_step ?_ (Joins.below_draws _ _ _) | (refine Below.alloc ?_ (by first | omega | (simp; done) | (simp; omega)) _) | (refine Below.setCell ?_ (by first | omega | (simp; done) | (simp; omega)) _) | refine Below.drew ?_))).mono ?_
  rintro e w3 ⟨ao3, cap3, rfl, hb3, hS3⟩
  obtain ⟨hc_w3, hf_w3⟩ := bcell hb3; have hs_w3 := hb3.size; (try simp only [World.size_alloc, World.size_drew, World.size_setCell] at hs_w3); (try simp only [World.size_drew, World.cell?_drew, World.frozen?_drew] at hc_w3 hf_w3)
  have z2w2 : w.heap.size + 1 + 1 < w2.heap.size := by omega
  have z2w3 : w.heap.size + 1 + 1 < w3.heap.size := by omega
  have hS2 : SlF (fun _ => True) (w3.alloc (.cells #[.int .u8 hi, .int .u8 lo] 5)) 1 byteF (some ⟨w3.heap.size, 0, none⟩) 2 2 [UInt8.ofNat hi, UInt8.ofNat lo] := slF_two trivial e3 e4 (by simp) (by simp)
  have HJ : Hid (Calls Try.prog 31 #[.slice (some ⟨w3.heap.size, 0, none⟩) 2 2, .slice ao3 N cap3] (w3.alloc (.cells #[.int .u8 hi, .int .u8 lo] 5)) fun e w' => ∃ ao' cap', e = .returned (.slice ao' (2 + N) cap') ∧ Below (w3.alloc (.cells #[.int .u8 hi, .int .u8 lo] 5)).heap.size (w3.alloc (.cells #[.int .u8 hi, .int .u8 lo] 5)) w' ∧ SlF (from_ (w3.alloc (.cells #[.int .u8 hi, .int .u8 lo] 5)).heap.size) w' 1 byteF ao' (2 + N) cap' ([UInt8.ofNat hi, UInt8.ofNat lo] ++ L)) := joined_any _ _ _ _ _ _ _ _ _ _ _ hS2 (hS3.below byteF_firm (Joins.below_alloc1 w3 _)) (by omega)
  clear hS2
  go_wp2_with fail
  refine HJ.out.mono ?_
  rintro e w4 ⟨ao4, cap4, rfl, hb4, hS4⟩
  have hs4 := hb4.size
  simp only [World.size_alloc] at hs4
  have hc_w4 : ∀ b o, b < w3.heap.size → w4.cell? ⟨b, o, none⟩ = w3.cell? ⟨b, o, none⟩ := fun b o hb => by
    rw [hb4.cell (p := ⟨b, o, none⟩) (by simp; omega)]
    exact (Joins.below_alloc1 w3 _).cell (p := ⟨b, o, none⟩) hb
  have hf_w4 : ∀ b o, b < w3.heap.size → w4.frozen? ⟨b, o, none⟩ = w3.frozen? ⟨b, o, none⟩ := fun b o hb => by
    rw [hb4.frozen (p := ⟨b, o, none⟩) (by simp; omega)]
    exact (Joins.below_alloc1 w3 _).frozen (p := ⟨b, o, none⟩) hb
  have z2w4 : w.heap.size + 1 + 1 < w4.heap.size := by omega
  have z0w2 : w.heap.size < w2.heap.size := by omega
  have z0w3 : w.heap.size < w3.heap.size := by omega
  have z0w4 : w.heap.size < w4.heap.size := by omega
  clear HJ H HN HE
  clear hS3 hS4
  have hMb : 2 + N ≤ 3003 := by omega
  generalize 2 + N = M at hf' hMb ⊢
  go_wp2
  refine bodyPost_ret (v := .tuple #[.agg #[.slice none 0 0, .int .i64 0], .int .i64 8]) (by simp [results, Try.results15, go_sem, hc_w1, z0_w1, z1_w1, z2_w1, hc_w2, hc_w3, hc_w4, z2w2, z2w3, z2w4, World.cell?_setCell_other]) rfl ?_
  exact ⟨rfl, (by repeat (first | exact Below.refl _ _ | assumption | refine below_step ?_ (by assumption) | refine below_step ?_ (Joins.below_draws _ _ _) | (refine Below.alloc ?_ (by first | omega | (simp; done) | (simp; omega)) _) | (refine Below.setCell ?_ (by first | omega | (simp; done) | (simp; omega)) _) | refine Below.drew ?_))⟩
set_option maxHeartbeats 2000000 in
set_option maxRecDepth 100000 in
theorem appended_good (F : Nat → Prop) (ao : Option Addr) (n cap : Nat) (s : Int) (xs : List UInt8) (a : Ac) (vo : Option Addr) (m vcap : Nat) (vs : List Val) (w : World) (h : mayB n s = true) (hX : SlF F w 1 byteF ao n cap xs) (ht : a.op.type.size ≤ maxLen) (hs : a.source.size ≤ maxLen) (hV : SlR w 3 valR vo m vcap vs) (hn : noteE a vs = 0) (hfull : ¬ 200000 < n + 2 + (noteL a vs).length) :
    Calls Try.prog 15 #[.agg #[.slice ao n cap, .int .i64 s], a.val (.slice vo m vcap)] w (TapePost 0 s (xs ++ ([UInt8.ofNat ((noteL a vs).length / 256), UInt8.ofNat ((noteL a vs).length % 256)] ++ noteL a vs)) w) := by
  have H : Hid (∀ wx, Calls Try.prog 40 #[.agg #[.slice ao n cap, .int .i64 s]] wx fun e w' => e = .returned (.bool true) ∧ Below wx.heap.size wx w') := fun wx => by rw [← h]; exact tapeMay_any ao n cap s wx
  have HN : Hid (∀ wx, Below w.heap.size w wx → Calls Try.prog 41 #[a.val (.slice vo m vcap)] wx fun e w' => e = .returned (.int .i64 0) ∧ Below wx.heap.size wx w') := fun wx hb => by rw [← hn]; exact noteFault_any a vo m vcap vs wx ht hs (hV.mono valR_stays hb)
  have HE : Hid (∀ wx, Below w.heap.size w wx → Calls Try.prog 42 #[a.val (.slice vo m vcap)] wx (BytesPost (noteL a vs) wx)) := fun wx hb => noteBytes_any a vo m vcap vs wx ht (hV.mono valR_stays hb) hn
  have hl := noteL_len hn
  obtain ⟨hn2, hs0, hsn⟩ := mayB_true h
  clear h hn
  unfold BytesPost at HE
  generalize noteL a vs = L at HE hfull hl ⊢
  obtain ⟨N, hN⟩ : ∃ N, N = L.length := ⟨_, rfl⟩
  rw [← hN] at HE hfull hl ⊢
  have NN := Lib.hid hN
  clear hN
  obtain ⟨hi, hhi⟩ : ∃ hi, hi = N / 256 := ⟨_, rfl⟩
  obtain ⟨lo, hlo⟩ : ∃ lo, lo = N % 256 := ⟨_, rfl⟩
  have e1 : (N : Int) / 256 = (hi : Int) := by omega
  have e2 : (N : Int) % 256 = (lo : Int) := by omega
  have e3 : hi < 256 := by omega
  have e4 : lo < 256 := by omega
  have e5 : IntKind.u8.wrap (hi : Int) = (hi : Int) := IntWalk.u8_in _ (by omega)
  have e6 : IntKind.u8.wrap (lo : Int) = (lo : Int) := IntWalk.u8_in _ (by omega)
  have e7 : (N : Int).tdiv 256 = (hi : Int) := by rw [Int.tdiv_eq_ediv_of_nonneg (by omega)]; exact e1
  have e8 : (N : Int).tmod 256 = (lo : Int) := by rw [Int.tmod_eq_emod_of_nonneg (by omega)]; exact e2
  have e9 : IntKind.i64.wrap (hi : Int) = (hi : Int) := IntWalk.i64_in _ (by omega)
  have e10 : IntKind.i64.wrap (lo : Int) = (lo : Int) := IntWalk.i64_in _ (by omega)
  rw [← hhi, ← hlo]
  clear hhi hlo
  have HX : Hid (∀ wx, Below w.heap.size w wx → SlF F wx 1 byteF ao n cap xs) := fun wx hb => hX.below byteF_firm hb
  have hle := hX.le
  have XL := Lib.hid hX.len
  clear hX
  generalize hD : xs ++ ([UInt8.ofNat hi, UInt8.ofNat lo] ++ L) = D
  have HD := Lib.hid hD
  clear hD
  have hf' : ¬ (200000 : Int) < (n : Int) + ((2 + N : Nat) : Int) := by omega
  obtain ⟨ak, ⟨ok, ot, o1, o2, od, oc⟩, p, src⟩ := a
  unfold Ac.val at HN HE ⊢
  simp only at HN HE ⊢
  go_enter Try.func15, Try.ntmps15
  go_wp2_with fail
  refine (H.out _).mono ?_
  rintro e w1 ⟨rfl, hb1⟩
  obtain ⟨hc_w1, hf_w1⟩ := bcell hb1; have hs_w1 := hb1.size; (try simp only [World.size_alloc, World.size_drew, World.size_setCell] at hs_w1); (try simp only [World.size_drew, World.cell?_drew, World.frozen?_drew] at hc_w1 hf_w1); have z0_w1 : w.heap.size < w1.heap.size := (by omega); have z1_w1 : w.heap.size + 1 < w1.heap.size := (by omega); have z2_w1 : w.heap.size + 1 + 1 < w1.heap.size := (by omega)
  go_wp2_with fail
  refine (HN.out _ (by repeat (first | exact Below.refl _ _ | assumption | refine below_step ?_ (by assumption) | refine below_step ?_ (Joins.below_draws _ _ _) | (refine Below.alloc ?_ (by first | omega | (simp; done) | (simp; omega)) _) | (refine Below.setCell ?_ (by first | omega | (simp; done) | (simp; omega)) _) | refine Below.drew ?_))).mono ?_
  rintro e w2 ⟨rfl, hb2⟩
  obtain ⟨hc_w2, hf_w2⟩ := bcell hb2; have hs_w2 := hb2.size; (try simp only [World.size_alloc, World.size_drew, World.size_setCell] at hs_w2); (try simp only [World.size_drew, World.cell?_drew, World.frozen?_drew] at hc_w2 hf_w2)
  go_wp2_with fail
  refine (HE.out _ (by repeat (first | exact Below.refl _ _ | assumption | refine below_step ?_ (by assumption) | refine below_step ?_ (Joins.below_draws _ _ _) | (refine Below.alloc ?_ (by first | omega | (simp; done) | (simp; omega)) _) | (refine Below.setCell ?_ (by first | omega | (simp; done) | (simp; omega)) _) | refine Below.drew ?_))).mono ?_
  rintro e w3 ⟨ao3, cap3, rfl, hb3, hS3⟩
  obtain ⟨hc_w3, hf_w3⟩ := bcell hb3; have hs_w3 := hb3.size; (try simp only [World.size_alloc, World.size_drew, World.size_setCell] at hs_w3); (try simp only [World.size_drew, World.cell?_drew, World.frozen?_drew] at hc_w3 hf_w3)
  have z2w2 : w.heap.size + 1 + 1 < w2.heap.size := by omega
  have z2w3 : w.heap.size + 1 + 1 < w3.heap.size := by omega
  have hS2 : SlF (fun _ => True) (w3.alloc (.cells #[.int .u8 hi, .int .u8 lo] 5)) 1 byteF (some ⟨w3.heap.size, 0, none⟩) 2 2 [UInt8.ofNat hi, UInt8.ofNat lo] := slF_two trivial e3 e4 (by simp) (by simp)
  have HJ : Hid (Calls Try.prog 31 #[.slice (some ⟨w3.heap.size, 0, none⟩) 2 2, .slice ao3 N cap3] (w3.alloc (.cells #[.int .u8 hi, .int .u8 lo] 5)) fun e w' => ∃ ao' cap', e = .returned (.slice ao' (2 + N) cap') ∧ Below (w3.alloc (.cells #[.int .u8 hi, .int .u8 lo] 5)).heap.size (w3.alloc (.cells #[.int .u8 hi, .int .u8 lo] 5)) w' ∧ SlF (from_ (w3.alloc (.cells #[.int .u8 hi, .int .u8 lo] 5)).heap.size) w' 1 byteF ao' (2 + N) cap' ([UInt8.ofNat hi, UInt8.ofNat lo] ++ L)) := joined_any _ _ _ _ _ _ _ _ _ _ _ hS2 (hS3.below byteF_firm (Joins.below_alloc1 w3 _)) (by omega)
  clear hS2
  go_wp2_with fail
  refine HJ.out.mono ?_
  rintro e w4 ⟨ao4, cap4, rfl, hb4, hS4⟩
  have hs4 := hb4.size
  simp only [World.size_alloc] at hs4
  have hc_w4 : ∀ b o, b < w3.heap.size → w4.cell? ⟨b, o, none⟩ = w3.cell? ⟨b, o, none⟩ := fun b o hb => by
    rw [hb4.cell (p := ⟨b, o, none⟩) (by simp; omega)]
    exact (Joins.below_alloc1 w3 _).cell (p := ⟨b, o, none⟩) hb
  have hf_w4 : ∀ b o, b < w3.heap.size → w4.frozen? ⟨b, o, none⟩ = w3.frozen? ⟨b, o, none⟩ := fun b o hb => by
    rw [hb4.frozen (p := ⟨b, o, none⟩) (by simp; omega)]
    exact (Joins.below_alloc1 w3 _).frozen (p := ⟨b, o, none⟩) hb
  have z2w4 : w.heap.size + 1 + 1 < w4.heap.size := by omega
  have z0w2 : w.heap.size < w2.heap.size := by omega
  have z0w3 : w.heap.size < w3.heap.size := by omega
  have z0w4 : w.heap.size < w4.heap.size := by omega
  clear HJ H HN HE
  generalize hM : 2 + N = M at hf' hS4 ⊢
  have MM := Lib.hid hM
  clear hM
  have hM2 : M ≤ 200000 := by omega
  have HF4 := Lib.hid hS4
  clear hS4 hS3
  have HJ : Hid (∀ wx, Below w4.heap.size w4 wx → Calls Try.prog 31 #[.slice ao n cap, .slice ao4 M cap4] wx fun e w' => ∃ ao' cap', e = .returned (.slice ao' (n + M) cap') ∧ Below wx.heap.size wx w' ∧ SlF (from_ wx.heap.size) w' 1 byteF ao' (n + M) cap' D) := fun wx hb => by
    rw [← HD.out]
    exact joined_any _ _ _ _ _ _ _ _ _ _ _ (HX.out _ ((show Below w.heap.size w w4 from (by repeat (first | exact Below.refl _ _ | assumption | refine below_step ?_ (by assumption) | refine below_step ?_ (Joins.below_draws _ _ _) | (refine Below.alloc ?_ (by first | omega | (simp; done) | (simp; omega)) _) | (refine Below.setCell ?_ (by first | omega | (simp; done) | (simp; omega)) _) | refine Below.drew ?_))).trans (hb.mono (by omega)))) (HF4.out.below byteF_firm hb) (by omega)
  have hdl : n + M = D.length := by rw [← HD.out, ← MM.out, NN.out, XL.out]; simp; omega
  have DL := Lib.hid hdl
  clear hdl
  go_wp2_with fail
  go_region_with (go_at_call 31; refine (HJ.out _ (by repeat (first | exact Below.refl _ _ | assumption | refine below_step ?_ (by assumption) | refine below_step ?_ (Joins.below_draws _ _ _) | (refine Below.alloc ?_ (by first | omega | (simp; done) | (simp; omega)) _) | (refine Below.setCell ?_ (by first | omega | (simp; done) | (simp; omega)) _) | refine Below.drew ?_))).mono ?_; rintro e w5 ⟨ao5, cap5, rfl, hb5, hS5⟩; obtain ⟨hc_w5, hf_w5⟩ := bcell hb5; have hs_w5 := hb5.size; (try simp only [World.size_alloc, World.size_drew, World.size_setCell] at hs_w5); (try simp only [World.size_drew, World.cell?_drew, World.frozen?_drew] at hc_w5 hf_w5); (try have z0w5 : w.heap.size < w5.heap.size := (by omega)); (try have z2w5 : w.heap.size + 1 + 1 < w5.heap.size := (by omega)))
  all_goals
    have k0 : (w5.cell? ⟨w.heap.size + 1 + 1, 0, none⟩).isSome = true := by simp [go_sem, hc_w5, hc_w4, hc_w3, hc_w2, hc_w1, z2_w1, z2w2, z2w3, z2w4]
    have k1 : (w5.cell? ⟨w.heap.size + 1 + 1, 1, none⟩).isSome = true := by simp [go_sem, hc_w5, hc_w4, hc_w3, hc_w2, hc_w1, z2_w1, z2w2, z2w3, z2w4]
    go_wp2
    refine bodyPost_ret (v := .tuple #[.agg #[.slice ao5 (n + M) cap5, .int .i64 s], .int .i64 0]) (by simp [results, Try.results15, go_sem, k0, k1, World.cell?_setCell_other]) rfl ?_
    have hb4' : Below w3.heap.size w3 w4 := (Joins.below_alloc1 w3 _).trans (hb4.mono (by simp))
    rw [DL.out] at hS5 ⊢
    exact ⟨ao5, cap5, rfl, (by repeat (first | exact Below.refl _ _ | assumption | refine below_step ?_ (by assumption) | refine below_step ?_ (Joins.below_draws _ _ _) | (refine Below.alloc ?_ (by first | omega | (simp; done) | (simp; omega)) _) | (refine Below.setCell ?_ (by first | omega | (simp; done) | (simp; omega)) _) | refine Below.drew ?_)), hS5.same byteF_firm (by refine Same.into ?_ (fun b h _ => (by (first | exact h | exact trivial | (revert h; show _ ≤ b → _ ≤ b; intro h; (try simp only [World.size_alloc, World.size_setCell, World.size_drew] at *); omega)))); repeat (first | exact Same.refl | exact Same.below (by assumption) | (refine Same.trans ?_ (Same.setCell _ (by show ¬ (_ ≤ _); (try simp only [World.size_alloc, World.size_setCell, World.size_drew] at *); omega))) | refine Same.trans ?_ Same.drew | refine Same.trans ?_ (Same.alloc _) | refine Same.trans ?_ (Same.below (by assumption))))⟩
end Go.Proofs.Ytciomaeieggbiaa
