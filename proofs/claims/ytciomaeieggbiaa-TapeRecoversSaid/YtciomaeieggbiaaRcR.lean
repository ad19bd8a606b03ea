/-
  The walk of tape.Recover.
-/
import Derived.Test.YtciomaeieggbiaaRcD
namespace Go.Proofs.Ytciomaeieggbiaa
open Go.RowKit
set_option linter.unusedVariables false
set_option linter.unusedSimpArgs false

def RecPost (code sy : Int) (D : List UInt8) (L : List (Ac × List Val)) (w : World) (x : Ending) (w' : World) : Prop :=
  ∃ ra rc ao cap, x = .returned (.tuple #[.slice ra L.length rc, .agg #[.slice ao D.length cap, .int .i64 sy], .int .i64 code]) ∧ Below w.heap.size w w' ∧ SlF (from_ w.heap.size) w' 10 actF ra L.length rc L ∧ SlF (from_ w.heap.size) w' 1 byteF ao D.length cap D
theorem info_act : (Try.prog.info? 41).map (fun i => (i.zero, i.size, i.bytes)) = some (some (.agg #[.int .i64 0, .int .i64 0, .string ByteArray.empty, .int .i64 0, .int .i64 0, .slice none 0 0, .int .i64 0, .bool false, .int .i64 0, .string ByteArray.empty]), 10, 112) := by kernel_rfl
theorem size_act : SizeIs Try.prog 41 10 := fun w => by kernel_rfl
theorem run_full {P : Program} {t e : TypeId} {k : Nat} (ht : P.underlying t = some (.slice e)) (hs : SizeIs P e k) (ao : Option Addr) (n cap hi : Nat) (hhi : hi ≤ cap) (wx : World) :
    (Instr.sliceAt t (.slice ao n cap) none (some (.int .i64 hi)) (some (.int .i64 hi))).run P wx = .ok (.slice ao hi hi) wx := by
  have hsw := hs wx
  have h1 : (hi : Int) ≤ cap := by omega
  simp [Instr.sliceAt, Instr.slice, run_underlying ht, Instr.sliceBounds, run_sliceBound, hsw, h1]
  intro _
  cases ao <;> simp [Addr.add]

set_option maxHeartbeats 2000000 in
set_option maxRecDepth 100000 in
theorem recover_bad (ao : Option Addr) (n cap : Nat) (s : Int) (w : World) (h : mayB n s = false) :
    Calls Try.prog 17 #[.agg #[.slice ao n cap, .int .i64 s]] w (RecPost 9 0 [] [] w) := by
  have H : Hid (∀ wx, Calls Try.prog 36 #[.agg #[.slice ao n cap, .int .i64 s]] wx fun e w' => e = .returned (.tuple #[.agg #[.slice none 0 0, .int .i64 0], .bool false]) ∧ Below wx.heap.size wx w') := fun wx => open_bad ao n cap s wx h
  clear h
  go_enter Try.func17, Try.ntmps17
  go_wp2_with fail
  refine (H.out _).mono ?_
  rintro e w1 ⟨rfl, hb1⟩
  obtain ⟨hc_w1, hf_w1⟩ := bcell hb1; have hs_w1 := hb1.size; (try simp only [World.size_alloc, World.size_drew, World.size_setCell] at hs_w1); (try simp only [World.size_drew, World.cell?_drew, World.frozen?_drew] at hc_w1 hf_w1); have z0_w1 : w.heap.size < w1.heap.size := (by omega); have z1_w1 : w.heap.size + 1 < w1.heap.size := (by omega)
  go_wp2
  refine bodyPost_ret (v := .tuple #[.slice none 0 0, .agg #[.slice none 0 0, .int .i64 0], .int .i64 9]) (by simp [results, Try.results17, go_sem, hc_w1, z0_w1, z1_w1, World.cell?_setCell_other]) rfl ?_
  exact ⟨none, 0, none, 0, rfl, (by repeat (first | exact Below.refl _ _ | assumption | refine below_step ?_ (by assumption) | refine below_step ?_ (Joins.below_draws _ _ _) | (refine Below.alloc ?_ (by first | omega | (simp; done) | (simp; omega)) _) | (refine Below.setCell ?_ (by first | omega | (simp; done) | (simp; omega)) _) | refine Below.drew ?_)), SlF.nil, SlF.nil⟩

theorem decA_len (l : List UInt8) (h : l.length ≤ 1000000) : (decA l).1.op.type.size ≤ maxLen ∧ (decA l).1.source.size ≤ maxLen := by
  unfold decA
  split
  · exact ⟨empty_len, by show (l.drop 1).toArray.size ≤ maxLen; unfold maxLen; simp; omega⟩
  · exact ⟨dec_type_len, empty_len⟩
theorem recF_end {k : Nat} {xs : List UInt8} {p : Nat} (h : ¬ (p + 2 ≤ xs.length ∧ p + 2 + (256 * (xs.getD p 0).toNat + (xs.getD (p + 1) 0).toNat) ≤ xs.length ∧ decK ((xs.drop (p + 2)).take (256 * (xs.getD p 0).toNat + (xs.getD (p + 1) 0).toNat)) = true)) : recF k xs p = ([], p) := by
  cases k with
  | zero => rfl
  | succ k => unfold recF; rw [if_neg h]
theorem recF_step {k : Nat} {xs : List UInt8} {p N : Nat} (hN : N = 256 * (xs.getD p 0).toNat + (xs.getD (p + 1) 0).toNat) (h1 : p + 2 + N ≤ xs.length) (h2 : decK ((xs.drop (p + 2)).take N) = true) :
    recF (k + 1) xs p = (decA ((xs.drop (p + 2)).take N) :: (recF k xs (p + 2 + N)).1, (recF k xs (p + 2 + N)).2) := by
  subst hN
  conv => lhs; unfold recF
  rw [if_pos ⟨by omega, h1, h2⟩]
theorem join_bytes (a b : Nat) (ha : a < 256) (hb : b < 256) : bits .or .i64 ((a : Int) * 256) (b : Int) = ((256 * a + b : Nat) : Int) := by
  rw [bits_join .i64 62 (by decide) (fun n h0 h1 => IntWalk.i64_in n (by omega)) 8 ((a : Int) * 256) (b : Int) (by omega) (by omega) (by omega) (by omega) (by omega) (by omega)]
  omega
set_option maxHeartbeats 4000000 in
set_option maxRecDepth 100000 in
theorem recover_good (F : Nat → Prop) (ao : Option Addr) (n cap : Nat) (s : Int) (xs : List UInt8) (w : World) (h : mayB n s = true) (hX : SlF F w 1 byteF ao n cap xs) :
    Calls Try.prog 17 #[.agg #[.slice ao n cap, .int .i64 s]] w (RecPost 0 (min s (recF n xs 0).2) (xs.take (recF n xs 0).2) (recF n xs 0).1 w) := by
  have H : Hid (∀ wx, Below w.heap.size w wx → Calls Try.prog 36 #[.agg #[.slice ao n cap, .int .i64 s]] wx fun e w' => ∃ ao' cap', e = .returned (.tuple #[.agg #[.slice ao' n cap', .int .i64 s], .bool true]) ∧ Below wx.heap.size wx w' ∧ SlF (from_ wx.heap.size) w' 1 byteF ao' n cap' xs) := fun wx hb => open_good F ao n cap s xs wx h (hX.below byteF_firm hb)
  have NL : Hid (n = xs.length) := hX.len
  obtain ⟨hn2, hs0, hsn⟩ := mayB_true h
  obtain ⟨i0, hi, hz0, hz1, hz2⟩ := info_parts info_act
  clear h hX
  generalize hV : recF n xs 0 = V
  have HV := Lib.hid hV
  clear hV
  go_enter Try.func17, Try.ntmps17
  go_wp2_with fail
  refine (H.out _ (by repeat (first | exact Below.refl _ _ | assumption | refine below_step ?_ (by assumption) | refine below_step ?_ (Joins.below_draws _ _ _) | (refine Below.alloc ?_ (by first | omega | (simp; done) | (simp; omega)) _) | (refine Below.setCell ?_ (by first | omega | (simp; done) | (simp; omega)) _) | refine Below.drew ?_))).mono ?_
  rintro e w1 ⟨ao1, cap1, rfl, hb1, hS1⟩
  have hs1 := hb1.size
  simp only [World.size_alloc] at hs1 hS1
  have hr1 : w1.heap[w.heap.size + 1]? = some (.cells #[.slice none 0 0, .int .i64 0] 39 (0, 0)) := (hb1.block _ (by simp)).trans (by have := heap_alloc_new (w.alloc (.cells #[.slice ao n cap, .int .i64 s] 39)) (.cells #[.slice none 0 0, .int .i64 0] 39); rwa [World.size_alloc] at this)
  have hr1' : (w1.alloc (.cells #[.slice ao1 n cap1, .int .i64 s] 39)).heap[w.heap.size + 1]? = some (.cells #[.slice none 0 0, .int .i64 0] 39 (0, 0)) := (Below.heap_alloc _ _ _ (by omega)).trans hr1
  have HR1 := Lib.hid hr1'
  have HB0 : Hid (Below w.heap.size w (w1.alloc (.cells #[.slice ao1 n cap1, .int .i64 s] 39))) := ((((Below.refl _ w).alloc (Nat.le_refl _) _).alloc (by simp) _).trans (hb1.mono (by simp; omega))).alloc (by omega) _
  have HS1 := Lib.hid hS1
  clear hr1 hr1' hS1 hb1
  go_upto_region 6 with fail
  go_loopw [7, 8, 9, 10, 11] (fun o p u1 u2 u3 wr => ∃ (acc : List (Ac × List Val)) (q k : Nat), p = .int .i64 q ∧ q ≤ n ∧ n ≤ q + k ∧ 2 * acc.length ≤ q ∧ Below (w1.heap.size + 1) (w1.alloc (.cells #[.slice ao1 n cap1, .int .i64 s] 39)) wr ∧ OwnF (from_ (w1.heap.size + 1)) (w1.heap.size + 1) wr 41 10 actF o acc ∧ Hid (acc ++ (recF k xs q).1 = V.1) ∧ Hid ((recF k xs q).2 = V.2)) (fun _ p _ _ _ _ => n - (intOf p).toNat)
  case atStart => exact ⟨[], 0, n, rfl, Nat.zero_le _, by omega, by simp, Below.refl _ _, OwnF.empty, by show _ = _; rw [HV.out]; rfl, by show _ = _; rw [HV.out]⟩
  case round =>
    obtain ⟨acc, q, k, rfl, hqn, hnk, hac, hbr, hO, XX, YY⟩ := hrel
    obtain ⟨ra, rc, rfl⟩ := hO.slice
    have hsr := hbr.size
    simp only [World.size_alloc] at hsr
    have hxr : wr.heap[w1.heap.size]? = some (.cells #[.slice ao1 n cap1, .int .i64 s] 39) := (hbr.block _ (by omega)).trans (heap_alloc_new w1 (.cells #[.slice ao1 n cap1, .int .i64 s] 39))
    obtain ⟨c0, c1, cf⟩ := two_of_heap hxr
    have lx : w1.heap.size < wr.heap.size := by omega
    have HBR := Lib.hid hbr
    have HO := Lib.hid hO
    clear hxr hO hbr
    by_cases h2 : q + 2 ≤ n
    · have h2' : (q : Int) + 2 ≤ n := by omega
      have hSr := (HS1.out.below byteF_firm (Joins.below_alloc1 w1 (.cells #[.slice ao1 n cap1, .int .i64 s] 39))).below byteF_firm (HBR.out.mono (by simp))
      have hq1 : q < xs.length := by have := NL.out; omega
      have hq2 : q + 1 < xs.length := by have := NL.out; omega
      obtain ⟨ga, oa, ra1, hixa, hFa, hla, hra, hrra⟩ := hSr.index (P := Try.prog) Try.underlying34 size_byte (i := q) hq1
      obtain ⟨gb, ob, rb1, hixb, hFb, hlb, hrb, hrrb⟩ := hSr.index (P := Try.prog) Try.underlying34 size_byte (i := q + 1) hq2
      have ha3 : ra1 = [.int .u8 (xs[q]).toNat] := hrra
      have hb3 : rb1 = [.int .u8 (xs[q + 1]).toNat] := hrrb
      subst ha3 hb3
      have da := hra.one
      have db := hrb.one
      simp only [Nat.mul_one] at hixa hixb da db
      have eq1 : ((q + 1 : Nat) : Int) = (q : Int) + 1 := by omega
      rw [eq1] at hixb
      have eg1 : xs.getD q 0 = xs[q] := by simp [List.getD, List.getElem?_eq_getElem hq1]
      have eg2 : xs.getD (q + 1) 0 = xs[q + 1] := by simp [List.getD, List.getElem?_eq_getElem hq2]
      obtain ⟨N, hN⟩ : ∃ N, N = 256 * (xs.getD q 0).toNat + (xs.getD (q + 1) 0).toNat := ⟨_, rfl⟩
      have NN := Lib.hid hN
      rw [eg1, eg2] at hN
      have hor := join_bytes (xs[q]).toNat (xs[q + 1]).toNat (xs[q]).toNat_lt (xs[q + 1]).toNat_lt
      rw [← hN] at hor
      have hca := (xs[q]).toNat_lt
      have hcb := (xs[q + 1]).toNat_lt
      have hN2 : N < 65536 := by omega
      have HSR := Lib.hid hSr
      clear eg1 eg2 hN hrra hrrb hra hrb
      generalize xs[q] = ca at *
      generalize xs[q + 1] = cb at *
      have hca' : (ca.toNat : Int) < 256 := by omega
      have hcb' : (cb.toNat : Int) < 256 := by omega
      clear eq1 hSr hq1 hq2 hFa hFb
      by_cases h3 : q + 2 + N ≤ n
      · have h3' : ¬ (n : Int) < (q : Int) + 2 + N := by omega
        have hbq : ∀ m, Below wr.heap.size wr (wr.drewN m) := fun m => Joins.below_draws _ _ _
        have hcut := fun wx => run_cut (P := Try.prog) Try.underlying34 size_byte ao1 n cap1 (q + 2) (q + 2 + N) (by omega) h3 (by have := HSR.out.le; omega) wx
        have hSc := cut_slice (lo := q + 2) (hi := q + 2 + N) HSR.out (by omega) h3
        have e0 : q + 2 + N - (q + 2) = N := by omega
        rw [e0] at hSc
        have e1 : ((q + 2 : Nat) : Int) = (q : Int) + 2 := by omega
        have e2 : ((q + 2 + N : Nat) : Int) = (q : Int) + 2 + N := by omega
        simp only [e0, e1, e2] at hcut
        have DL := decA_len ((xs.drop (q + 2)).take N) (by simp; omega)
        have KE : Hid (decK ((xs.drop (q + 2)).take N) = decK ((xs.drop (q + 2)).take N)) := rfl
        have HD := fun m => Lib.hid (decodeAct_any _ _ _ _ _ (wr.drewN m) (hSc.below byteF_firm (hbq m)))
        generalize hX1 : (if cap1 = q + 2 then ao1 else ao1.map (·.add ((q + 2) * 1))) = X at hcut HD
        unfold ActPost at HD
        have XS : Hid (∀ j, k = j + 1 → decK ((xs.drop (q + 2)).take N) = true → recF k xs q = (decA ((xs.drop (q + 2)).take N) :: (recF j xs (q + 2 + N)).1, (recF j xs (q + 2 + N)).2)) := fun j hj hd => by subst hj; exact recF_step NN.out (by have := NL.out; omega) hd
        have XE : Hid (decK ((xs.drop (q + 2)).take N) = false → recF k xs q = ([], q)) := fun hd => recF_end (fun h => by rw [← NN.out] at h; rw [hd] at h; exact absurd h.2.2 (by decide))
        clear hX1 KE hSc e0 e1 e2 hbq
        generalize decA ((xs.drop (q + 2)).take N) = y at HD DL XS
        generalize decK ((xs.drop (q + 2)).take N) = ok at HD XS XE
        obtain ⟨⟨ak, ⟨ok', ot, o1, o2, od, oc⟩, pk, src⟩, vs⟩ := y
        unfold Ac.val at HD
        simp only at HD DL
        have DL := Lib.hid DL
        cases ok with
        | false =>
          have E0 : Hid (recF k xs q = ([], q)) := XE.out rfl
          clear XS XE
          go_wp2_with fail
          go_quiet (fail)
          go_wp2_with fail
          refine (HD _).out.mono ?_
          rintro e w2 ⟨ao2, cap2, rfl, hb2, hS2'⟩
          have hb2' : Below wr.heap.size wr w2 := (Joins.below_draws _ _ _).trans (hb2.mono (by simp))
          clear hb2 hS2' HD
          go_upto_region 13 with fail
          have hs2 := hb2'.size
          have hb3 : Below wr.heap.size wr (w2.alloc (.cells #[.int .i64 ak, .int .i64 ok', .string ot, .int .i64 o1, .int .i64 o2, .slice ao2 vs.length cap2, .int .i64 od, .bool oc, .int .i64 pk, .string src] 41)) := hb2'.alloc (by omega) _
          clear c0 c1 cf da db hixa hixb hcut
          have E1 : Hid (acc = V.1) := by show _ = _; rw [← XX.out, E0.out]; simp
          have E2 : Hid (q = V.2) := by show _ = _; rw [← YY.out, E0.out]
          have hcut := fun wx => run_full (P := Try.prog) Try.underlying34 size_byte ao1 n cap1 q (by have := HS1.out.le; omega) wx
          have HBX : Below (w1.heap.size + 1) (w1.alloc (.cells #[.slice ao1 n cap1, .int .i64 s] 39)) (w2.alloc (.cells #[.int .i64 ak, .int .i64 ok', .string ot, .int .i64 o1, .int .i64 o2, .slice ao2 vs.length cap2, .int .i64 od, .bool oc, .int .i64 pk, .string src] 41)) := HBR.out.trans (hb3.mono (by omega))
          have hsx : w1.heap.size + 1 ≤ (w2.alloc (.cells #[.int .i64 ak, .int .i64 ok', .string ot, .int .i64 o1, .int .i64 o2, .slice ao2 vs.length cap2, .int .i64 od, .bool oc, .int .i64 pk, .string src] 41)).heap.size := Nat.le_trans (by simp) HBX.size
          have hx2 : (w2.alloc (.cells #[.int .i64 ak, .int .i64 ok', .string ot, .int .i64 o1, .int .i64 o2, .slice ao2 vs.length cap2, .int .i64 od, .bool oc, .int .i64 pk, .string src] 41)).heap[w1.heap.size]? = some (.cells #[.slice ao1 n cap1, .int .i64 s] 39) := (HBX.block _ (by omega)).trans (heap_alloc_new w1 (.cells #[.slice ao1 n cap1, .int .i64 s] 39))
          have hr2 : (w2.alloc (.cells #[.int .i64 ak, .int .i64 ok', .string ot, .int .i64 o1, .int .i64 o2, .slice ao2 vs.length cap2, .int .i64 od, .bool oc, .int .i64 pk, .string src] 41)).heap[w.heap.size + 1]? = _ := (HBX.block _ (by omega)).trans HR1.out
          obtain ⟨a2, c2, e2, hS2⟩ := OwnF.done (HO.out.below actF_firm hb3) actF_firm (G := from_ (w1.heap.size + 1)) (by omega) (fun b _ h => h.elim id id)
          injection e2 with e3 _ e4
          subst e3 e4
          have hS3 := (((HS1.out.below byteF_firm (Joins.below_alloc1 w1 (.cells #[.slice ao1 n cap1, .int .i64 s] 39))).below byteF_firm (HBX.mono (by simp))).take q q hqn (Nat.le_refl _) (by have := HS1.out.le; omega))
          have hbw := HB0.out.trans (HBX.mono (by omega))
          generalize hWX : w2.alloc (.cells #[.int .i64 ak, .int .i64 ok', .string ot, .int .i64 o1, .int .i64 o2, .slice ao2 vs.length cap2, .int .i64 od, .bool oc, .int .i64 pk, .string src] 41) = WX at *
          obtain ⟨x0, x1, xf⟩ := two_of_heap hx2
          obtain ⟨r0, r1, rf⟩ := two_of_heap hr2
          have HSA := Lib.hid hS2
          have HSX := Lib.hid hS3
          have HBW := Lib.hid hbw
          have hlw : w.heap.size + 1 < WX.heap.size := by omega
          have hlx : w1.heap.size < WX.heap.size := by omega
          clear hx2 hr2 hS2 hS3 hbw HBX hsx
          rcases (show s ≤ (q : Int) ∨ (q : Int) < s by omega) with hsq | hsq
          · go_wp2_with fail
            go_region
            go_wp2
            have k0 : (WX.cell? ⟨w.heap.size + 1, 0, none⟩).isSome = true := by simp [r0]
            have k1 : (WX.cell? ⟨w.heap.size + 1, 1, none⟩).isSome = true := by simp [r1]
            refine bodyPost_ret (v := .tuple #[.slice ra acc.length rc, .agg #[.slice ao1 q q, .int .i64 s], .int .i64 0]) (by simp [results, Try.results17, go_sem, k0, k1, World.cell?_setCell_other]) rfl ?_
            unfold RecPost
            have hl : (xs.take q).length = q := by have := NL.out; simp; omega
            rw [← E1.out, ← E2.out, show min s (q : Int) = s by omega, hl]
            exact ⟨ra, rc, ao1, q, rfl, ((HBW.out.setCell (p := ⟨w.heap.size + 1, 0, none⟩) (by show w.heap.size ≤ w.heap.size + 1; omega) _).setCell (p := ⟨w.heap.size + 1, 1, none⟩) (by show w.heap.size ≤ w.heap.size + 1; omega) _).drew,
              (((HSA.out.setLow actF_firm (p := ⟨w.heap.size + 1, 0, none⟩) (by show w.heap.size + 1 < _; omega) _).setLow actF_firm (p := ⟨w.heap.size + 1, 1, none⟩) (by show w.heap.size + 1 < _; omega) _).same actF_firm Same.drew).above actF_firm (by omega),
              (((HSX.out.setLow byteF_firm (p := ⟨w.heap.size + 1, 0, none⟩) (by show w.heap.size + 1 < _; omega) _).setLow byteF_firm (p := ⟨w.heap.size + 1, 1, none⟩) (by show w.heap.size + 1 < _; omega) _).same byteF_firm Same.drew).above byteF_firm (by omega)⟩
          · go_wp2_with fail
            go_region
            go_wp2
            have k0 : (WX.cell? ⟨w.heap.size + 1, 0, none⟩).isSome = true := by simp [r0]
            have k1 : (WX.cell? ⟨w.heap.size + 1, 1, none⟩).isSome = true := by simp [r1]
            refine bodyPost_ret (v := .tuple #[.slice ra acc.length rc, .agg #[.slice ao1 q q, .int .i64 q], .int .i64 0]) (by simp [results, Try.results17, go_sem, k0, k1, World.cell?_setCell_other]) rfl ?_
            unfold RecPost
            have hl : (xs.take q).length = q := by have := NL.out; simp; omega
            rw [← E1.out, ← E2.out, show min s (q : Int) = q by omega, hl]
            exact ⟨ra, rc, ao1, q, rfl, ((HBW.out.setCell (p := ⟨w.heap.size + 1, 0, none⟩) (by show w.heap.size ≤ w.heap.size + 1; omega) _).setCell (p := ⟨w.heap.size + 1, 1, none⟩) (by show w.heap.size ≤ w.heap.size + 1; omega) _).drew,
              (((HSA.out.setLow actF_firm (p := ⟨w.heap.size + 1, 0, none⟩) (by show w.heap.size + 1 < _; omega) _).setLow actF_firm (p := ⟨w.heap.size + 1, 1, none⟩) (by show w.heap.size + 1 < _; omega) _).same actF_firm Same.drew).above actF_firm (by omega),
              (((HSX.out.setLow byteF_firm (p := ⟨w.heap.size + 1, 0, none⟩) (by show w.heap.size + 1 < _; omega) _).setLow byteF_firm (p := ⟨w.heap.size + 1, 1, none⟩) (by show w.heap.size + 1 < _; omega) _).same byteF_firm Same.drew).above byteF_firm (by omega)⟩
        | true =>
          obtain ⟨j, hj⟩ : ∃ j, k = j + 1 := ⟨k - 1, by omega⟩
          have X0 := XS.out j hj rfl
          have XX2 : Hid ((acc ++ [(⟨ak, ⟨ok', ot, o1, o2, od, oc⟩, pk, src⟩, vs)]) ++ (recF j xs (q + 2 + N)).1 = V.1) := by show _ = _; rw [← XX.out, X0]; simp
          have YY2 : Hid ((recF j xs (q + 2 + N)).2 = V.2) := by show _ = _; rw [← YY.out, X0]
          clear XX YY X0 XS XE
          go_wp2_with fail
          go_quiet (fail)
          rename_i nq
          go_wp2_with fail
          refine (HD _).out.mono ?_
          rintro e w2 ⟨ao2, cap2, rfl, hb2, hS2'⟩
          have hb2' : Below wr.heap.size wr w2 := (Joins.below_draws _ _ _).trans (hb2.mono (by simp))
          have hS2'' : SlF (from_ wr.heap.size) w2 3 valF ao2 vs.length cap2 vs := hS2'.wide valF_firm (fun b hb _ => Nat.le_trans (Joins.below_draws wr.heap.size wr _).size hb)
          have HS2 := Lib.hid hS2''
          have HB2 := Lib.hid hb2'
          have hs2 := hb2'.size
          clear hb2 hS2' HD hb2' hS2''
          have hBA : Below wr.heap.size wr ((w2.alloc (.cells #[.int .i64 ak, .int .i64 ok', .string ot, .int .i64 o1, .int .i64 o2, .slice ao2 vs.length cap2, .int .i64 od, .bool oc, .int .i64 pk, .string src] 41)).alloc (.cells #[.int .i64 ak, .int .i64 ok', .string ot, .int .i64 o1, .int .i64 o2, .slice ao2 vs.length cap2, .int .i64 od, .bool oc, .int .i64 pk, .string src] 41)) := ((HB2.out.alloc (by omega) _).alloc (by simp; omega) _)
          have HOA := Lib.hid (HO.out.below actF_firm hBA)
          have HBA := Lib.hid hBA
          have HSA := Lib.hid ((HS2.out.below valF_firm (Joins.below_alloc2 w2 (.cells #[.int .i64 ak, .int .i64 ok', .string ot, .int .i64 o1, .int .i64 o2, .slice ao2 vs.length cap2, .int .i64 od, .bool oc, .int .i64 pk, .string src] 41) (.cells #[.int .i64 ak, .int .i64 ok', .string ot, .int .i64 o1, .int .i64 o2, .slice ao2 vs.length cap2, .int .i64 od, .bool oc, .int .i64 pk, .string src] 41))).wide (G := off_ (from_ (w1.heap.size + 1)) (.slice ra acc.length rc)) valF_firm (fun b hb _ => ⟨Nat.le_trans (by omega) hb, HO.out.lt hb⟩))
          have CN : Hid (∀ q y, (Ac.cells ⟨ak, ⟨ok', ot, o1, o2, od, oc⟩, pk, src⟩ (.slice ao2 vs.length cap2))[q]? = some y → World.cell? ((w2.alloc (.cells #[.int .i64 ak, .int .i64 ok', .string ot, .int .i64 o1, .int .i64 o2, .slice ao2 vs.length cap2, .int .i64 od, .bool oc, .int .i64 pk, .string src] 41)).alloc (.cells #[.int .i64 ak, .int .i64 ok', .string ot, .int .i64 o1, .int .i64 o2, .slice ao2 vs.length cap2, .int .i64 od, .bool oc, .int .i64 pk, .string src] 41)) ((⟨w2.heap.size + 1, 0, none⟩ : Addr).add q) = some y) := by
            show ∀ q y, _
            intro q y hu
            have hh := heap_alloc_new (w2.alloc (.cells #[.int .i64 ak, .int .i64 ok', .string ot, .int .i64 o1, .int .i64 o2, .slice ao2 vs.length cap2, .int .i64 od, .bool oc, .int .i64 pk, .string src] 41)) (.cells #[.int .i64 ak, .int .i64 ok', .string ot, .int .i64 o1, .int .i64 o2, .slice ao2 vs.length cap2, .int .i64 od, .bool oc, .int .i64 pk, .string src] 41)
            rw [World.size_alloc] at hh
            rw [Go.WideShapes.add_plain, Nat.zero_add, Lib.cell_of_heap hh]
            simpa [Ac.cells] using hu
          have hacl : (acc.length + 1) * 112 ≤ 140737488355328 := by omega
          clear hBA
          go_wp2_with (first
            | (at_builtin; go_loud (refine wpList_append_F rfl _ _ 47 rfl (w1.heap.size + 1) 41 i0 (.agg #[.int .i64 0, .int .i64 0, .string ByteArray.empty, .int .i64 0, .int .i64 0, .slice none 0 0, .int .i64 0, .bool false, .int .i64 0, .string ByteArray.empty]) 10 112 Try.underlying47 hi hz0 hz1 hz2 rfl (by decide) _ acc.length rfl HOA.out rfl actF_firm (⟨ak, ⟨ok', ot, o1, o2, od, oc⟩, pk, src⟩, vs) (Ac.cells ⟨ak, ⟨ok', ot, o1, o2, od, oc⟩, pk, src⟩ (.slice ao2 vs.length cap2)) ⟨w2.heap.size + 1, 0, none⟩ rfl rfl CN.out (fun u hu => by simp [Ac.cells] at hu; rcases hu with rfl | rfl | rfl | rfl | rfl | rfl | rfl | rfl | rfl | rfl <;> rfl) ⟨ao2, cap2, rfl, HSA.out, DL.out.1, DL.out.2⟩ hacl (by decide) (by simp; omega) ?_; intro ra2 rc2 w5 hown' hgrow hb5))
            | fail)
          exact ⟨⟨acc ++ [(⟨ak, ⟨ok', ot, o1, o2, od, oc⟩, pk, src⟩, vs)], q + 2 + N, j, by go_num, h3, by omega, by simp; omega, HBR.out.trans ((HBA.out.mono (by omega)).trans hb5), by simpa using hown', XX2, YY2⟩, by simp [intOf]; omega⟩
      · have E0 : Hid (recF k xs q = ([], q)) := recF_end (fun h => by have := NL.out; rw [← NN.out] at h; omega)
        have h3' : (n : Int) < (q : Int) + 2 + N := by omega
        go_wp2_with fail
        go_quiet (fail)
        go_upto_region 13 with fail
        clear c0 c1 cf da db hixa hixb
        have E1 : Hid (acc = V.1) := by show _ = _; rw [← XX.out, E0.out]; simp
        have E2 : Hid (q = V.2) := by show _ = _; rw [← YY.out, E0.out]
        have hcut := fun wx => run_full (P := Try.prog) Try.underlying34 size_byte ao1 n cap1 q (by have := HS1.out.le; omega) wx
        have HBX : Below (w1.heap.size + 1) (w1.alloc (.cells #[.slice ao1 n cap1, .int .i64 s] 39)) (wr.drewN nq) := HBR.out.trans ((Joins.below_draws wr.heap.size wr nq).mono (by omega))
        have hsx : w1.heap.size + 1 ≤ (wr.drewN nq).heap.size := Nat.le_trans (by simp) HBX.size
        have hx2 : (wr.drewN nq).heap[w1.heap.size]? = some (.cells #[.slice ao1 n cap1, .int .i64 s] 39) := (HBX.block _ (by omega)).trans (heap_alloc_new w1 (.cells #[.slice ao1 n cap1, .int .i64 s] 39))
        have hr2 : (wr.drewN nq).heap[w.heap.size + 1]? = _ := (HBX.block _ (by omega)).trans HR1.out
        obtain ⟨a2, c2, e2, hS2⟩ := OwnF.done (HO.out.below actF_firm (Joins.below_draws wr.heap.size wr nq)) actF_firm (G := from_ (w1.heap.size + 1)) (by omega) (fun b _ h => h.elim id id)
        injection e2 with e3 _ e4
        subst e3 e4
        have hS3 := (((HS1.out.below byteF_firm (Joins.below_alloc1 w1 (.cells #[.slice ao1 n cap1, .int .i64 s] 39))).below byteF_firm (HBX.mono (by simp))).take q q hqn (Nat.le_refl _) (by have := HS1.out.le; omega))
        have hbw := HB0.out.trans (HBX.mono (by omega))
        generalize hWX : wr.drewN nq = WX at *
        obtain ⟨x0, x1, xf⟩ := two_of_heap hx2
        obtain ⟨r0, r1, rf⟩ := two_of_heap hr2
        have HSA := Lib.hid hS2
        have HSX := Lib.hid hS3
        have HBW := Lib.hid hbw
        have hlw : w.heap.size + 1 < WX.heap.size := by omega
        have hlx : w1.heap.size < WX.heap.size := by omega
        clear hx2 hr2 hS2 hS3 hbw HBX hsx
        rcases (show s ≤ (q : Int) ∨ (q : Int) < s by omega) with hsq | hsq
        · go_wp2_with fail
          go_region
          go_wp2
          have k0 : (WX.cell? ⟨w.heap.size + 1, 0, none⟩).isSome = true := by simp [r0]
          have k1 : (WX.cell? ⟨w.heap.size + 1, 1, none⟩).isSome = true := by simp [r1]
          refine bodyPost_ret (v := .tuple #[.slice ra acc.length rc, .agg #[.slice ao1 q q, .int .i64 s], .int .i64 0]) (by simp [results, Try.results17, go_sem, k0, k1, World.cell?_setCell_other]) rfl ?_
          unfold RecPost
          have hl : (xs.take q).length = q := by have := NL.out; simp; omega
          rw [← E1.out, ← E2.out, show min s (q : Int) = s by omega, hl]
          exact ⟨ra, rc, ao1, q, rfl, ((HBW.out.setCell (p := ⟨w.heap.size + 1, 0, none⟩) (by show w.heap.size ≤ w.heap.size + 1; omega) _).setCell (p := ⟨w.heap.size + 1, 1, none⟩) (by show w.heap.size ≤ w.heap.size + 1; omega) _).drew,
            (((HSA.out.setLow actF_firm (p := ⟨w.heap.size + 1, 0, none⟩) (by show w.heap.size + 1 < _; omega) _).setLow actF_firm (p := ⟨w.heap.size + 1, 1, none⟩) (by show w.heap.size + 1 < _; omega) _).same actF_firm Same.drew).above actF_firm (by omega),
            (((HSX.out.setLow byteF_firm (p := ⟨w.heap.size + 1, 0, none⟩) (by show w.heap.size + 1 < _; omega) _).setLow byteF_firm (p := ⟨w.heap.size + 1, 1, none⟩) (by show w.heap.size + 1 < _; omega) _).same byteF_firm Same.drew).above byteF_firm (by omega)⟩
        · go_wp2_with fail
          go_region
          go_wp2
          have k0 : (WX.cell? ⟨w.heap.size + 1, 0, none⟩).isSome = true := by simp [r0]
          have k1 : (WX.cell? ⟨w.heap.size + 1, 1, none⟩).isSome = true := by simp [r1]
          refine bodyPost_ret (v := .tuple #[.slice ra acc.length rc, .agg #[.slice ao1 q q, .int .i64 q], .int .i64 0]) (by simp [results, Try.results17, go_sem, k0, k1, World.cell?_setCell_other]) rfl ?_
          unfold RecPost
          have hl : (xs.take q).length = q := by have := NL.out; simp; omega
          rw [← E1.out, ← E2.out, show min s (q : Int) = q by omega, hl]
          exact ⟨ra, rc, ao1, q, rfl, ((HBW.out.setCell (p := ⟨w.heap.size + 1, 0, none⟩) (by show w.heap.size ≤ w.heap.size + 1; omega) _).setCell (p := ⟨w.heap.size + 1, 1, none⟩) (by show w.heap.size ≤ w.heap.size + 1; omega) _).drew,
            (((HSA.out.setLow actF_firm (p := ⟨w.heap.size + 1, 0, none⟩) (by show w.heap.size + 1 < _; omega) _).setLow actF_firm (p := ⟨w.heap.size + 1, 1, none⟩) (by show w.heap.size + 1 < _; omega) _).same actF_firm Same.drew).above actF_firm (by omega),
            (((HSX.out.setLow byteF_firm (p := ⟨w.heap.size + 1, 0, none⟩) (by show w.heap.size + 1 < _; omega) _).setLow byteF_firm (p := ⟨w.heap.size + 1, 1, none⟩) (by show w.heap.size + 1 < _; omega) _).same byteF_firm Same.drew).above byteF_firm (by omega)⟩
    · have E0 : Hid (recF k xs q = ([], q)) := recF_end (fun h => by have := NL.out; omega)
      have h2' : ¬ (q : Int) + 2 ≤ n := by omega
      clear c0 c1 cf
      have E1 : Hid (acc = V.1) := by show _ = _; rw [← XX.out, E0.out]; simp
      have E2 : Hid (q = V.2) := by show _ = _; rw [← YY.out, E0.out]
      have hcut := fun wx => run_full (P := Try.prog) Try.underlying34 size_byte ao1 n cap1 q (by have := HS1.out.le; omega) wx
      have HBX : Below (w1.heap.size + 1) (w1.alloc (.cells #[.slice ao1 n cap1, .int .i64 s] 39)) (wr) := HBR.out
      have hsx : w1.heap.size + 1 ≤ (wr).heap.size := Nat.le_trans (by simp) HBX.size
      have hx2 : (wr).heap[w1.heap.size]? = some (.cells #[.slice ao1 n cap1, .int .i64 s] 39) := (HBX.block _ (by omega)).trans (heap_alloc_new w1 (.cells #[.slice ao1 n cap1, .int .i64 s] 39))
      have hr2 : (wr).heap[w.heap.size + 1]? = _ := (HBX.block _ (by omega)).trans HR1.out
      obtain ⟨a2, c2, e2, hS2⟩ := OwnF.done (HO.out) actF_firm (G := from_ (w1.heap.size + 1)) (by omega) (fun b _ h => h.elim id id)
      injection e2 with e3 _ e4
      subst e3 e4
      have hS3 := (((HS1.out.below byteF_firm (Joins.below_alloc1 w1 (.cells #[.slice ao1 n cap1, .int .i64 s] 39))).below byteF_firm (HBX.mono (by simp))).take q q hqn (Nat.le_refl _) (by have := HS1.out.le; omega))
      have hbw := HB0.out.trans (HBX.mono (by omega))
      generalize hWX : wr = WX at *
      obtain ⟨x0, x1, xf⟩ := two_of_heap hx2
      obtain ⟨r0, r1, rf⟩ := two_of_heap hr2
      have HSA := Lib.hid hS2
      have HSX := Lib.hid hS3
      have HBW := Lib.hid hbw
      have hlw : w.heap.size + 1 < WX.heap.size := by omega
      have hlx : w1.heap.size < WX.heap.size := by omega
      clear hx2 hr2 hS2 hS3 hbw HBX hsx
      rcases (show s ≤ (q : Int) ∨ (q : Int) < s by omega) with hsq | hsq
      · go_wp2_with fail
        go_region
        go_wp2
        have k0 : (WX.cell? ⟨w.heap.size + 1, 0, none⟩).isSome = true := by simp [r0]
        have k1 : (WX.cell? ⟨w.heap.size + 1, 1, none⟩).isSome = true := by simp [r1]
        refine bodyPost_ret (v := .tuple #[.slice ra acc.length rc, .agg #[.slice ao1 q q, .int .i64 s], .int .i64 0]) (by simp [results, Try.results17, go_sem, k0, k1, World.cell?_setCell_other]) rfl ?_
        unfold RecPost
        have hl : (xs.take q).length = q := by have := NL.out; simp; omega
        rw [← E1.out, ← E2.out, show min s (q : Int) = s by omega, hl]
        exact ⟨ra, rc, ao1, q, rfl, ((HBW.out.setCell (p := ⟨w.heap.size + 1, 0, none⟩) (by show w.heap.size ≤ w.heap.size + 1; omega) _).setCell (p := ⟨w.heap.size + 1, 1, none⟩) (by show w.heap.size ≤ w.heap.size + 1; omega) _).drew,
          (((HSA.out.setLow actF_firm (p := ⟨w.heap.size + 1, 0, none⟩) (by show w.heap.size + 1 < _; omega) _).setLow actF_firm (p := ⟨w.heap.size + 1, 1, none⟩) (by show w.heap.size + 1 < _; omega) _).same actF_firm Same.drew).above actF_firm (by omega),
          (((HSX.out.setLow byteF_firm (p := ⟨w.heap.size + 1, 0, none⟩) (by show w.heap.size + 1 < _; omega) _).setLow byteF_firm (p := ⟨w.heap.size + 1, 1, none⟩) (by show w.heap.size + 1 < _; omega) _).same byteF_firm Same.drew).above byteF_firm (by omega)⟩
      · go_wp2_with fail
        go_region
        go_wp2
        have k0 : (WX.cell? ⟨w.heap.size + 1, 0, none⟩).isSome = true := by simp [r0]
        have k1 : (WX.cell? ⟨w.heap.size + 1, 1, none⟩).isSome = true := by simp [r1]
        refine bodyPost_ret (v := .tuple #[.slice ra acc.length rc, .agg #[.slice ao1 q q, .int .i64 q], .int .i64 0]) (by simp [results, Try.results17, go_sem, k0, k1, World.cell?_setCell_other]) rfl ?_
        unfold RecPost
        have hl : (xs.take q).length = q := by have := NL.out; simp; omega
        rw [← E1.out, ← E2.out, show min s (q : Int) = q by omega, hl]
        exact ⟨ra, rc, ao1, q, rfl, ((HBW.out.setCell (p := ⟨w.heap.size + 1, 0, none⟩) (by show w.heap.size ≤ w.heap.size + 1; omega) _).setCell (p := ⟨w.heap.size + 1, 1, none⟩) (by show w.heap.size ≤ w.heap.size + 1; omega) _).drew,
          (((HSA.out.setLow actF_firm (p := ⟨w.heap.size + 1, 0, none⟩) (by show w.heap.size + 1 < _; omega) _).setLow actF_firm (p := ⟨w.heap.size + 1, 1, none⟩) (by show w.heap.size + 1 < _; omega) _).same actF_firm Same.drew).above actF_firm (by omega),
          (((HSX.out.setLow byteF_firm (p := ⟨w.heap.size + 1, 0, none⟩) (by show w.heap.size + 1 < _; omega) _).setLow byteF_firm (p := ⟨w.heap.size + 1, 1, none⟩) (by show w.heap.size + 1 < _; omega) _).same byteF_firm Same.drew).above byteF_firm (by omega)⟩
end Go.Proofs.Ytciomaeieggbiaa
