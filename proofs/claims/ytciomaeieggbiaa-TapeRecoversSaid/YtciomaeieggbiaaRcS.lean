/-
  The walk of the reference's TapeRecovered.
-/
import Derived.Test.YtciomaeieggbiaaRcR
namespace Go.Proofs.Ytciomaeieggbiaa
open Go.RowKit
set_option linter.unusedVariables false
set_option linter.unusedSimpArgs false

set_option maxHeartbeats 2000000 in
set_option maxRecDepth 100000 in
theorem recovered_bad (ao : Option Addr) (n cap : Nat) (s : Int) (w : World) (h : mayB n s = false) :
    Calls Try.prog 18 #[.agg #[.slice ao n cap, .int .i64 s]] w (RecPost 9 0 [] [] w) := by
  have H : Hid (∀ wx, Calls Try.prog 40 #[.agg #[.slice ao n cap, .int .i64 s]] wx fun e w' => e = .returned (.bool false) ∧ Below wx.heap.size wx w') := fun wx => by rw [← h]; exact tapeMay_any ao n cap s wx
  clear h
  go_enter Try.func18, Try.ntmps18
  go_wp2_with fail
  refine (H.out _).mono ?_
  rintro e w1 ⟨rfl, hb1⟩
  obtain ⟨hc_w1, hf_w1⟩ := bcell hb1; have hs_w1 := hb1.size; (try simp only [World.size_alloc, World.size_drew, World.size_setCell] at hs_w1); (try simp only [World.size_drew, World.cell?_drew, World.frozen?_drew] at hc_w1 hf_w1); have z0_w1 : w.heap.size < w1.heap.size := (by omega); have z1_w1 : w.heap.size + 1 < w1.heap.size := (by omega)
  go_wp2
  refine bodyPost_ret (v := .tuple #[.slice none 0 0, .agg #[.slice none 0 0, .int .i64 0], .int .i64 9]) (by simp [results, Try.results18, go_sem, hc_w1, z0_w1, z1_w1, World.cell?_setCell_other]) rfl ?_
  exact ⟨none, 0, none, 0, rfl, (by repeat (first | exact Below.refl _ _ | assumption | refine below_step ?_ (by assumption) | refine below_step ?_ (Joins.below_draws _ _ _) | (refine Below.alloc ?_ (by first | omega | (simp; done) | (simp; omega)) _) | (refine Below.setCell ?_ (by first | omega | (simp; done) | (simp; omega)) _) | refine Below.drew ?_)), SlF.nil, SlF.nil⟩

set_option maxHeartbeats 8000000 in
set_option maxRecDepth 100000 in
theorem recovered_good (F : Nat → Prop) (ao : Option Addr) (n cap : Nat) (s : Int) (xs : List UInt8) (w : World) (h : mayB n s = true) (hX : SlF F w 1 byteF ao n cap xs) :
    Calls Try.prog 18 #[.agg #[.slice ao n cap, .int .i64 s]] w (RecPost 0 (min s (recF n xs 0).2) (xs.take (recF n xs 0).2) (recF n xs 0).1 w) := by
  have H : Hid (∀ wx, Calls Try.prog 40 #[.agg #[.slice ao n cap, .int .i64 s]] wx fun e w' => e = .returned (.bool true) ∧ Below wx.heap.size wx w') := fun wx => by rw [← h]; exact tapeMay_any ao n cap s wx
  have NL : Hid (n = xs.length) := hX.len
  obtain ⟨hn2, hs0, hsn⟩ := mayB_true h
  obtain ⟨i0, hi, hz0, hz1, hz2⟩ := info_parts info_act
  have HX0 := Lib.hid hX
  clear h hX
  generalize hV : recF n xs 0 = V
  have HV := Lib.hid hV
  clear hV
  go_enter Try.func18, Try.ntmps18
  go_wp2_with fail
  refine (H.out _).mono ?_
  rintro e w1 ⟨rfl, hb1⟩
  have hs1 := hb1.size
  simp only [World.size_alloc] at hs1
  have HG0 : Hid (w1.heap[w.heap.size]? = some (.cells #[.slice ao n cap, .int .i64 s] 39)) := (hb1.block _ (by simp; omega)).trans ((Below.heap_alloc _ _ _ (by simp)).trans (heap_alloc_new w (.cells #[.slice ao n cap, .int .i64 s] 39)))
  have HG1 : Hid (w1.heap[w.heap.size + 1]? = some (.cells #[.slice none 0 0, .int .i64 0] 39)) := (hb1.block _ (by simp)).trans (by have := heap_alloc_new (w.alloc (.cells #[.slice ao n cap, .int .i64 s] 39)) (.cells #[.slice none 0 0, .int .i64 0] 39); rwa [World.size_alloc] at this)
  have HB0 : Hid (Below w.heap.size w w1) := (((Below.refl _ w).alloc (Nat.le_refl _) _).alloc (by simp) _).trans (hb1.mono (by simp; omega))
  have HX1 := Lib.hid (HX0.out.below byteF_firm HB0.out)
  clear hb1
  have hgs0 : w.heap.size < w1.heap.size := by omega
  have hgs1 : w.heap.size + 1 < w1.heap.size := by omega
  obtain ⟨c0, c1, cf⟩ := two_of_heap HG0.out
  go_upto_region 5 with fail
  clear c0 c1 cf
  go_loopw [5, 6, 7, 8, 9, 10, 11, 12] (fun o p u1 u2 u3 u4 u5 u6 wr => ∃ (acc : List (Ac × List Val)) (q k : Nat), p = .int .i64 q ∧ q ≤ n ∧ n ≤ q + k ∧ 2 * acc.length ≤ q ∧ Below w1.heap.size w1 wr ∧ OwnF (from_ w1.heap.size) w1.heap.size wr 41 10 actF o acc ∧ Hid (acc ++ (recF k xs q).1 = V.1) ∧ Hid ((recF k xs q).2 = V.2)) (fun _ p _ _ _ _ _ _ _ => n - (intOf p).toNat)
  case atStart => exact ⟨[], 0, n, rfl, Nat.zero_le _, by omega, by simp, Below.refl _ _, OwnF.empty, by show _ = _; rw [HV.out]; rfl, by show _ = _; rw [HV.out]⟩
  case round =>
    obtain ⟨acc, q, k, rfl, hqn, hnk, hac, hbr, hO, XX, YY⟩ := hrel
    obtain ⟨ra, rc, rfl⟩ := hO.slice
    have hsr := hbr.size
    have hxr : wr.heap[w.heap.size]? = some (.cells #[.slice ao n cap, .int .i64 s] 39) := (hbr.block _ hgs0).trans HG0.out
    obtain ⟨c0, c1, cf⟩ := two_of_heap hxr
    have lx : w.heap.size < wr.heap.size := by omega
    have HBR := Lib.hid hbr
    have HO := Lib.hid hO
    have HXR := Lib.hid hxr
    clear hxr hO hbr
    by_cases h2 : q + 2 ≤ n
    · have h2' : (q : Int) + 2 ≤ n := by omega
      have hSr := HX1.out.below byteF_firm HBR.out
      have hq1 : q < xs.length := by have := NL.out; omega
      have hq2 : q + 1 < xs.length := by have := NL.out; omega
      obtain ⟨ga, oa, ra1, hixa, hFa, hla, hra, hrra⟩ := hSr.index (P := Try.prog) Try.underlying34 size_byte (i := q) hq1
      obtain ⟨gb, ob, rb1, hixb, hFb, hlb, hrb, hrrb⟩ := hSr.index (P := Try.prog) Try.underlying34 size_byte (i := q + 1) hq2
      have ha3 : ra1 = [.int .u8 (xs[q]).toNat] := hrra
      have hb3 : rb1 = [.int .u8 (xs[q + 1]).toNat] := hrrb
      subst ha3 hb3
      have da := hra.one
      have db := hrb.one
      simp only [Nat.mul_one] at hixa hixb da db
      have eq1 : ((q + 1 : Nat) : Int) = (q : Int) + 1 := by omega
      rw [eq1] at hixb
      have eg1 : xs.getD q 0 = xs[q] := by simp [List.getD, List.getElem?_eq_getElem hq1]
      have eg2 : xs.getD (q + 1) 0 = xs[q + 1] := by simp [List.getD, List.getElem?_eq_getElem hq2]
      obtain ⟨N, hN⟩ : ∃ N, N = 256 * (xs.getD q 0).toNat + (xs.getD (q + 1) 0).toNat := ⟨_, rfl⟩
      have NN := Lib.hid hN
      rw [eg1, eg2] at hN
      have hca := (xs[q]).toNat_lt
      have hcb := (xs[q + 1]).toNat_lt
      have hN2 : N < 65536 := by omega
      have HSR := Lib.hid hSr
      clear eg1 eg2 hrra hrrb hra hrb
      generalize xs[q] = ca at *
      generalize xs[q + 1] = cb at *
      have hca' : (ca.toNat : Int) < 256 := by omega
      have hcb' : (cb.toNat : Int) < 256 := by omega
      have HN := Lib.hid hN
      clear eq1 hSr hq1 hq2 hFa hFb
      by_cases h3 : q + 2 + N ≤ n
      · have h3' : ¬ (n : Int) < (q : Int) + 2 + 256 * ca.toNat + cb.toNat := by omega
        have hcut := fun wx => run_cut (P := Try.prog) Try.underlying34 size_byte ao n cap (q + 2) (q + 2 + N) (by omega) h3 (by have := HSR.out.le; omega) wx
        have hSc := cut_slice (lo := q + 2) (hi := q + 2 + N) HSR.out (by omega) h3
        have e0 : q + 2 + N - (q + 2) = N := by omega
        rw [e0] at hSc
        have e1 : ((q + 2 : Nat) : Int) = (q : Int) + 2 := by omega
        have e2 : ((q + 2 + N : Nat) : Int) = (q : Int) + 2 + 256 * ca.toNat + cb.toNat := by omega
        simp only [e0, e1, e2] at hcut
        have DL0 := decA_len ((xs.drop (q + 2)).take N) (by simp; omega)
        generalize hX1 : (if cap = q + 2 then ao else ao.map (·.add ((q + 2) * 1))) = X at hcut hSc
        have XS0 : Hid (∀ j, k = j + 1 → decK ((xs.drop (q + 2)).take N) = true → recF k xs q = (decA ((xs.drop (q + 2)).take N) :: (recF j xs (q + 2 + N)).1, (recF j xs (q + 2 + N)).2)) := fun j hj hd => by subst hj; exact recF_step NN.out (by have := NL.out; omega) hd
        have XE0 : Hid (decK ((xs.drop (q + 2)).take N) = false → recF k xs q = ([], q)) := fun hd => recF_end (fun h => by rw [← NN.out] at h; rw [hd] at h; exact absurd h.2.2 (by decide))
        clear hX1 e0 e1 e2 hN
        generalize (xs.drop (q + 2)).take N = Bs at hSc DL0 XS0 XE0
        have BL : Hid (N = Bs.length) := hSc.len
        go_wp2_with fail
        go_quiet (fail)
        go_upto_region 9 with fail
        have e3 : (q : Int) + 2 + 256 * ca.toNat + cb.toNat = ((q + 2 + N : Nat) : Int) := by have := HN.out; omega
        rw [e3]
        clear e3 hcut h3' hca hcb hca' hcb' da db hixa hixb
        generalize cap - (q + 2) = CP at hSc ⊢
        have hWb : Below wr.heap.size wr (wr.drewN nq) := Joins.below_draws _ _ _
        have hSq := hSc.below byteF_firm hWb
        have hxq : (wr.drewN nq).heap[w.heap.size]? = some (.cells #[.slice ao n cap, .int .i64 s] 39) := (hWb.block _ lx).trans HXR.out
        generalize wr.drewN nq = wq at *
        have hsq0 := hWb.size
        clear c0 c1 cf
        obtain ⟨c0, c1, cf⟩ := two_of_heap hxq
        have HSq := Lib.hid hSq
        have HWb := Lib.hid hWb
        have HXQ := Lib.hid hxq
        have lxq : w.heap.size < wq.heap.size := by omega
        clear hSc hSq hWb hxq
        by_cases hsw : isSw Bs = true
        · obtain ⟨c, r, rfl⟩ : ∃ c r, Bs = c :: r := by
            cases Bs with
            | nil => exact absurd hsw (by decide)
            | cons c r => exact ⟨c, r, rfl⟩
          have hc : c.toNat = 0 := by simpa [isSw] using hsw
          have BL' : N = r.length + 1 := BL.out
          obtain ⟨M, hM⟩ : ∃ M, M = N - 1 := ⟨_, rfl⟩
          have hN1 : (0 : Int) < N := by omega
          obtain ⟨gc, ofc, rowc, hix, hgF, hglt, hrow, hrr⟩ := HSq.out.index (P := Try.prog) Try.underlying34 size_byte (i := 0) (by simp)
          have hrr3 : rowc = [.int .u8 c.toNat] := hrr
          subst hrr3
          have d0 := hrow.one
          simp only [Nat.zero_mul, Nat.add_zero, Int.natCast_zero] at hix d0
          rw [hc] at d0
          have hcut2 : ∀ wx, (Instr.sliceAt 34 (.slice X N (CP)) (some (.int .i64 1)) none none).run Try.prog wx = .ok (.slice (if CP = 1 then X else X.map (·.add (1 * 1))) M (CP - 1)) wx := fun wx => by rw [hM]; exact run_from (P := Try.prog) Try.underlying34 size_byte X N (CP) 1 (by omega) wx
          have hss := HSq.out.from 1 (by omega)
          rw [← hM] at hss
          have HC2 := convert_bytes (P := Try.prog) (src := 34) (dst := 9) Try.underlying34 Try.underlying5 Try.underlying9 (hss.below byteF_firm (Joins.below_alloc1 wq (.cells #[.int .i64 0, .int .i64 0, .string ⟨#[]⟩, .int .i64 0, .int .i64 0, .slice none 0 0, .int .i64 0, .bool false, .int .i64 0, .string ⟨#[]⟩] 41)))
          simp only [List.drop_succ_cons, List.drop_zero] at HC2
          generalize (if CP = 1 then X else X.map (·.add (1 * 1))) = Y at hcut2 HC2
          generalize CP - 1 = CQ at hcut2 HC2
          have hdA : Hid (decA (c :: r) = (⟨4, ⟨0, ⟨#[]⟩, 0, 0, 0, false⟩, 0, ⟨r.toArray⟩⟩, [])) := by show _ = _; unfold decA; rw [if_pos hsw]; rfl
          rw [hdA.out] at DL0
          have DL := Lib.hid DL0
          clear hss hrr DL0 BL hgF hrow
          have BLL := Lib.hid BL'
          clear hM BL'
          by_cases hk3 : N ≤ 3001
          · have hk4 : (N : Int) ≤ 3001 := by omega
            have hdK : Hid (decK (c :: r) = true) := by show _ = _; unfold decK; rw [if_pos hsw]; have := BLL.out; simp; omega
            go_upto_region 17 with fail
            have HA9 : Hid ((wq.alloc (.cells #[.int .i64 4, .int .i64 0, .string ⟨#[]⟩, .int .i64 0, .int .i64 0, .slice none 0 0, .int .i64 0, .bool false, .int .i64 0, .string ⟨r.toArray⟩] 41)).heap[wq.heap.size]? = some (.cells #[.int .i64 4, .int .i64 0, .string ⟨#[]⟩, .int .i64 0, .int .i64 0, .slice none 0 0, .int .i64 0, .bool false, .int .i64 0, .string ⟨r.toArray⟩] 41)) := heap_alloc_new wq (.cells #[.int .i64 4, .int .i64 0, .string ⟨#[]⟩, .int .i64 0, .int .i64 0, .slice none 0 0, .int .i64 0, .bool false, .int .i64 0, .string ⟨r.toArray⟩] 41)
            have HB3 : Hid (Below wr.heap.size wr (wq.alloc (.cells #[.int .i64 4, .int .i64 0, .string ⟨#[]⟩, .int .i64 0, .int .i64 0, .slice none 0 0, .int .i64 0, .bool false, .int .i64 0, .string ⟨r.toArray⟩] 41))) := HWb.out.alloc (by omega) _
            have HS3 : Hid (SlF (from_ wr.heap.size) (wq.alloc (.cells #[.int .i64 4, .int .i64 0, .string ⟨#[]⟩, .int .i64 0, .int .i64 0, .slice none 0 0, .int .i64 0, .bool false, .int .i64 0, .string ⟨r.toArray⟩] 41)) 3 valF none ([] : List Val).length 0 []) := SlF.nil
            have hxr3 : (wq.alloc (.cells #[.int .i64 4, .int .i64 0, .string ⟨#[]⟩, .int .i64 0, .int .i64 0, .slice none 0 0, .int .i64 0, .bool false, .int .i64 0, .string ⟨r.toArray⟩] 41)).heap[w.heap.size]? = some (.cells #[.slice ao n cap, .int .i64 s] 39) := (Below.heap_alloc _ _ _ (by omega)).trans HXQ.out
            generalize wq.alloc (.cells #[.int .i64 4, .int .i64 0, .string ⟨#[]⟩, .int .i64 0, .int .i64 0, .slice none 0 0, .int .i64 0, .bool false, .int .i64 0, .string ⟨r.toArray⟩] 41) = W3 at *
            clear c0 c1 cf HC2 hcut2 d0 hix
            obtain ⟨c0, c1, cf⟩ := two_of_heap hxr3
            have lx3 : w.heap.size < W3.heap.size := (Array.getElem?_eq_some_iff.1 hxr3).1
            clear hxr3
            obtain ⟨a0, a1, a2, a3, a4, a5, a6, a7, a8, a9, af⟩ := ten_cells HA9.out
            have hl9 : wq.heap.size < W3.heap.size := (Array.getElem?_eq_some_iff.1 HA9.out).1
            obtain ⟨j, hj⟩ : ∃ j, k = j + 1 := ⟨k - 1, by omega⟩
            have X0 := XS0.out j hj hdK.out
            rw [hdA.out] at X0
            have XX2 : Hid ((acc ++ [(⟨4, ⟨0, ⟨#[]⟩, 0, 0, 0, false⟩, 0, ⟨r.toArray⟩⟩, ([] : List Val))]) ++ (recF j xs (q + 2 + N)).1 = V.1) := by show _ = _; rw [← XX.out, X0]; simp
            have YY2 : Hid ((recF j xs (q + 2 + N)).2 = V.2) := by show _ = _; rw [← YY.out, X0]
            clear XX YY X0 XS0 XE0
            have hs3 := HB3.out.size
            have hBA : Below wr.heap.size wr (W3.alloc (.cells #[.int .i64 4, .int .i64 0, .string ⟨#[]⟩, .int .i64 0, .int .i64 0, .slice none 0 0, .int .i64 0, .bool false, .int .i64 0, .string ⟨r.toArray⟩] 41)) := HB3.out.alloc (by omega) _
            have HOA := Lib.hid (HO.out.below actF_firm hBA)
            have HBA := Lib.hid hBA
            have HSA := Lib.hid ((HS3.out.below valF_firm (Joins.below_alloc1 W3 (.cells #[.int .i64 4, .int .i64 0, .string ⟨#[]⟩, .int .i64 0, .int .i64 0, .slice none 0 0, .int .i64 0, .bool false, .int .i64 0, .string ⟨r.toArray⟩] 41))).wide (G := off_ (from_ w1.heap.size) (.slice ra acc.length rc)) valF_firm (fun b hb _ => ⟨Nat.le_trans (by omega) hb, HO.out.lt hb⟩))
            have CN : Hid (∀ q y, (Ac.cells ⟨4, ⟨0, ⟨#[]⟩, 0, 0, 0, false⟩, 0, ⟨r.toArray⟩⟩ (.slice none 0 0))[q]? = some y → World.cell? (W3.alloc (.cells #[.int .i64 4, .int .i64 0, .string ⟨#[]⟩, .int .i64 0, .int .i64 0, .slice none 0 0, .int .i64 0, .bool false, .int .i64 0, .string ⟨r.toArray⟩] 41)) ((⟨W3.heap.size, 0, none⟩ : Addr).add q) = some y) := by
              show ∀ q y, _
              intro q y hu
              rw [Go.WideShapes.add_plain, Nat.zero_add, Lib.cell_of_heap (heap_alloc_new W3 (.cells #[.int .i64 4, .int .i64 0, .string ⟨#[]⟩, .int .i64 0, .int .i64 0, .slice none 0 0, .int .i64 0, .bool false, .int .i64 0, .string ⟨r.toArray⟩] 41))]
              simpa [Ac.cells] using hu
            have hacl : (acc.length + 1) * 112 ≤ 140737488355328 := by omega
            clear hBA
            go_wp2_with (first
              | (at_builtin; go_loud (refine wpList_append_F rfl _ _ 47 rfl w1.heap.size 41 i0 (.agg #[.int .i64 0, .int .i64 0, .string ByteArray.empty, .int .i64 0, .int .i64 0, .slice none 0 0, .int .i64 0, .bool false, .int .i64 0, .string ByteArray.empty]) 10 112 Try.underlying47 hi hz0 hz1 hz2 rfl (by decide) _ acc.length rfl HOA.out rfl actF_firm (⟨4, ⟨0, ⟨#[]⟩, 0, 0, 0, false⟩, 0, ⟨r.toArray⟩⟩, ([] : List Val)) (Ac.cells ⟨4, ⟨0, ⟨#[]⟩, 0, 0, 0, false⟩, 0, ⟨r.toArray⟩⟩ (.slice none 0 0)) ⟨W3.heap.size, 0, none⟩ rfl rfl CN.out (fun u hu => by simp [Ac.cells] at hu; rcases hu with rfl | rfl | rfl | rfl | rfl | rfl | rfl | rfl | rfl | rfl <;> rfl) ⟨none, 0, rfl, HSA.out, DL.out.1, DL.out.2⟩ hacl (by decide) (by simp; omega) ?_; intro ra2 rc2 w5 hown' hgrow hb5))
              | fail)
            exact ⟨⟨acc ++ [(⟨4, ⟨0, ⟨#[]⟩, 0, 0, 0, false⟩, 0, ⟨r.toArray⟩⟩, ([] : List Val))], q + 2 + N, j, by go_num, h3, by omega, by simp; omega, HBR.out.trans ((HBA.out.mono (by omega)).trans hb5), by simpa using hown', XX2, YY2⟩, by simp [intOf]; omega⟩
          · have hk4 : ¬ (N : Int) ≤ 3001 := by omega
            have hdK : Hid (decK (c :: r) = false) := by show _ = _; unfold decK; rw [if_pos hsw]; have := BLL.out; simp; omega
            go_upto_region 17 with fail
            have HA9 : Hid ((wq.alloc (.cells #[.int .i64 4, .int .i64 0, .string ⟨#[]⟩, .int .i64 0, .int .i64 0, .slice none 0 0, .int .i64 0, .bool false, .int .i64 0, .string ⟨r.toArray⟩] 41)).heap[wq.heap.size]? = some (.cells #[.int .i64 4, .int .i64 0, .string ⟨#[]⟩, .int .i64 0, .int .i64 0, .slice none 0 0, .int .i64 0, .bool false, .int .i64 0, .string ⟨r.toArray⟩] 41)) := heap_alloc_new wq (.cells #[.int .i64 4, .int .i64 0, .string ⟨#[]⟩, .int .i64 0, .int .i64 0, .slice none 0 0, .int .i64 0, .bool false, .int .i64 0, .string ⟨r.toArray⟩] 41)
            have HB3 : Hid (Below wr.heap.size wr (wq.alloc (.cells #[.int .i64 4, .int .i64 0, .string ⟨#[]⟩, .int .i64 0, .int .i64 0, .slice none 0 0, .int .i64 0, .bool false, .int .i64 0, .string ⟨r.toArray⟩] 41))) := HWb.out.alloc (by omega) _
            have HS3 : Hid (SlF (from_ wr.heap.size) (wq.alloc (.cells #[.int .i64 4, .int .i64 0, .string ⟨#[]⟩, .int .i64 0, .int .i64 0, .slice none 0 0, .int .i64 0, .bool false, .int .i64 0, .string ⟨r.toArray⟩] 41)) 3 valF none ([] : List Val).length 0 []) := SlF.nil
            have hxr3 : (wq.alloc (.cells #[.int .i64 4, .int .i64 0, .string ⟨#[]⟩, .int .i64 0, .int .i64 0, .slice none 0 0, .int .i64 0, .bool false, .int .i64 0, .string ⟨r.toArray⟩] 41)).heap[w.heap.size]? = some (.cells #[.slice ao n cap, .int .i64 s] 39) := (Below.heap_alloc _ _ _ (by omega)).trans HXQ.out
            generalize wq.alloc (.cells #[.int .i64 4, .int .i64 0, .string ⟨#[]⟩, .int .i64 0, .int .i64 0, .slice none 0 0, .int .i64 0, .bool false, .int .i64 0, .string ⟨r.toArray⟩] 41) = W3 at *
            clear c0 c1 cf HC2 hcut2 d0 hix
            obtain ⟨c0, c1, cf⟩ := two_of_heap hxr3
            have lx3 : w.heap.size < W3.heap.size := (Array.getElem?_eq_some_iff.1 hxr3).1
            clear hxr3
            obtain ⟨a0, a1, a2, a3, a4, a5, a6, a7, a8, a9, af⟩ := ten_cells HA9.out
            have hl9 : wq.heap.size < W3.heap.size := (Array.getElem?_eq_some_iff.1 HA9.out).1
            have E0 : Hid (recF k xs q = ([], q)) := XE0.out hdK.out
            go_upto_region 20 with fail
            have hb3 := HB3.out
            have hs3 := hb3.size
            clear c0 c1 cf a0 a1 a2 a3 a4 a5 a6 a7 a8 a9 af
            have E1 : Hid (acc = V.1) := by show _ = _; rw [← XX.out, E0.out]; simp
            have E2 : Hid (q = V.2) := by show _ = _; rw [← YY.out, E0.out]
            have hcut := fun wx => run_upto (P := Try.prog) Try.underlying34 size_byte ao n cap q (by have := HX1.out.le; omega) wx
            have HBX : Below w1.heap.size w1 (W3) := HBR.out.trans (hb3.mono (by omega))
            have hsx : w1.heap.size ≤ (W3).heap.size := HBX.size
            have hx2 : (W3).heap[w.heap.size]? = some (.cells #[.slice ao n cap, .int .i64 s] 39) := (HBX.block _ (by omega)).trans HG0.out
            have hr2 : (W3).heap[w.heap.size + 1]? = some (.cells #[.slice none 0 0, .int .i64 0] 39) := (HBX.block _ (by omega)).trans HG1.out
            obtain ⟨a2, c2, e2, hS2⟩ := OwnF.done (HO.out.below actF_firm hb3) actF_firm (G := from_ w1.heap.size) (by omega) (fun b _ h => h.elim id id)
            injection e2 with e3 _ e4
            subst e3 e4
            have hJ := joined_any F (fun _ => True) ao q cap (xs.take q) none 0 0 [] (W3) ((HX1.out.below byteF_firm HBX).take q cap hqn (by have := HX1.out.le; omega) (Nat.le_refl _)) SlF.nil (by omega)
            have hbw := HB0.out.trans (HBX.mono (by omega))
            generalize hWX : W3 = WX at *
            obtain ⟨x0, x1, xf⟩ := two_of_heap hx2
            have HR2 := Lib.hid hr2
            have HSA := Lib.hid hS2
            have HBW := Lib.hid hbw
            simp only [Nat.add_zero, List.append_nil] at hJ
            have HJ := Lib.hid hJ
            have hlw : w.heap.size + 1 < WX.heap.size := by omega
            have hlx : w.heap.size < WX.heap.size := by omega
            clear hx2 hr2 hS2 hbw HBX hsx hJ
            rcases (show s ≤ (q : Int) ∨ (q : Int) < s by omega) with hsq | hsq
            · go_wp2_with fail
              refine HJ.out.mono ?_
              rintro e wj ⟨ao5, cap5, rfl, hb5, hS5⟩
              have hs5 := hb5.size
              have hrj : wj.heap[w.heap.size + 1]? = _ := (hb5.block _ hlw).trans HR2.out
              obtain ⟨j0, j1, jf⟩ := two_of_heap hrj
              have hlj : w.heap.size + 1 < wj.heap.size := by omega
              have HSJ := Lib.hid hS5
              have HBJ := Lib.hid hb5
              have HRJ := Lib.hid hrj
              clear hrj hS5 hb5
              go_wp2
              have hrw := set_two1 (u := .int .i64 s) (set_two0 (u := .slice ao5 q cap5) HRJ.out)
              obtain ⟨y0, y1, yf⟩ := two_of_heap hrw
              refine bodyPost_ret (v := .tuple #[.slice ra acc.length rc, .agg #[.slice ao5 q cap5, .int .i64 s], .int .i64 0]) (by simp only [results, Try.results18]; generalize World.setCell (World.setCell _ _ _) _ _ = WW at *; simp [go_sem, y0, y1]) rfl ?_
              unfold RecPost
              have hl : (xs.take q).length = q := by have := NL.out; simp; omega
              rw [← E1.out, ← E2.out, show min s (q : Int) = s by omega, hl]
              exact ⟨ra, rc, ao5, cap5, rfl, ((HBW.out.trans (HBJ.out.mono (by omega))).setCell (p := ⟨w.heap.size + 1, 0, none⟩) (by show w.heap.size ≤ w.heap.size + 1; omega) _).setCell (p := ⟨w.heap.size + 1, 1, none⟩) (by show w.heap.size ≤ w.heap.size + 1; omega) _,
                ((((HSA.out.below actF_firm HBJ.out).setLow actF_firm (p := ⟨w.heap.size + 1, 0, none⟩) (by show w.heap.size + 1 < _; omega) _).setLow actF_firm (p := ⟨w.heap.size + 1, 1, none⟩) (by show w.heap.size + 1 < _; omega) _)).above actF_firm (by omega),
                (((HSJ.out.setLow byteF_firm (p := ⟨w.heap.size + 1, 0, none⟩) (by show w.heap.size + 1 < _; omega) _).setLow byteF_firm (p := ⟨w.heap.size + 1, 1, none⟩) (by show w.heap.size + 1 < _; omega) _)).above byteF_firm (by omega)⟩
            · go_wp2_with fail
              refine HJ.out.mono ?_
              rintro e wj ⟨ao5, cap5, rfl, hb5, hS5⟩
              have hs5 := hb5.size
              have hrj : wj.heap[w.heap.size + 1]? = _ := (hb5.block _ hlw).trans HR2.out
              obtain ⟨j0, j1, jf⟩ := two_of_heap hrj
              have hlj : w.heap.size + 1 < wj.heap.size := by omega
              have HSJ := Lib.hid hS5
              have HBJ := Lib.hid hb5
              have HRJ := Lib.hid hrj
              clear hrj hS5 hb5
              go_wp2
              have hrw := set_two1 (u := .int .i64 q) (set_two0 (u := .slice ao5 q cap5) HRJ.out)
              obtain ⟨y0, y1, yf⟩ := two_of_heap hrw
              refine bodyPost_ret (v := .tuple #[.slice ra acc.length rc, .agg #[.slice ao5 q cap5, .int .i64 q], .int .i64 0]) (by simp only [results, Try.results18]; generalize World.setCell (World.setCell _ _ _) _ _ = WW at *; simp [go_sem, y0, y1]) rfl ?_
              unfold RecPost
              have hl : (xs.take q).length = q := by have := NL.out; simp; omega
              rw [← E1.out, ← E2.out, show min s (q : Int) = q by omega, hl]
              exact ⟨ra, rc, ao5, cap5, rfl, ((HBW.out.trans (HBJ.out.mono (by omega))).setCell (p := ⟨w.heap.size + 1, 0, none⟩) (by show w.heap.size ≤ w.heap.size + 1; omega) _).setCell (p := ⟨w.heap.size + 1, 1, none⟩) (by show w.heap.size ≤ w.heap.size + 1; omega) _,
                ((((HSA.out.below actF_firm HBJ.out).setLow actF_firm (p := ⟨w.heap.size + 1, 0, none⟩) (by show w.heap.size + 1 < _; omega) _).setLow actF_firm (p := ⟨w.heap.size + 1, 1, none⟩) (by show w.heap.size + 1 < _; omega) _)).above actF_firm (by omega),
                (((HSJ.out.setLow byteF_firm (p := ⟨w.heap.size + 1, 0, none⟩) (by show w.heap.size + 1 < _; omega) _).setLow byteF_firm (p := ⟨w.heap.size + 1, 1, none⟩) (by show w.heap.size + 1 < _; omega) _)).above byteF_firm (by omega)⟩
        · have hsw' : isSw Bs = false := by simpa using hsw
          have hdA : Hid (decA Bs = (⟨1, decO Bs, 0, ⟨#[]⟩⟩, decV Bs)) := by show _ = _; unfold decA; rw [if_neg hsw]; rfl
          have hdK0 : Hid (decK Bs = decide (decE Bs = 0)) := by show _ = _; unfold decK; rw [if_neg hsw]
          have HD := Lib.hid (opOf_any _ _ _ _ _ (wq.alloc (.cells #[.int .i64 0, .int .i64 0, .string ⟨#[]⟩, .int .i64 0, .int .i64 0, .slice none 0 0, .int .i64 0, .bool false, .int .i64 0, .string ⟨#[]⟩] 41)) (HSq.out.below byteF_firm (Joins.below_alloc1 _ _)))
          unfold DecPost at HD
          rw [hdA.out] at DL0
          have hxi : Bs = [] ∨ ∃ c r, Bs = c :: r ∧ ((c.toNat : Int) == 0) = false ∧ ∃ gc ofc, (∀ wx, (Instr.indexAt 34 (.slice X N (CP)) (.int .i64 0)).run Try.prog wx = .ok (.pointer (some ⟨gc, ofc, none⟩)) wx) ∧ gc < wq.heap.size ∧ wq.cell? ⟨gc, ofc, none⟩ = some (.int .u8 c.toNat) := by
            cases Bs with
            | nil => exact Or.inl rfl
            | cons c r =>
              obtain ⟨gc, ofc, rowc, hix, hgF, hglt, hrow, hrr⟩ := HSq.out.index (P := Try.prog) Try.underlying34 size_byte (i := 0) (by simp)
              have hrr3 : rowc = [.int .u8 c.toNat] := hrr
              subst hrr3
              have d0 := hrow.one
              simp only [Nat.zero_mul, Nat.add_zero, Int.natCast_zero] at hix d0
              exact Or.inr ⟨c, r, rfl, by simpa [isSw] using hsw', gc, ofc, hix, hglt, d0⟩
          obtain ⟨Bs', hBs⟩ : ∃ Bs', Bs' = Bs := ⟨_, rfl⟩
          have NB : (N = 0 ∧ Bs = []) ∨ (0 < N ∧ Bs ≠ []) := by rw [BL.out]; cases Bs with
            | nil => exact Or.inl ⟨rfl, rfl⟩
            | cons c r => exact Or.inr ⟨by simp, by simp⟩
          clear HSq BL hsw hsw'
          rw [← hBs] at hdA hdK0 HD XS0 XE0 DL0
          generalize decO Bs' = o at HD hdA DL0
          generalize decV Bs' = vs at HD hdA
          generalize decE Bs' = E at HD hdK0
          obtain ⟨k', t, st, sp, d, cb⟩ := o
          have DL := Lib.hid DL0
          clear DL0
          unfold Opn.val at HD
          simp only at HD
          have HBS := Lib.hid hBs
          clear hBs
          rcases NB with ⟨N0, hB0⟩ | ⟨N1, hB1⟩
          · have N0' : ¬ (0 : Int) < N := by omega
            clear hB0 hxi N0
            go_wp2_with fail
            refine HD.out.mono ?_
            rintro e w2 ⟨ao2, cap2, rfl, hb2, hS2⟩
            have hs2 := hb2.size
            simp only [World.size_alloc] at hs2 hS2
            have hrb : w2.heap[wq.heap.size]? = some (.cells #[.int .i64 0, .int .i64 0, .string ⟨#[]⟩, .int .i64 0, .int .i64 0, .slice none 0 0, .int .i64 0, .bool false, .int .i64 0, .string ⟨#[]⟩] 41) := (hb2.block _ (by simp)).trans (heap_alloc_new wq (.cells #[.int .i64 0, .int .i64 0, .string ⟨#[]⟩, .int .i64 0, .int .i64 0, .slice none 0 0, .int .i64 0, .bool false, .int .i64 0, .string ⟨#[]⟩] 41))
            have hxb : w2.heap[w.heap.size]? = some (.cells #[.slice ao n cap, .int .i64 s] 39) := (hb2.block _ (by simp; omega)).trans ((Below.heap_alloc _ _ _ (by omega)).trans HXQ.out)
            go_upto_region 15 with fail
            have HW1 : Hid ((w2.alloc (.cells #[.int .i64 k', .string t, .int .i64 st, .int .i64 sp, .slice ao2 vs.length cap2, .int .i64 d, .bool cb] 33)).heap[wq.heap.size]? = some (.cells #[.int .i64 0, .int .i64 0, .string ⟨#[]⟩, .int .i64 0, .int .i64 0, .slice none 0 0, .int .i64 0, .bool false, .int .i64 0, .string ⟨#[]⟩] 41)) := (Below.heap_alloc _ _ _ (by omega)).trans hrb
            have HX2 : Hid ((w2.alloc (.cells #[.int .i64 k', .string t, .int .i64 st, .int .i64 sp, .slice ao2 vs.length cap2, .int .i64 d, .bool cb] 33)).heap[w.heap.size]? = some (.cells #[.slice ao n cap, .int .i64 s] 39)) := (Below.heap_alloc _ _ _ (by omega)).trans hxb
            have hW2 := heap_alloc_new w2 (.cells #[.int .i64 k', .string t, .int .i64 st, .int .i64 sp, .slice ao2 vs.length cap2, .int .i64 d, .bool cb] 33)
            have HB2 : Hid (Below wr.heap.size wr (w2.alloc (.cells #[.int .i64 k', .string t, .int .i64 st, .int .i64 sp, .slice ao2 vs.length cap2, .int .i64 d, .bool cb] 33))) := (((HWb.out.alloc (by omega) _).trans (hb2.mono (by simp; omega)))).alloc (by omega) _
            have HS2 := Lib.hid (hS2.below valF_firm (Joins.below_alloc1 w2 (.cells #[.int .i64 k', .string t, .int .i64 st, .int .i64 sp, .slice ao2 vs.length cap2, .int .i64 d, .bool cb] 33)))
            have hl2 : w2.heap.size < (w2.alloc (.cells #[.int .i64 k', .string t, .int .i64 st, .int .i64 sp, .slice ao2 vs.length cap2, .int .i64 d, .bool cb] 33)).heap.size := by simp
            have hl3 : wq.heap.size < (w2.alloc (.cells #[.int .i64 k', .string t, .int .i64 st, .int .i64 sp, .slice ao2 vs.length cap2, .int .i64 d, .bool cb] 33)).heap.size := by simp; omega
            generalize w2.alloc (.cells #[.int .i64 k', .string t, .int .i64 st, .int .i64 sp, .slice ao2 vs.length cap2, .int .i64 d, .bool cb] 33) = W2 at *
            obtain ⟨r0, r1, r2, r3, r4, r5, r6, r7, r8, r9, rf⟩ := ten_cells HW1.out
            obtain ⟨o0, o1, o2, o3, o4, o5, o6, of⟩ := seven_cells hW2
            clear c0 c1 cf
            obtain ⟨c0, c1, cf⟩ := two_of_heap HX2.out
            have lx2 : w.heap.size < W2.heap.size := by omega
            clear hrb hxb hW2 hb2 hS2
            by_cases hE : E = 0
            · subst hE
              have hdK : Hid (decK Bs' = true) := by show _ = _; rw [hdK0.out]; simp
              go_upto_region 17 with fail
              have HA9 : Hid ((((((((((((W2).setCell ⟨wq.heap.size, 0, none⟩ (.int .i64 1)).setCell ⟨wq.heap.size, 1, none⟩ (.int .i64 k')).setCell ⟨wq.heap.size, 2, none⟩ (.string t)).setCell ⟨wq.heap.size, 3, none⟩ (.int .i64 st)).setCell ⟨wq.heap.size, 4, none⟩ (.int .i64 sp)).setCell ⟨wq.heap.size, 5, none⟩ (.slice ao2 vs.length cap2)).setCell ⟨wq.heap.size, 6, none⟩ (.int .i64 d)).setCell ⟨wq.heap.size, 7, none⟩ (.bool cb)).setCell ⟨wq.heap.size, 8, none⟩ (.int .i64 0)).setCell ⟨wq.heap.size, 9, none⟩ (.string ⟨#[]⟩)).heap[wq.heap.size]? = some (.cells #[.int .i64 1, .int .i64 k', .string t, .int .i64 st, .int .i64 sp, .slice ao2 vs.length cap2, .int .i64 d, .bool cb, .int .i64 0, .string ⟨#[]⟩] 41)) := tens_block HW1.out _ _ _ _ _ _ _ _ _ _
              have HB3 : Hid (Below wr.heap.size wr (((((((((((W2).setCell ⟨wq.heap.size, 0, none⟩ (.int .i64 1)).setCell ⟨wq.heap.size, 1, none⟩ (.int .i64 k')).setCell ⟨wq.heap.size, 2, none⟩ (.string t)).setCell ⟨wq.heap.size, 3, none⟩ (.int .i64 st)).setCell ⟨wq.heap.size, 4, none⟩ (.int .i64 sp)).setCell ⟨wq.heap.size, 5, none⟩ (.slice ao2 vs.length cap2)).setCell ⟨wq.heap.size, 6, none⟩ (.int .i64 d)).setCell ⟨wq.heap.size, 7, none⟩ (.bool cb)).setCell ⟨wq.heap.size, 8, none⟩ (.int .i64 0)).setCell ⟨wq.heap.size, 9, none⟩ (.string ⟨#[]⟩))) := below_tens HB2.out hsq0 _ _ _ _ _ _ _ _ _ _
              have HS3 : Hid (SlF (from_ wr.heap.size) (((((((((((W2).setCell ⟨wq.heap.size, 0, none⟩ (.int .i64 1)).setCell ⟨wq.heap.size, 1, none⟩ (.int .i64 k')).setCell ⟨wq.heap.size, 2, none⟩ (.string t)).setCell ⟨wq.heap.size, 3, none⟩ (.int .i64 st)).setCell ⟨wq.heap.size, 4, none⟩ (.int .i64 sp)).setCell ⟨wq.heap.size, 5, none⟩ (.slice ao2 vs.length cap2)).setCell ⟨wq.heap.size, 6, none⟩ (.int .i64 d)).setCell ⟨wq.heap.size, 7, none⟩ (.bool cb)).setCell ⟨wq.heap.size, 8, none⟩ (.int .i64 0)).setCell ⟨wq.heap.size, 9, none⟩ (.string ⟨#[]⟩)) 3 valF ao2 vs.length cap2 vs) := (HS2.out.tens valF_firm (by omega) _ _ _ _ _ _ _ _ _ _).above valF_firm (by omega)
              have hxr3 : (((((((((((W2).setCell ⟨wq.heap.size, 0, none⟩ (.int .i64 1)).setCell ⟨wq.heap.size, 1, none⟩ (.int .i64 k')).setCell ⟨wq.heap.size, 2, none⟩ (.string t)).setCell ⟨wq.heap.size, 3, none⟩ (.int .i64 st)).setCell ⟨wq.heap.size, 4, none⟩ (.int .i64 sp)).setCell ⟨wq.heap.size, 5, none⟩ (.slice ao2 vs.length cap2)).setCell ⟨wq.heap.size, 6, none⟩ (.int .i64 d)).setCell ⟨wq.heap.size, 7, none⟩ (.bool cb)).setCell ⟨wq.heap.size, 8, none⟩ (.int .i64 0)).setCell ⟨wq.heap.size, 9, none⟩ (.string ⟨#[]⟩)).heap[w.heap.size]? = some (.cells #[.slice ao n cap, .int .i64 s] 39) := ((below_tens (g := wq.heap.size) (Below.refl wq.heap.size W2) (Nat.le_refl _) _ _ _ _ _ _ _ _ _ _).block _ (by omega)).trans HX2.out
              generalize ((((((((((W2).setCell ⟨wq.heap.size, 0, none⟩ (.int .i64 1)).setCell ⟨wq.heap.size, 1, none⟩ (.int .i64 k')).setCell ⟨wq.heap.size, 2, none⟩ (.string t)).setCell ⟨wq.heap.size, 3, none⟩ (.int .i64 st)).setCell ⟨wq.heap.size, 4, none⟩ (.int .i64 sp)).setCell ⟨wq.heap.size, 5, none⟩ (.slice ao2 vs.length cap2)).setCell ⟨wq.heap.size, 6, none⟩ (.int .i64 d)).setCell ⟨wq.heap.size, 7, none⟩ (.bool cb)).setCell ⟨wq.heap.size, 8, none⟩ (.int .i64 0)).setCell ⟨wq.heap.size, 9, none⟩ (.string ⟨#[]⟩) = W3 at *
              clear c0 c1 cf r0 r1 r2 r3 r4 r5 r6 r7 r8 r9 rf o0 o1 o2 o3 o4 o5 o6 of
              obtain ⟨c0, c1, cf⟩ := two_of_heap hxr3
              have lx3 : w.heap.size < W3.heap.size := (Array.getElem?_eq_some_iff.1 hxr3).1
              clear hxr3
              obtain ⟨a0, a1, a2, a3, a4, a5, a6, a7, a8, a9, af⟩ := ten_cells HA9.out
              have hl9 : wq.heap.size < W3.heap.size := (Array.getElem?_eq_some_iff.1 HA9.out).1
              obtain ⟨j, hj⟩ : ∃ j, k = j + 1 := ⟨k - 1, by omega⟩
              have X0 := XS0.out j hj hdK.out
              rw [hdA.out] at X0
              have XX2 : Hid ((acc ++ [(⟨1, ⟨k', t, st, sp, d, cb⟩, 0, ⟨#[]⟩⟩, vs)]) ++ (recF j xs (q + 2 + N)).1 = V.1) := by show _ = _; rw [← XX.out, X0]; simp
              have YY2 : Hid ((recF j xs (q + 2 + N)).2 = V.2) := by show _ = _; rw [← YY.out, X0]
              clear XX YY X0 XS0 XE0
              have hs3 := HB3.out.size
              have hBA : Below wr.heap.size wr (W3.alloc (.cells #[.int .i64 1, .int .i64 k', .string t, .int .i64 st, .int .i64 sp, .slice ao2 vs.length cap2, .int .i64 d, .bool cb, .int .i64 0, .string ⟨#[]⟩] 41)) := HB3.out.alloc (by omega) _
              have HOA := Lib.hid (HO.out.below actF_firm hBA)
              have HBA := Lib.hid hBA
              have HSA := Lib.hid ((HS3.out.below valF_firm (Joins.below_alloc1 W3 (.cells #[.int .i64 1, .int .i64 k', .string t, .int .i64 st, .int .i64 sp, .slice ao2 vs.length cap2, .int .i64 d, .bool cb, .int .i64 0, .string ⟨#[]⟩] 41))).wide (G := off_ (from_ w1.heap.size) (.slice ra acc.length rc)) valF_firm (fun b hb _ => ⟨Nat.le_trans (by omega) hb, HO.out.lt hb⟩))
              have CN : Hid (∀ q y, (Ac.cells ⟨1, ⟨k', t, st, sp, d, cb⟩, 0, ⟨#[]⟩⟩ (.slice ao2 vs.length cap2))[q]? = some y → World.cell? (W3.alloc (.cells #[.int .i64 1, .int .i64 k', .string t, .int .i64 st, .int .i64 sp, .slice ao2 vs.length cap2, .int .i64 d, .bool cb, .int .i64 0, .string ⟨#[]⟩] 41)) ((⟨W3.heap.size, 0, none⟩ : Addr).add q) = some y) := by
                show ∀ q y, _
                intro q y hu
                rw [Go.WideShapes.add_plain, Nat.zero_add, Lib.cell_of_heap (heap_alloc_new W3 (.cells #[.int .i64 1, .int .i64 k', .string t, .int .i64 st, .int .i64 sp, .slice ao2 vs.length cap2, .int .i64 d, .bool cb, .int .i64 0, .string ⟨#[]⟩] 41))]
                simpa [Ac.cells] using hu
              have hacl : (acc.length + 1) * 112 ≤ 140737488355328 := by omega
              clear hBA
              go_wp2_with (first
                | (at_builtin; go_loud (refine wpList_append_F rfl _ _ 47 rfl w1.heap.size 41 i0 (.agg #[.int .i64 0, .int .i64 0, .string ByteArray.empty, .int .i64 0, .int .i64 0, .slice none 0 0, .int .i64 0, .bool false, .int .i64 0, .string ByteArray.empty]) 10 112 Try.underlying47 hi hz0 hz1 hz2 rfl (by decide) _ acc.length rfl HOA.out rfl actF_firm (⟨1, ⟨k', t, st, sp, d, cb⟩, 0, ⟨#[]⟩⟩, vs) (Ac.cells ⟨1, ⟨k', t, st, sp, d, cb⟩, 0, ⟨#[]⟩⟩ (.slice ao2 vs.length cap2)) ⟨W3.heap.size, 0, none⟩ rfl rfl CN.out (fun u hu => by simp [Ac.cells] at hu; rcases hu with rfl | rfl | rfl | rfl | rfl | rfl | rfl | rfl | rfl | rfl <;> rfl) ⟨ao2, cap2, rfl, HSA.out, DL.out.1, DL.out.2⟩ hacl (by decide) (by simp; omega) ?_; intro ra2 rc2 w5 hown' hgrow hb5))
                | fail)
              exact ⟨⟨acc ++ [(⟨1, ⟨k', t, st, sp, d, cb⟩, 0, ⟨#[]⟩⟩, vs)], q + 2 + N, j, by go_num, h3, by omega, by simp; omega, HBR.out.trans ((HBA.out.mono (by omega)).trans hb5), by simpa using hown', XX2, YY2⟩, by simp [intOf]; omega⟩
            · have hE1 : (E == 0) = false := by simpa using hE
              have hdK : Hid (decK Bs' = false) := by show _ = _; rw [hdK0.out]; simpa using hE
              go_upto_region 17 with fail
              have HA9 : Hid ((((((((((((W2).setCell ⟨wq.heap.size, 0, none⟩ (.int .i64 1)).setCell ⟨wq.heap.size, 1, none⟩ (.int .i64 k')).setCell ⟨wq.heap.size, 2, none⟩ (.string t)).setCell ⟨wq.heap.size, 3, none⟩ (.int .i64 st)).setCell ⟨wq.heap.size, 4, none⟩ (.int .i64 sp)).setCell ⟨wq.heap.size, 5, none⟩ (.slice ao2 vs.length cap2)).setCell ⟨wq.heap.size, 6, none⟩ (.int .i64 d)).setCell ⟨wq.heap.size, 7, none⟩ (.bool cb)).setCell ⟨wq.heap.size, 8, none⟩ (.int .i64 0)).setCell ⟨wq.heap.size, 9, none⟩ (.string ⟨#[]⟩)).heap[wq.heap.size]? = some (.cells #[.int .i64 1, .int .i64 k', .string t, .int .i64 st, .int .i64 sp, .slice ao2 vs.length cap2, .int .i64 d, .bool cb, .int .i64 0, .string ⟨#[]⟩] 41)) := tens_block HW1.out _ _ _ _ _ _ _ _ _ _
              have HB3 : Hid (Below wr.heap.size wr (((((((((((W2).setCell ⟨wq.heap.size, 0, none⟩ (.int .i64 1)).setCell ⟨wq.heap.size, 1, none⟩ (.int .i64 k')).setCell ⟨wq.heap.size, 2, none⟩ (.string t)).setCell ⟨wq.heap.size, 3, none⟩ (.int .i64 st)).setCell ⟨wq.heap.size, 4, none⟩ (.int .i64 sp)).setCell ⟨wq.heap.size, 5, none⟩ (.slice ao2 vs.length cap2)).setCell ⟨wq.heap.size, 6, none⟩ (.int .i64 d)).setCell ⟨wq.heap.size, 7, none⟩ (.bool cb)).setCell ⟨wq.heap.size, 8, none⟩ (.int .i64 0)).setCell ⟨wq.heap.size, 9, none⟩ (.string ⟨#[]⟩))) := below_tens HB2.out hsq0 _ _ _ _ _ _ _ _ _ _
              have HS3 : Hid (SlF (from_ wr.heap.size) (((((((((((W2).setCell ⟨wq.heap.size, 0, none⟩ (.int .i64 1)).setCell ⟨wq.heap.size, 1, none⟩ (.int .i64 k')).setCell ⟨wq.heap.size, 2, none⟩ (.string t)).setCell ⟨wq.heap.size, 3, none⟩ (.int .i64 st)).setCell ⟨wq.heap.size, 4, none⟩ (.int .i64 sp)).setCell ⟨wq.heap.size, 5, none⟩ (.slice ao2 vs.length cap2)).setCell ⟨wq.heap.size, 6, none⟩ (.int .i64 d)).setCell ⟨wq.heap.size, 7, none⟩ (.bool cb)).setCell ⟨wq.heap.size, 8, none⟩ (.int .i64 0)).setCell ⟨wq.heap.size, 9, none⟩ (.string ⟨#[]⟩)) 3 valF ao2 vs.length cap2 vs) := (HS2.out.tens valF_firm (by omega) _ _ _ _ _ _ _ _ _ _).above valF_firm (by omega)
              have hxr3 : (((((((((((W2).setCell ⟨wq.heap.size, 0, none⟩ (.int .i64 1)).setCell ⟨wq.heap.size, 1, none⟩ (.int .i64 k')).setCell ⟨wq.heap.size, 2, none⟩ (.string t)).setCell ⟨wq.heap.size, 3, none⟩ (.int .i64 st)).setCell ⟨wq.heap.size, 4, none⟩ (.int .i64 sp)).setCell ⟨wq.heap.size, 5, none⟩ (.slice ao2 vs.length cap2)).setCell ⟨wq.heap.size, 6, none⟩ (.int .i64 d)).setCell ⟨wq.heap.size, 7, none⟩ (.bool cb)).setCell ⟨wq.heap.size, 8, none⟩ (.int .i64 0)).setCell ⟨wq.heap.size, 9, none⟩ (.string ⟨#[]⟩)).heap[w.heap.size]? = some (.cells #[.slice ao n cap, .int .i64 s] 39) := ((below_tens (g := wq.heap.size) (Below.refl wq.heap.size W2) (Nat.le_refl _) _ _ _ _ _ _ _ _ _ _).block _ (by omega)).trans HX2.out
              generalize ((((((((((W2).setCell ⟨wq.heap.size, 0, none⟩ (.int .i64 1)).setCell ⟨wq.heap.size, 1, none⟩ (.int .i64 k')).setCell ⟨wq.heap.size, 2, none⟩ (.string t)).setCell ⟨wq.heap.size, 3, none⟩ (.int .i64 st)).setCell ⟨wq.heap.size, 4, none⟩ (.int .i64 sp)).setCell ⟨wq.heap.size, 5, none⟩ (.slice ao2 vs.length cap2)).setCell ⟨wq.heap.size, 6, none⟩ (.int .i64 d)).setCell ⟨wq.heap.size, 7, none⟩ (.bool cb)).setCell ⟨wq.heap.size, 8, none⟩ (.int .i64 0)).setCell ⟨wq.heap.size, 9, none⟩ (.string ⟨#[]⟩) = W3 at *
              clear c0 c1 cf r0 r1 r2 r3 r4 r5 r6 r7 r8 r9 rf o0 o1 o2 o3 o4 o5 o6 of
              obtain ⟨c0, c1, cf⟩ := two_of_heap hxr3
              have lx3 : w.heap.size < W3.heap.size := (Array.getElem?_eq_some_iff.1 hxr3).1
              clear hxr3
              obtain ⟨a0, a1, a2, a3, a4, a5, a6, a7, a8, a9, af⟩ := ten_cells HA9.out
              have hl9 : wq.heap.size < W3.heap.size := (Array.getElem?_eq_some_iff.1 HA9.out).1
              have E0 : Hid (recF k xs q = ([], q)) := XE0.out hdK.out
              go_upto_region 20 with fail
              have hb3 := HB3.out
              have hs3 := hb3.size
              clear c0 c1 cf a0 a1 a2 a3 a4 a5 a6 a7 a8 a9 af
              have E1 : Hid (acc = V.1) := by show _ = _; rw [← XX.out, E0.out]; simp
              have E2 : Hid (q = V.2) := by show _ = _; rw [← YY.out, E0.out]
              have hcut := fun wx => run_upto (P := Try.prog) Try.underlying34 size_byte ao n cap q (by have := HX1.out.le; omega) wx
              have HBX : Below w1.heap.size w1 (W3) := HBR.out.trans (hb3.mono (by omega))
              have hsx : w1.heap.size ≤ (W3).heap.size := HBX.size
              have hx2 : (W3).heap[w.heap.size]? = some (.cells #[.slice ao n cap, .int .i64 s] 39) := (HBX.block _ (by omega)).trans HG0.out
              have hr2 : (W3).heap[w.heap.size + 1]? = some (.cells #[.slice none 0 0, .int .i64 0] 39) := (HBX.block _ (by omega)).trans HG1.out
              obtain ⟨a2, c2, e2, hS2⟩ := OwnF.done (HO.out.below actF_firm hb3) actF_firm (G := from_ w1.heap.size) (by omega) (fun b _ h => h.elim id id)
              injection e2 with e3 _ e4
              subst e3 e4
              have hJ := joined_any F (fun _ => True) ao q cap (xs.take q) none 0 0 [] (W3) ((HX1.out.below byteF_firm HBX).take q cap hqn (by have := HX1.out.le; omega) (Nat.le_refl _)) SlF.nil (by omega)
              have hbw := HB0.out.trans (HBX.mono (by omega))
              generalize hWX : W3 = WX at *
              obtain ⟨x0, x1, xf⟩ := two_of_heap hx2
              have HR2 := Lib.hid hr2
              have HSA := Lib.hid hS2
              have HBW := Lib.hid hbw
              simp only [Nat.add_zero, List.append_nil] at hJ
              have HJ := Lib.hid hJ
              have hlw : w.heap.size + 1 < WX.heap.size := by omega
              have hlx : w.heap.size < WX.heap.size := by omega
              clear hx2 hr2 hS2 hbw HBX hsx hJ
              rcases (show s ≤ (q : Int) ∨ (q : Int) < s by omega) with hsq | hsq
              · go_wp2_with fail
                refine HJ.out.mono ?_
                rintro e wj ⟨ao5, cap5, rfl, hb5, hS5⟩
                have hs5 := hb5.size
                have hrj : wj.heap[w.heap.size + 1]? = _ := (hb5.block _ hlw).trans HR2.out
                obtain ⟨j0, j1, jf⟩ := two_of_heap hrj
                have hlj : w.heap.size + 1 < wj.heap.size := by omega
                have HSJ := Lib.hid hS5
                have HBJ := Lib.hid hb5
                have HRJ := Lib.hid hrj
                clear hrj hS5 hb5
                go_wp2
                have hrw := set_two1 (u := .int .i64 s) (set_two0 (u := .slice ao5 q cap5) HRJ.out)
                obtain ⟨y0, y1, yf⟩ := two_of_heap hrw
                refine bodyPost_ret (v := .tuple #[.slice ra acc.length rc, .agg #[.slice ao5 q cap5, .int .i64 s], .int .i64 0]) (by simp only [results, Try.results18]; generalize World.setCell (World.setCell _ _ _) _ _ = WW at *; simp [go_sem, y0, y1]) rfl ?_
                unfold RecPost
                have hl : (xs.take q).length = q := by have := NL.out; simp; omega
                rw [← E1.out, ← E2.out, show min s (q : Int) = s by omega, hl]
                exact ⟨ra, rc, ao5, cap5, rfl, ((HBW.out.trans (HBJ.out.mono (by omega))).setCell (p := ⟨w.heap.size + 1, 0, none⟩) (by show w.heap.size ≤ w.heap.size + 1; omega) _).setCell (p := ⟨w.heap.size + 1, 1, none⟩) (by show w.heap.size ≤ w.heap.size + 1; omega) _,
                  ((((HSA.out.below actF_firm HBJ.out).setLow actF_firm (p := ⟨w.heap.size + 1, 0, none⟩) (by show w.heap.size + 1 < _; omega) _).setLow actF_firm (p := ⟨w.heap.size + 1, 1, none⟩) (by show w.heap.size + 1 < _; omega) _)).above actF_firm (by omega),
                  (((HSJ.out.setLow byteF_firm (p := ⟨w.heap.size + 1, 0, none⟩) (by show w.heap.size + 1 < _; omega) _).setLow byteF_firm (p := ⟨w.heap.size + 1, 1, none⟩) (by show w.heap.size + 1 < _; omega) _)).above byteF_firm (by omega)⟩
              · go_wp2_with fail
                refine HJ.out.mono ?_
                rintro e wj ⟨ao5, cap5, rfl, hb5, hS5⟩
                have hs5 := hb5.size
                have hrj : wj.heap[w.heap.size + 1]? = _ := (hb5.block _ hlw).trans HR2.out
                obtain ⟨j0, j1, jf⟩ := two_of_heap hrj
                have hlj : w.heap.size + 1 < wj.heap.size := by omega
                have HSJ := Lib.hid hS5
                have HBJ := Lib.hid hb5
                have HRJ := Lib.hid hrj
                clear hrj hS5 hb5
                go_wp2
                have hrw := set_two1 (u := .int .i64 q) (set_two0 (u := .slice ao5 q cap5) HRJ.out)
                obtain ⟨y0, y1, yf⟩ := two_of_heap hrw
                refine bodyPost_ret (v := .tuple #[.slice ra acc.length rc, .agg #[.slice ao5 q cap5, .int .i64 q], .int .i64 0]) (by simp only [results, Try.results18]; generalize World.setCell (World.setCell _ _ _) _ _ = WW at *; simp [go_sem, y0, y1]) rfl ?_
                unfold RecPost
                have hl : (xs.take q).length = q := by have := NL.out; simp; omega
                rw [← E1.out, ← E2.out, show min s (q : Int) = q by omega, hl]
                exact ⟨ra, rc, ao5, cap5, rfl, ((HBW.out.trans (HBJ.out.mono (by omega))).setCell (p := ⟨w.heap.size + 1, 0, none⟩) (by show w.heap.size ≤ w.heap.size + 1; omega) _).setCell (p := ⟨w.heap.size + 1, 1, none⟩) (by show w.heap.size ≤ w.heap.size + 1; omega) _,
                  ((((HSA.out.below actF_firm HBJ.out).setLow actF_firm (p := ⟨w.heap.size + 1, 0, none⟩) (by show w.heap.size + 1 < _; omega) _).setLow actF_firm (p := ⟨w.heap.size + 1, 1, none⟩) (by show w.heap.size + 1 < _; omega) _)).above actF_firm (by omega),
                  (((HSJ.out.setLow byteF_firm (p := ⟨w.heap.size + 1, 0, none⟩) (by show w.heap.size + 1 < _; omega) _).setLow byteF_firm (p := ⟨w.heap.size + 1, 1, none⟩) (by show w.heap.size + 1 < _; omega) _)).above byteF_firm (by omega)⟩
          · have N1' : (0 : Int) < N := by omega
            obtain ⟨c, r, _, hc0, gc, ofc, hix, hglt, d0⟩ := hxi.resolve_left hB1
            clear hxi hB1
            go_wp2_with fail
            refine HD.out.mono ?_
            rintro e w2 ⟨ao2, cap2, rfl, hb2, hS2⟩
            have hs2 := hb2.size
            simp only [World.size_alloc] at hs2 hS2
            have hrb : w2.heap[wq.heap.size]? = some (.cells #[.int .i64 0, .int .i64 0, .string ⟨#[]⟩, .int .i64 0, .int .i64 0, .slice none 0 0, .int .i64 0, .bool false, .int .i64 0, .string ⟨#[]⟩] 41) := (hb2.block _ (by simp)).trans (heap_alloc_new wq (.cells #[.int .i64 0, .int .i64 0, .string ⟨#[]⟩, .int .i64 0, .int .i64 0, .slice none 0 0, .int .i64 0, .bool false, .int .i64 0, .string ⟨#[]⟩] 41))
            have hxb : w2.heap[w.heap.size]? = some (.cells #[.slice ao n cap, .int .i64 s] 39) := (hb2.block _ (by simp; omega)).trans ((Below.heap_alloc _ _ _ (by omega)).trans HXQ.out)
            go_upto_region 15 with fail
            have HW1 : Hid ((w2.alloc (.cells #[.int .i64 k', .string t, .int .i64 st, .int .i64 sp, .slice ao2 vs.length cap2, .int .i64 d, .bool cb] 33)).heap[wq.heap.size]? = some (.cells #[.int .i64 0, .int .i64 0, .string ⟨#[]⟩, .int .i64 0, .int .i64 0, .slice none 0 0, .int .i64 0, .bool false, .int .i64 0, .string ⟨#[]⟩] 41)) := (Below.heap_alloc _ _ _ (by omega)).trans hrb
            have HX2 : Hid ((w2.alloc (.cells #[.int .i64 k', .string t, .int .i64 st, .int .i64 sp, .slice ao2 vs.length cap2, .int .i64 d, .bool cb] 33)).heap[w.heap.size]? = some (.cells #[.slice ao n cap, .int .i64 s] 39)) := (Below.heap_alloc _ _ _ (by omega)).trans hxb
            have hW2 := heap_alloc_new w2 (.cells #[.int .i64 k', .string t, .int .i64 st, .int .i64 sp, .slice ao2 vs.length cap2, .int .i64 d, .bool cb] 33)
            have HB2 : Hid (Below wr.heap.size wr (w2.alloc (.cells #[.int .i64 k', .string t, .int .i64 st, .int .i64 sp, .slice ao2 vs.length cap2, .int .i64 d, .bool cb] 33))) := (((HWb.out.alloc (by omega) _).trans (hb2.mono (by simp; omega)))).alloc (by omega) _
            have HS2 := Lib.hid (hS2.below valF_firm (Joins.below_alloc1 w2 (.cells #[.int .i64 k', .string t, .int .i64 st, .int .i64 sp, .slice ao2 vs.length cap2, .int .i64 d, .bool cb] 33)))
            have hl2 : w2.heap.size < (w2.alloc (.cells #[.int .i64 k', .string t, .int .i64 st, .int .i64 sp, .slice ao2 vs.length cap2, .int .i64 d, .bool cb] 33)).heap.size := by simp
            have hl3 : wq.heap.size < (w2.alloc (.cells #[.int .i64 k', .string t, .int .i64 st, .int .i64 sp, .slice ao2 vs.length cap2, .int .i64 d, .bool cb] 33)).heap.size := by simp; omega
            generalize w2.alloc (.cells #[.int .i64 k', .string t, .int .i64 st, .int .i64 sp, .slice ao2 vs.length cap2, .int .i64 d, .bool cb] 33) = W2 at *
            obtain ⟨r0, r1, r2, r3, r4, r5, r6, r7, r8, r9, rf⟩ := ten_cells HW1.out
            obtain ⟨o0, o1, o2, o3, o4, o5, o6, of⟩ := seven_cells hW2
            clear c0 c1 cf
            obtain ⟨c0, c1, cf⟩ := two_of_heap HX2.out
            have lx2 : w.heap.size < W2.heap.size := by omega
            clear hrb hxb hW2 hb2 hS2
            by_cases hE : E = 0
            · subst hE
              have hdK : Hid (decK Bs' = true) := by show _ = _; rw [hdK0.out]; simp
              go_upto_region 17 with fail
              have HA9 : Hid ((((((((((((W2).setCell ⟨wq.heap.size, 0, none⟩ (.int .i64 1)).setCell ⟨wq.heap.size, 1, none⟩ (.int .i64 k')).setCell ⟨wq.heap.size, 2, none⟩ (.string t)).setCell ⟨wq.heap.size, 3, none⟩ (.int .i64 st)).setCell ⟨wq.heap.size, 4, none⟩ (.int .i64 sp)).setCell ⟨wq.heap.size, 5, none⟩ (.slice ao2 vs.length cap2)).setCell ⟨wq.heap.size, 6, none⟩ (.int .i64 d)).setCell ⟨wq.heap.size, 7, none⟩ (.bool cb)).setCell ⟨wq.heap.size, 8, none⟩ (.int .i64 0)).setCell ⟨wq.heap.size, 9, none⟩ (.string ⟨#[]⟩)).heap[wq.heap.size]? = some (.cells #[.int .i64 1, .int .i64 k', .string t, .int .i64 st, .int .i64 sp, .slice ao2 vs.length cap2, .int .i64 d, .bool cb, .int .i64 0, .string ⟨#[]⟩] 41)) := tens_block HW1.out _ _ _ _ _ _ _ _ _ _
              have HB3 : Hid (Below wr.heap.size wr (((((((((((W2).setCell ⟨wq.heap.size, 0, none⟩ (.int .i64 1)).setCell ⟨wq.heap.size, 1, none⟩ (.int .i64 k')).setCell ⟨wq.heap.size, 2, none⟩ (.string t)).setCell ⟨wq.heap.size, 3, none⟩ (.int .i64 st)).setCell ⟨wq.heap.size, 4, none⟩ (.int .i64 sp)).setCell ⟨wq.heap.size, 5, none⟩ (.slice ao2 vs.length cap2)).setCell ⟨wq.heap.size, 6, none⟩ (.int .i64 d)).setCell ⟨wq.heap.size, 7, none⟩ (.bool cb)).setCell ⟨wq.heap.size, 8, none⟩ (.int .i64 0)).setCell ⟨wq.heap.size, 9, none⟩ (.string ⟨#[]⟩))) := below_tens HB2.out hsq0 _ _ _ _ _ _ _ _ _ _
              have HS3 : Hid (SlF (from_ wr.heap.size) (((((((((((W2).setCell ⟨wq.heap.size, 0, none⟩ (.int .i64 1)).setCell ⟨wq.heap.size, 1, none⟩ (.int .i64 k')).setCell ⟨wq.heap.size, 2, none⟩ (.string t)).setCell ⟨wq.heap.size, 3, none⟩ (.int .i64 st)).setCell ⟨wq.heap.size, 4, none⟩ (.int .i64 sp)).setCell ⟨wq.heap.size, 5, none⟩ (.slice ao2 vs.length cap2)).setCell ⟨wq.heap.size, 6, none⟩ (.int .i64 d)).setCell ⟨wq.heap.size, 7, none⟩ (.bool cb)).setCell ⟨wq.heap.size, 8, none⟩ (.int .i64 0)).setCell ⟨wq.heap.size, 9, none⟩ (.string ⟨#[]⟩)) 3 valF ao2 vs.length cap2 vs) := (HS2.out.tens valF_firm (by omega) _ _ _ _ _ _ _ _ _ _).above valF_firm (by omega)
              have hxr3 : (((((((((((W2).setCell ⟨wq.heap.size, 0, none⟩ (.int .i64 1)).setCell ⟨wq.heap.size, 1, none⟩ (.int .i64 k')).setCell ⟨wq.heap.size, 2, none⟩ (.string t)).setCell ⟨wq.heap.size, 3, none⟩ (.int .i64 st)).setCell ⟨wq.heap.size, 4, none⟩ (.int .i64 sp)).setCell ⟨wq.heap.size, 5, none⟩ (.slice ao2 vs.length cap2)).setCell ⟨wq.heap.size, 6, none⟩ (.int .i64 d)).setCell ⟨wq.heap.size, 7, none⟩ (.bool cb)).setCell ⟨wq.heap.size, 8, none⟩ (.int .i64 0)).setCell ⟨wq.heap.size, 9, none⟩ (.string ⟨#[]⟩)).heap[w.heap.size]? = some (.cells #[.slice ao n cap, .int .i64 s] 39) := ((below_tens (g := wq.heap.size) (Below.refl wq.heap.size W2) (Nat.le_refl _) _ _ _ _ _ _ _ _ _ _).block _ (by omega)).trans HX2.out
              generalize ((((((((((W2).setCell ⟨wq.heap.size, 0, none⟩ (.int .i64 1)).setCell ⟨wq.heap.size, 1, none⟩ (.int .i64 k')).setCell ⟨wq.heap.size, 2, none⟩ (.string t)).setCell ⟨wq.heap.size, 3, none⟩ (.int .i64 st)).setCell ⟨wq.heap.size, 4, none⟩ (.int .i64 sp)).setCell ⟨wq.heap.size, 5, none⟩ (.slice ao2 vs.length cap2)).setCell ⟨wq.heap.size, 6, none⟩ (.int .i64 d)).setCell ⟨wq.heap.size, 7, none⟩ (.bool cb)).setCell ⟨wq.heap.size, 8, none⟩ (.int .i64 0)).setCell ⟨wq.heap.size, 9, none⟩ (.string ⟨#[]⟩) = W3 at *
              clear c0 c1 cf r0 r1 r2 r3 r4 r5 r6 r7 r8 r9 rf o0 o1 o2 o3 o4 o5 o6 of
              obtain ⟨c0, c1, cf⟩ := two_of_heap hxr3
              have lx3 : w.heap.size < W3.heap.size := (Array.getElem?_eq_some_iff.1 hxr3).1
              clear hxr3
              obtain ⟨a0, a1, a2, a3, a4, a5, a6, a7, a8, a9, af⟩ := ten_cells HA9.out
              have hl9 : wq.heap.size < W3.heap.size := (Array.getElem?_eq_some_iff.1 HA9.out).1
              obtain ⟨j, hj⟩ : ∃ j, k = j + 1 := ⟨k - 1, by omega⟩
              have X0 := XS0.out j hj hdK.out
              rw [hdA.out] at X0
              have XX2 : Hid ((acc ++ [(⟨1, ⟨k', t, st, sp, d, cb⟩, 0, ⟨#[]⟩⟩, vs)]) ++ (recF j xs (q + 2 + N)).1 = V.1) := by show _ = _; rw [← XX.out, X0]; simp
              have YY2 : Hid ((recF j xs (q + 2 + N)).2 = V.2) := by show _ = _; rw [← YY.out, X0]
              clear XX YY X0 XS0 XE0
              have hs3 := HB3.out.size
              have hBA : Below wr.heap.size wr (W3.alloc (.cells #[.int .i64 1, .int .i64 k', .string t, .int .i64 st, .int .i64 sp, .slice ao2 vs.length cap2, .int .i64 d, .bool cb, .int .i64 0, .string ⟨#[]⟩] 41)) := HB3.out.alloc (by omega) _
              have HOA := Lib.hid (HO.out.below actF_firm hBA)
              have HBA := Lib.hid hBA
              have HSA := Lib.hid ((HS3.out.below valF_firm (Joins.below_alloc1 W3 (.cells #[.int .i64 1, .int .i64 k', .string t, .int .i64 st, .int .i64 sp, .slice ao2 vs.length cap2, .int .i64 d, .bool cb, .int .i64 0, .string ⟨#[]⟩] 41))).wide (G := off_ (from_ w1.heap.size) (.slice ra acc.length rc)) valF_firm (fun b hb _ => ⟨Nat.le_trans (by omega) hb, HO.out.lt hb⟩))
              have CN : Hid (∀ q y, (Ac.cells ⟨1, ⟨k', t, st, sp, d, cb⟩, 0, ⟨#[]⟩⟩ (.slice ao2 vs.length cap2))[q]? = some y → World.cell? (W3.alloc (.cells #[.int .i64 1, .int .i64 k', .string t, .int .i64 st, .int .i64 sp, .slice ao2 vs.length cap2, .int .i64 d, .bool cb, .int .i64 0, .string ⟨#[]⟩] 41)) ((⟨W3.heap.size, 0, none⟩ : Addr).add q) = some y) := by
                show ∀ q y, _
                intro q y hu
                rw [Go.WideShapes.add_plain, Nat.zero_add, Lib.cell_of_heap (heap_alloc_new W3 (.cells #[.int .i64 1, .int .i64 k', .string t, .int .i64 st, .int .i64 sp, .slice ao2 vs.length cap2, .int .i64 d, .bool cb, .int .i64 0, .string ⟨#[]⟩] 41))]
                simpa [Ac.cells] using hu
              have hacl : (acc.length + 1) * 112 ≤ 140737488355328 := by omega
              clear hBA
              go_wp2_with (first
                | (at_builtin; go_loud (refine wpList_append_F rfl _ _ 47 rfl w1.heap.size 41 i0 (.agg #[.int .i64 0, .int .i64 0, .string ByteArray.empty, .int .i64 0, .int .i64 0, .slice none 0 0, .int .i64 0, .bool false, .int .i64 0, .string ByteArray.empty]) 10 112 Try.underlying47 hi hz0 hz1 hz2 rfl (by decide) _ acc.length rfl HOA.out rfl actF_firm (⟨1, ⟨k', t, st, sp, d, cb⟩, 0, ⟨#[]⟩⟩, vs) (Ac.cells ⟨1, ⟨k', t, st, sp, d, cb⟩, 0, ⟨#[]⟩⟩ (.slice ao2 vs.length cap2)) ⟨W3.heap.size, 0, none⟩ rfl rfl CN.out (fun u hu => by simp [Ac.cells] at hu; rcases hu with rfl | rfl | rfl | rfl | rfl | rfl | rfl | rfl | rfl | rfl <;> rfl) ⟨ao2, cap2, rfl, HSA.out, DL.out.1, DL.out.2⟩ hacl (by decide) (by simp; omega) ?_; intro ra2 rc2 w5 hown' hgrow hb5))
                | fail)
              exact ⟨⟨acc ++ [(⟨1, ⟨k', t, st, sp, d, cb⟩, 0, ⟨#[]⟩⟩, vs)], q + 2 + N, j, by go_num, h3, by omega, by simp; omega, HBR.out.trans ((HBA.out.mono (by omega)).trans hb5), by simpa using hown', XX2, YY2⟩, by simp [intOf]; omega⟩
            · have hE1 : (E == 0) = false := by simpa using hE
              have hdK : Hid (decK Bs' = false) := by show _ = _; rw [hdK0.out]; simpa using hE
              go_upto_region 17 with fail
              have HA9 : Hid ((((((((((((W2).setCell ⟨wq.heap.size, 0, none⟩ (.int .i64 1)).setCell ⟨wq.heap.size, 1, none⟩ (.int .i64 k')).setCell ⟨wq.heap.size, 2, none⟩ (.string t)).setCell ⟨wq.heap.size, 3, none⟩ (.int .i64 st)).setCell ⟨wq.heap.size, 4, none⟩ (.int .i64 sp)).setCell ⟨wq.heap.size, 5, none⟩ (.slice ao2 vs.length cap2)).setCell ⟨wq.heap.size, 6, none⟩ (.int .i64 d)).setCell ⟨wq.heap.size, 7, none⟩ (.bool cb)).setCell ⟨wq.heap.size, 8, none⟩ (.int .i64 0)).setCell ⟨wq.heap.size, 9, none⟩ (.string ⟨#[]⟩)).heap[wq.heap.size]? = some (.cells #[.int .i64 1, .int .i64 k', .string t, .int .i64 st, .int .i64 sp, .slice ao2 vs.length cap2, .int .i64 d, .bool cb, .int .i64 0, .string ⟨#[]⟩] 41)) := tens_block HW1.out _ _ _ _ _ _ _ _ _ _
              have HB3 : Hid (Below wr.heap.size wr (((((((((((W2).setCell ⟨wq.heap.size, 0, none⟩ (.int .i64 1)).setCell ⟨wq.heap.size, 1, none⟩ (.int .i64 k')).setCell ⟨wq.heap.size, 2, none⟩ (.string t)).setCell ⟨wq.heap.size, 3, none⟩ (.int .i64 st)).setCell ⟨wq.heap.size, 4, none⟩ (.int .i64 sp)).setCell ⟨wq.heap.size, 5, none⟩ (.slice ao2 vs.length cap2)).setCell ⟨wq.heap.size, 6, none⟩ (.int .i64 d)).setCell ⟨wq.heap.size, 7, none⟩ (.bool cb)).setCell ⟨wq.heap.size, 8, none⟩ (.int .i64 0)).setCell ⟨wq.heap.size, 9, none⟩ (.string ⟨#[]⟩))) := below_tens HB2.out hsq0 _ _ _ _ _ _ _ _ _ _
              have HS3 : Hid (SlF (from_ wr.heap.size) (((((((((((W2).setCell ⟨wq.heap.size, 0, none⟩ (.int .i64 1)).setCell ⟨wq.heap.size, 1, none⟩ (.int .i64 k')).setCell ⟨wq.heap.size, 2, none⟩ (.string t)).setCell ⟨wq.heap.size, 3, none⟩ (.int .i64 st)).setCell ⟨wq.heap.size, 4, none⟩ (.int .i64 sp)).setCell ⟨wq.heap.size, 5, none⟩ (.slice ao2 vs.length cap2)).setCell ⟨wq.heap.size, 6, none⟩ (.int .i64 d)).setCell ⟨wq.heap.size, 7, none⟩ (.bool cb)).setCell ⟨wq.heap.size, 8, none⟩ (.int .i64 0)).setCell ⟨wq.heap.size, 9, none⟩ (.string ⟨#[]⟩)) 3 valF ao2 vs.length cap2 vs) := (HS2.out.tens valF_firm (by omega) _ _ _ _ _ _ _ _ _ _).above valF_firm (by omega)
              have hxr3 : (((((((((((W2).setCell ⟨wq.heap.size, 0, none⟩ (.int .i64 1)).setCell ⟨wq.heap.size, 1, none⟩ (.int .i64 k')).setCell ⟨wq.heap.size, 2, none⟩ (.string t)).setCell ⟨wq.heap.size, 3, none⟩ (.int .i64 st)).setCell ⟨wq.heap.size, 4, none⟩ (.int .i64 sp)).setCell ⟨wq.heap.size, 5, none⟩ (.slice ao2 vs.length cap2)).setCell ⟨wq.heap.size, 6, none⟩ (.int .i64 d)).setCell ⟨wq.heap.size, 7, none⟩ (.bool cb)).setCell ⟨wq.heap.size, 8, none⟩ (.int .i64 0)).setCell ⟨wq.heap.size, 9, none⟩ (.string ⟨#[]⟩)).heap[w.heap.size]? = some (.cells #[.slice ao n cap, .int .i64 s] 39) := ((below_tens (g := wq.heap.size) (Below.refl wq.heap.size W2) (Nat.le_refl _) _ _ _ _ _ _ _ _ _ _).block _ (by omega)).trans HX2.out
              generalize ((((((((((W2).setCell ⟨wq.heap.size, 0, none⟩ (.int .i64 1)).setCell ⟨wq.heap.size, 1, none⟩ (.int .i64 k')).setCell ⟨wq.heap.size, 2, none⟩ (.string t)).setCell ⟨wq.heap.size, 3, none⟩ (.int .i64 st)).setCell ⟨wq.heap.size, 4, none⟩ (.int .i64 sp)).setCell ⟨wq.heap.size, 5, none⟩ (.slice ao2 vs.length cap2)).setCell ⟨wq.heap.size, 6, none⟩ (.int .i64 d)).setCell ⟨wq.heap.size, 7, none⟩ (.bool cb)).setCell ⟨wq.heap.size, 8, none⟩ (.int .i64 0)).setCell ⟨wq.heap.size, 9, none⟩ (.string ⟨#[]⟩) = W3 at *
              clear c0 c1 cf r0 r1 r2 r3 r4 r5 r6 r7 r8 r9 rf o0 o1 o2 o3 o4 o5 o6 of
              obtain ⟨c0, c1, cf⟩ := two_of_heap hxr3
              have lx3 : w.heap.size < W3.heap.size := (Array.getElem?_eq_some_iff.1 hxr3).1
              clear hxr3
              obtain ⟨a0, a1, a2, a3, a4, a5, a6, a7, a8, a9, af⟩ := ten_cells HA9.out
              have hl9 : wq.heap.size < W3.heap.size := (Array.getElem?_eq_some_iff.1 HA9.out).1
              have E0 : Hid (recF k xs q = ([], q)) := XE0.out hdK.out
              go_upto_region 20 with fail
              have hb3 := HB3.out
              have hs3 := hb3.size
              clear c0 c1 cf a0 a1 a2 a3 a4 a5 a6 a7 a8 a9 af
              have E1 : Hid (acc = V.1) := by show _ = _; rw [← XX.out, E0.out]; simp
              have E2 : Hid (q = V.2) := by show _ = _; rw [← YY.out, E0.out]
              have hcut := fun wx => run_upto (P := Try.prog) Try.underlying34 size_byte ao n cap q (by have := HX1.out.le; omega) wx
              have HBX : Below w1.heap.size w1 (W3) := HBR.out.trans (hb3.mono (by omega))
              have hsx : w1.heap.size ≤ (W3).heap.size := HBX.size
              have hx2 : (W3).heap[w.heap.size]? = some (.cells #[.slice ao n cap, .int .i64 s] 39) := (HBX.block _ (by omega)).trans HG0.out
              have hr2 : (W3).heap[w.heap.size + 1]? = some (.cells #[.slice none 0 0, .int .i64 0] 39) := (HBX.block _ (by omega)).trans HG1.out
              obtain ⟨a2, c2, e2, hS2⟩ := OwnF.done (HO.out.below actF_firm hb3) actF_firm (G := from_ w1.heap.size) (by omega) (fun b _ h => h.elim id id)
              injection e2 with e3 _ e4
              subst e3 e4
              have hJ := joined_any F (fun _ => True) ao q cap (xs.take q) none 0 0 [] (W3) ((HX1.out.below byteF_firm HBX).take q cap hqn (by have := HX1.out.le; omega) (Nat.le_refl _)) SlF.nil (by omega)
              have hbw := HB0.out.trans (HBX.mono (by omega))
              generalize hWX : W3 = WX at *
              obtain ⟨x0, x1, xf⟩ := two_of_heap hx2
              have HR2 := Lib.hid hr2
              have HSA := Lib.hid hS2
              have HBW := Lib.hid hbw
              simp only [Nat.add_zero, List.append_nil] at hJ
              have HJ := Lib.hid hJ
              have hlw : w.heap.size + 1 < WX.heap.size := by omega
              have hlx : w.heap.size < WX.heap.size := by omega
              clear hx2 hr2 hS2 hbw HBX hsx hJ
              rcases (show s ≤ (q : Int) ∨ (q : Int) < s by omega) with hsq | hsq
              · go_wp2_with fail
                refine HJ.out.mono ?_
                rintro e wj ⟨ao5, cap5, rfl, hb5, hS5⟩
                have hs5 := hb5.size
                have hrj : wj.heap[w.heap.size + 1]? = _ := (hb5.block _ hlw).trans HR2.out
                obtain ⟨j0, j1, jf⟩ := two_of_heap hrj
                have hlj : w.heap.size + 1 < wj.heap.size := by omega
                have HSJ := Lib.hid hS5
                have HBJ := Lib.hid hb5
                have HRJ := Lib.hid hrj
                clear hrj hS5 hb5
                go_wp2
                have hrw := set_two1 (u := .int .i64 s) (set_two0 (u := .slice ao5 q cap5) HRJ.out)
                obtain ⟨y0, y1, yf⟩ := two_of_heap hrw
                refine bodyPost_ret (v := .tuple #[.slice ra acc.length rc, .agg #[.slice ao5 q cap5, .int .i64 s], .int .i64 0]) (by simp only [results, Try.results18]; generalize World.setCell (World.setCell _ _ _) _ _ = WW at *; simp [go_sem, y0, y1]) rfl ?_
                unfold RecPost
                have hl : (xs.take q).length = q := by have := NL.out; simp; omega
                rw [← E1.out, ← E2.out, show min s (q : Int) = s by omega, hl]
                exact ⟨ra, rc, ao5, cap5, rfl, ((HBW.out.trans (HBJ.out.mono (by omega))).setCell (p := ⟨w.heap.size + 1, 0, none⟩) (by show w.heap.size ≤ w.heap.size + 1; omega) _).setCell (p := ⟨w.heap.size + 1, 1, none⟩) (by show w.heap.size ≤ w.heap.size + 1; omega) _,
                  ((((HSA.out.below actF_firm HBJ.out).setLow actF_firm (p := ⟨w.heap.size + 1, 0, none⟩) (by show w.heap.size + 1 < _; omega) _).setLow actF_firm (p := ⟨w.heap.size + 1, 1, none⟩) (by show w.heap.size + 1 < _; omega) _)).above actF_firm (by omega),
                  (((HSJ.out.setLow byteF_firm (p := ⟨w.heap.size + 1, 0, none⟩) (by show w.heap.size + 1 < _; omega) _).setLow byteF_firm (p := ⟨w.heap.size + 1, 1, none⟩) (by show w.heap.size + 1 < _; omega) _)).above byteF_firm (by omega)⟩
              · go_wp2_with fail
                refine HJ.out.mono ?_
                rintro e wj ⟨ao5, cap5, rfl, hb5, hS5⟩
                have hs5 := hb5.size
                have hrj : wj.heap[w.heap.size + 1]? = _ := (hb5.block _ hlw).trans HR2.out
                obtain ⟨j0, j1, jf⟩ := two_of_heap hrj
                have hlj : w.heap.size + 1 < wj.heap.size := by omega
                have HSJ := Lib.hid hS5
                have HBJ := Lib.hid hb5
                have HRJ := Lib.hid hrj
                clear hrj hS5 hb5
                go_wp2
                have hrw := set_two1 (u := .int .i64 q) (set_two0 (u := .slice ao5 q cap5) HRJ.out)
                obtain ⟨y0, y1, yf⟩ := two_of_heap hrw
                refine bodyPost_ret (v := .tuple #[.slice ra acc.length rc, .agg #[.slice ao5 q cap5, .int .i64 q], .int .i64 0]) (by simp only [results, Try.results18]; generalize World.setCell (World.setCell _ _ _) _ _ = WW at *; simp [go_sem, y0, y1]) rfl ?_
                unfold RecPost
                have hl : (xs.take q).length = q := by have := NL.out; simp; omega
                rw [← E1.out, ← E2.out, show min s (q : Int) = q by omega, hl]
                exact ⟨ra, rc, ao5, cap5, rfl, ((HBW.out.trans (HBJ.out.mono (by omega))).setCell (p := ⟨w.heap.size + 1, 0, none⟩) (by show w.heap.size ≤ w.heap.size + 1; omega) _).setCell (p := ⟨w.heap.size + 1, 1, none⟩) (by show w.heap.size ≤ w.heap.size + 1; omega) _,
                  ((((HSA.out.below actF_firm HBJ.out).setLow actF_firm (p := ⟨w.heap.size + 1, 0, none⟩) (by show w.heap.size + 1 < _; omega) _).setLow actF_firm (p := ⟨w.heap.size + 1, 1, none⟩) (by show w.heap.size + 1 < _; omega) _)).above actF_firm (by omega),
                  (((HSJ.out.setLow byteF_firm (p := ⟨w.heap.size + 1, 0, none⟩) (by show w.heap.size + 1 < _; omega) _).setLow byteF_firm (p := ⟨w.heap.size + 1, 1, none⟩) (by show w.heap.size + 1 < _; omega) _)).above byteF_firm (by omega)⟩
      · have E0 : Hid (recF k xs q = ([], q)) := recF_end (fun h => by have := NL.out; rw [← NN.out] at h; omega)
        have h3' : (n : Int) < (q : Int) + 2 + 256 * ca.toNat + cb.toNat := by omega
        clear hN
        go_wp2_with fail
        go_quiet (fail)
        go_upto_region 20 with fail
        clear c0 c1 cf da db hixa hixb
        have E1 : Hid (acc = V.1) := by show _ = _; rw [← XX.out, E0.out]; simp
        have E2 : Hid (q = V.2) := by show _ = _; rw [← YY.out, E0.out]
        have hcut := fun wx => run_upto (P := Try.prog) Try.underlying34 size_byte ao n cap q (by have := HX1.out.le; omega) wx
        have HBX : Below w1.heap.size w1 (wr.drewN nq) := HBR.out.trans ((Joins.below_draws wr.heap.size wr nq).mono (by omega))
        have hsx : w1.heap.size ≤ (wr.drewN nq).heap.size := HBX.size
        have hx2 : (wr.drewN nq).heap[w.heap.size]? = some (.cells #[.slice ao n cap, .int .i64 s] 39) := (HBX.block _ (by omega)).trans HG0.out
        have hr2 : (wr.drewN nq).heap[w.heap.size + 1]? = some (.cells #[.slice none 0 0, .int .i64 0] 39) := (HBX.block _ (by omega)).trans HG1.out
        obtain ⟨a2, c2, e2, hS2⟩ := OwnF.done (HO.out.below actF_firm (Joins.below_draws wr.heap.size wr nq)) actF_firm (G := from_ w1.heap.size) (by omega) (fun b _ h => h.elim id id)
        injection e2 with e3 _ e4
        subst e3 e4
        have hJ := joined_any F (fun _ => True) ao q cap (xs.take q) none 0 0 [] (wr.drewN nq) ((HX1.out.below byteF_firm HBX).take q cap hqn (by have := HX1.out.le; omega) (Nat.le_refl _)) SlF.nil (by omega)
        have hbw := HB0.out.trans (HBX.mono (by omega))
        generalize hWX : wr.drewN nq = WX at *
        obtain ⟨x0, x1, xf⟩ := two_of_heap hx2
        have HR2 := Lib.hid hr2
        have HSA := Lib.hid hS2
        have HBW := Lib.hid hbw
        simp only [Nat.add_zero, List.append_nil] at hJ
        have HJ := Lib.hid hJ
        have hlw : w.heap.size + 1 < WX.heap.size := by omega
        have hlx : w.heap.size < WX.heap.size := by omega
        clear hx2 hr2 hS2 hbw HBX hsx hJ
        rcases (show s ≤ (q : Int) ∨ (q : Int) < s by omega) with hsq | hsq
        · go_wp2_with fail
          refine HJ.out.mono ?_
          rintro e wj ⟨ao5, cap5, rfl, hb5, hS5⟩
          have hs5 := hb5.size
          have hrj : wj.heap[w.heap.size + 1]? = _ := (hb5.block _ hlw).trans HR2.out
          obtain ⟨j0, j1, jf⟩ := two_of_heap hrj
          have hlj : w.heap.size + 1 < wj.heap.size := by omega
          have HSJ := Lib.hid hS5
          have HBJ := Lib.hid hb5
          have HRJ := Lib.hid hrj
          clear hrj hS5 hb5
          go_wp2
          have hrw := set_two1 (u := .int .i64 s) (set_two0 (u := .slice ao5 q cap5) HRJ.out)
          obtain ⟨y0, y1, yf⟩ := two_of_heap hrw
          refine bodyPost_ret (v := .tuple #[.slice ra acc.length rc, .agg #[.slice ao5 q cap5, .int .i64 s], .int .i64 0]) (by simp only [results, Try.results18]; generalize World.setCell (World.setCell _ _ _) _ _ = WW at *; simp [go_sem, y0, y1]) rfl ?_
          unfold RecPost
          have hl : (xs.take q).length = q := by have := NL.out; simp; omega
          rw [← E1.out, ← E2.out, show min s (q : Int) = s by omega, hl]
          exact ⟨ra, rc, ao5, cap5, rfl, ((HBW.out.trans (HBJ.out.mono (by omega))).setCell (p := ⟨w.heap.size + 1, 0, none⟩) (by show w.heap.size ≤ w.heap.size + 1; omega) _).setCell (p := ⟨w.heap.size + 1, 1, none⟩) (by show w.heap.size ≤ w.heap.size + 1; omega) _,
            ((((HSA.out.below actF_firm HBJ.out).setLow actF_firm (p := ⟨w.heap.size + 1, 0, none⟩) (by show w.heap.size + 1 < _; omega) _).setLow actF_firm (p := ⟨w.heap.size + 1, 1, none⟩) (by show w.heap.size + 1 < _; omega) _)).above actF_firm (by omega),
            (((HSJ.out.setLow byteF_firm (p := ⟨w.heap.size + 1, 0, none⟩) (by show w.heap.size + 1 < _; omega) _).setLow byteF_firm (p := ⟨w.heap.size + 1, 1, none⟩) (by show w.heap.size + 1 < _; omega) _)).above byteF_firm (by omega)⟩
        · go_wp2_with fail
          refine HJ.out.mono ?_
          rintro e wj ⟨ao5, cap5, rfl, hb5, hS5⟩
          have hs5 := hb5.size
          have hrj : wj.heap[w.heap.size + 1]? = _ := (hb5.block _ hlw).trans HR2.out
          obtain ⟨j0, j1, jf⟩ := two_of_heap hrj
          have hlj : w.heap.size + 1 < wj.heap.size := by omega
          have HSJ := Lib.hid hS5
          have HBJ := Lib.hid hb5
          have HRJ := Lib.hid hrj
          clear hrj hS5 hb5
          go_wp2
          have hrw := set_two1 (u := .int .i64 q) (set_two0 (u := .slice ao5 q cap5) HRJ.out)
          obtain ⟨y0, y1, yf⟩ := two_of_heap hrw
          refine bodyPost_ret (v := .tuple #[.slice ra acc.length rc, .agg #[.slice ao5 q cap5, .int .i64 q], .int .i64 0]) (by simp only [results, Try.results18]; generalize World.setCell (World.setCell _ _ _) _ _ = WW at *; simp [go_sem, y0, y1]) rfl ?_
          unfold RecPost
          have hl : (xs.take q).length = q := by have := NL.out; simp; omega
          rw [← E1.out, ← E2.out, show min s (q : Int) = q by omega, hl]
          exact ⟨ra, rc, ao5, cap5, rfl, ((HBW.out.trans (HBJ.out.mono (by omega))).setCell (p := ⟨w.heap.size + 1, 0, none⟩) (by show w.heap.size ≤ w.heap.size + 1; omega) _).setCell (p := ⟨w.heap.size + 1, 1, none⟩) (by show w.heap.size ≤ w.heap.size + 1; omega) _,
            ((((HSA.out.below actF_firm HBJ.out).setLow actF_firm (p := ⟨w.heap.size + 1, 0, none⟩) (by show w.heap.size + 1 < _; omega) _).setLow actF_firm (p := ⟨w.heap.size + 1, 1, none⟩) (by show w.heap.size + 1 < _; omega) _)).above actF_firm (by omega),
            (((HSJ.out.setLow byteF_firm (p := ⟨w.heap.size + 1, 0, none⟩) (by show w.heap.size + 1 < _; omega) _).setLow byteF_firm (p := ⟨w.heap.size + 1, 1, none⟩) (by show w.heap.size + 1 < _; omega) _)).above byteF_firm (by omega)⟩
    · have E0 : Hid (recF k xs q = ([], q)) := recF_end (fun h => by have := NL.out; omega)
      have h2' : ¬ (q : Int) + 2 ≤ n := by omega
      go_upto_region 20 with fail
      clear c0 c1 cf
      have E1 : Hid (acc = V.1) := by show _ = _; rw [← XX.out, E0.out]; simp
      have E2 : Hid (q = V.2) := by show _ = _; rw [← YY.out, E0.out]
      have hcut := fun wx => run_upto (P := Try.prog) Try.underlying34 size_byte ao n cap q (by have := HX1.out.le; omega) wx
      have HBX : Below w1.heap.size w1 (wr) := HBR.out
      have hsx : w1.heap.size ≤ (wr).heap.size := HBX.size
      have hx2 : (wr).heap[w.heap.size]? = some (.cells #[.slice ao n cap, .int .i64 s] 39) := (HBX.block _ (by omega)).trans HG0.out
      have hr2 : (wr).heap[w.heap.size + 1]? = some (.cells #[.slice none 0 0, .int .i64 0] 39) := (HBX.block _ (by omega)).trans HG1.out
      obtain ⟨a2, c2, e2, hS2⟩ := OwnF.done (HO.out) actF_firm (G := from_ w1.heap.size) (by omega) (fun b _ h => h.elim id id)
      injection e2 with e3 _ e4
      subst e3 e4
      have hJ := joined_any F (fun _ => True) ao q cap (xs.take q) none 0 0 [] (wr) ((HX1.out.below byteF_firm HBX).take q cap hqn (by have := HX1.out.le; omega) (Nat.le_refl _)) SlF.nil (by omega)
      have hbw := HB0.out.trans (HBX.mono (by omega))
      generalize hWX : wr = WX at *
      obtain ⟨x0, x1, xf⟩ := two_of_heap hx2
      have HR2 := Lib.hid hr2
      have HSA := Lib.hid hS2
      have HBW := Lib.hid hbw
      simp only [Nat.add_zero, List.append_nil] at hJ
      have HJ := Lib.hid hJ
      have hlw : w.heap.size + 1 < WX.heap.size := by omega
      have hlx : w.heap.size < WX.heap.size := by omega
      clear hx2 hr2 hS2 hbw HBX hsx hJ
      rcases (show s ≤ (q : Int) ∨ (q : Int) < s by omega) with hsq | hsq
      · go_wp2_with fail
        refine HJ.out.mono ?_
        rintro e wj ⟨ao5, cap5, rfl, hb5, hS5⟩
        have hs5 := hb5.size
        have hrj : wj.heap[w.heap.size + 1]? = _ := (hb5.block _ hlw).trans HR2.out
        obtain ⟨j0, j1, jf⟩ := two_of_heap hrj
        have hlj : w.heap.size + 1 < wj.heap.size := by omega
        have HSJ := Lib.hid hS5
        have HBJ := Lib.hid hb5
        have HRJ := Lib.hid hrj
        clear hrj hS5 hb5
        go_wp2
        have hrw := set_two1 (u := .int .i64 s) (set_two0 (u := .slice ao5 q cap5) HRJ.out)
        obtain ⟨y0, y1, yf⟩ := two_of_heap hrw
        refine bodyPost_ret (v := .tuple #[.slice ra acc.length rc, .agg #[.slice ao5 q cap5, .int .i64 s], .int .i64 0]) (by simp only [results, Try.results18]; generalize World.setCell (World.setCell _ _ _) _ _ = WW at *; simp [go_sem, y0, y1]) rfl ?_
        unfold RecPost
        have hl : (xs.take q).length = q := by have := NL.out; simp; omega
        rw [← E1.out, ← E2.out, show min s (q : Int) = s by omega, hl]
        exact ⟨ra, rc, ao5, cap5, rfl, ((HBW.out.trans (HBJ.out.mono (by omega))).setCell (p := ⟨w.heap.size + 1, 0, none⟩) (by show w.heap.size ≤ w.heap.size + 1; omega) _).setCell (p := ⟨w.heap.size + 1, 1, none⟩) (by show w.heap.size ≤ w.heap.size + 1; omega) _,
          ((((HSA.out.below actF_firm HBJ.out).setLow actF_firm (p := ⟨w.heap.size + 1, 0, none⟩) (by show w.heap.size + 1 < _; omega) _).setLow actF_firm (p := ⟨w.heap.size + 1, 1, none⟩) (by show w.heap.size + 1 < _; omega) _)).above actF_firm (by omega),
          (((HSJ.out.setLow byteF_firm (p := ⟨w.heap.size + 1, 0, none⟩) (by show w.heap.size + 1 < _; omega) _).setLow byteF_firm (p := ⟨w.heap.size + 1, 1, none⟩) (by show w.heap.size + 1 < _; omega) _)).above byteF_firm (by omega)⟩
      · go_wp2_with fail
        refine HJ.out.mono ?_
        rintro e wj ⟨ao5, cap5, rfl, hb5, hS5⟩
        have hs5 := hb5.size
        have hrj : wj.heap[w.heap.size + 1]? = _ := (hb5.block _ hlw).trans HR2.out
        obtain ⟨j0, j1, jf⟩ := two_of_heap hrj
        have hlj : w.heap.size + 1 < wj.heap.size := by omega
        have HSJ := Lib.hid hS5
        have HBJ := Lib.hid hb5
        have HRJ := Lib.hid hrj
        clear hrj hS5 hb5
        go_wp2
        have hrw := set_two1 (u := .int .i64 q) (set_two0 (u := .slice ao5 q cap5) HRJ.out)
        obtain ⟨y0, y1, yf⟩ := two_of_heap hrw
        refine bodyPost_ret (v := .tuple #[.slice ra acc.length rc, .agg #[.slice ao5 q cap5, .int .i64 q], .int .i64 0]) (by simp only [results, Try.results18]; generalize World.setCell (World.setCell _ _ _) _ _ = WW at *; simp [go_sem, y0, y1]) rfl ?_
        unfold RecPost
        have hl : (xs.take q).length = q := by have := NL.out; simp; omega
        rw [← E1.out, ← E2.out, show min s (q : Int) = q by omega, hl]
        exact ⟨ra, rc, ao5, cap5, rfl, ((HBW.out.trans (HBJ.out.mono (by omega))).setCell (p := ⟨w.heap.size + 1, 0, none⟩) (by show w.heap.size ≤ w.heap.size + 1; omega) _).setCell (p := ⟨w.heap.size + 1, 1, none⟩) (by show w.heap.size ≤ w.heap.size + 1; omega) _,
          ((((HSA.out.below actF_firm HBJ.out).setLow actF_firm (p := ⟨w.heap.size + 1, 0, none⟩) (by show w.heap.size + 1 < _; omega) _).setLow actF_firm (p := ⟨w.heap.size + 1, 1, none⟩) (by show w.heap.size + 1 < _; omega) _)).above actF_firm (by omega),
          (((HSJ.out.setLow byteF_firm (p := ⟨w.heap.size + 1, 0, none⟩) (by show w.heap.size + 1 < _; omega) _).setLow byteF_firm (p := ⟨w.heap.size + 1, 1, none⟩) (by show w.heap.size + 1 < _; omega) _)).above byteF_firm (by omega)⟩
end Go.Proofs.Ytciomaeieggbiaa
