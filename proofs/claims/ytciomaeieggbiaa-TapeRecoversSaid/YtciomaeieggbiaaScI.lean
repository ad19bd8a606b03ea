/-
  The walk of the reference's OperationOf: values put in.
-/
import Derived.Test.YtciomaeieggbiaaScO
namespace Go.Proofs.Ytciomaeieggbiaa
open Go.RowKit
set_option linter.unusedVariables false
set_option linter.unusedSimpArgs false

theorem St.grown {w wr wq : World} {l : List UInt8} {a0 a1 a2 a3 a4 a5 a6 : Value} {s : Sc} {row : Option Nat} (h : St w l a0 a1 a2 a3 a4 a5 a6 s wr) (hg : wr.grownBy wq row) (hr : ∀ g, row = some g → w.heap.size + 1 + 1 < g) (hb : Below w.heap.size wr wq) : St w l a0 a1 a2 a3 a4 a5 a6 s wq :=
  ⟨h.scn.grown hg (fun g e => by have := hr g e; omega), (hg.block _ (Array.getElem?_eq_some_iff.1 h.res).1 (fun e => by have := hr _ e.symm; omega)).trans h.res, (hg.block _ (Array.getElem?_eq_some_iff.1 h.op).1 (fun e => by have := hr _ e.symm; omega)).trans h.op, h.bel.trans hb⟩

set_option maxHeartbeats 8000000 in
set_option maxRecDepth 100000 in
theorem opOf_insert (F : Nat → Prop) (ao : Option Addr) (n cap : Nat) (l : List UInt8) (w : World) (hX : SlF F w 1 byteF ao n cap l) (hn : ¬ 20000 < n) (h1 : (Sc.on l).small.1 = 1) : Calls Try.prog 44 #[.slice ao n cap] w (DecPost l w) := by
  obtain rfl : n = l.length := hX.len
  have HL : Hid (l.length ≤ 20000) := by show _ ≤ _; omega
  have hn' : ¬ (20000 : Int) < l.length := by omega
  have S0 := Lib.hid (st_start hX HL.out)
  have HS := Lib.hid (sone_any _ _ _ _ _ S0.out.scn)
  have OPE : Hid ((Sc.on l).op = (Sc.on l).op) := Lib.hid rfl
  conv at OPE => arg 1; rhs; unfold Sc.op
  obtain ⟨i0, hi, hz0, hz1, hz2⟩ := info_parts info_val
  have n2 : ¬ (Sc.on l).small.1 = 2 := by omega
  simp only [if_neg n2, if_pos h1] at OPE
  clear n2
  unfold Sc.list at OPE
  generalize (Sc.on l).small = M at HS h1 OPE
  obtain ⟨k, t⟩ := M
  simp only at HS h1 OPE
  subst h1
  have TL0 := Sc.text_len t
  have HF := fun wx h => Lib.hid (sstr_any (w.heap.size + 1) w.heap.size l t wx h)
  generalize t.text = L at HF TL0 OPE
  obtain ⟨z, t2⟩ := L
  simp only at HF TL0 OPE
  have TL := Lib.hid (text_max TL0)
  clear TL0
  have HF2 := fun wx h => Lib.hid (smany_any (w.heap.size + 1) w.heap.size l t2 wx h)
  generalize t2.long = L at HF2 OPE
  obtain ⟨m1, t3⟩ := L
  simp only at HF2 OPE
  have HF3 := fun wx h => Lib.hid (smany_any (w.heap.size + 1) w.heap.size l t3 wx h)
  generalize t3.long = L at HF3 OPE
  obtain ⟨m2, t4⟩ := L
  simp only at HF3 OPE
  have HF4 := fun wx h => Lib.hid (sone_any (w.heap.size + 1) w.heap.size l t4 wx h)
  have hc := Sc.small_lt t4
  generalize t4.small = L at HF4 hc OPE
  obtain ⟨c, t5⟩ := L
  simp only at HF4 hc OPE
  generalize hV : t5.vals c = V at OPE
  have HV := Lib.hid hV
  clear hV
  have OPV := OPE
  clear OPE
  obtain ⟨n, NN⟩ : ∃ n, Hid (n = l.length) := ⟨_, rfl⟩
  have NL := NN
  rw [← NN.out] at hn' HS S0 ⊢
  clear hX hn NN
  go_enter Try.func44, Try.ntmps44
  go_wp2_with fail
  refine HS.out.mono ?_
  rintro x w1 ⟨rfl, h1, ho1⟩
  have S1 := Lib.hid (S0.out.call h1 ho1)
  obtain ⟨o0, o1, o2, o3, o4, o5, o6, of, lo⟩ := S1.out.ops
  clear h1 ho1
  have S2 := Lib.hid (S1.out.set0 (.int .i64 1))
  go_wp2_with fail
  refine (HF _ S2.out.scn).out.mono ?_
  rintro x w2 ⟨rfl, h2, ho2⟩
  have S3 := Lib.hid ((S2.out.call h2 ho2).set1 (.string z))
  have l2 := ho2.size
  simp only [World.size_setCell] at l2
  have l2' : w.heap.size + 1 + 1 < w2.heap.size := by omega
  clear o0 o1 o2 o3 o4 o5 o6 of lo
  obtain ⟨o0, o1, o2, o3, o4, o5, o6, of, lo⟩ := (S2.out.call h2 ho2).ops
  clear h2 ho2
  go_wp2_with fail
  refine (HF2 _ S3.out.scn).out.mono ?_
  rintro x w3 ⟨rfl, h3, ho3⟩
  have S4 := Lib.hid ((S3.out.call h3 ho3).set2 (.int .i64 m1))
  clear o0 o1 o2 o3 o4 o5 o6 of lo
  obtain ⟨o0, o1, o2, o3, o4, o5, o6, of, lo⟩ := (S3.out.call h3 ho3).ops
  clear h3 ho3
  go_wp2_with fail
  refine (HF3 _ S4.out.scn).out.mono ?_
  rintro x w4 ⟨rfl, h4, ho4⟩
  have S5 := Lib.hid ((S4.out.call h4 ho4).set3 (.int .i64 m2))
  clear o0 o1 o2 o3 o4 o5 o6 of lo
  obtain ⟨o0, o1, o2, o3, o4, o5, o6, of, lo⟩ := (S4.out.call h4 ho4).ops
  clear h4 ho4
  go_wp2_with fail
  refine (HF4 _ S5.out.scn).out.mono ?_
  rintro x w5 ⟨rfl, h5, ho5⟩
  have S6 := Lib.hid (S5.out.call h5 ho5)
  clear o0 o1 o2 o3 o4 o5 o6 of lo
  clear h5 ho5 l2 l2'
  go_wp2_with fail
  go_loopw [8, 9, 10] (fun i v m wr => ∃ (acc : List Val) (t : Sc) (o : Value), i = .int .i64 acc.length ∧ acc.length ≤ c ∧ St w l (.int .i64 1) (.string z) (.int .i64 m1) (.int .i64 m2) o (.int .i64 0) (.bool false) t wr ∧ OwnF nowhere (w.heap.size + 1 + 1 + 1) wr 84 3 valF o acc ∧ Hid (acc ++ (t.vals (c - acc.length)).1 = V.1) ∧ Hid ((t.vals (c - acc.length)).2 = V.2)) (fun i _ _ _ => c - (intOf i).toNat)
  case atStart => exact ⟨[], t5, _, rfl, Nat.zero_le _, S6.out, OwnF.empty, by show _ = _; rw [← HV.out]; simp, by show _ = _; rw [← HV.out]; simp⟩
  case round =>
    obtain ⟨acc, t, o, rfl, hac, hSR, hO, XX, YY⟩ := hrel
    obtain ⟨ra, rc, rfl⟩ := hO.slice
    have SR := Lib.hid hSR
    have HO := Lib.hid hO
    clear hSR hO
    match t with
    | .bad e =>
      have E1 : Hid (acc = V.1) := by show _ = _; rw [← XX.out, vals_bad]; simp
      have E2 : Hid (Sc.bad e = V.2) := by show _ = _; rw [← YY.out, vals_bad]
      have OPE : Hid ((Sc.on l).op = ((⟨1, z, m1, m2, 0, false⟩, acc), .bad e)) := by show _ = _; rw [OPV.out, E1.out, E2.out]
      by_cases hjn : acc.length = c
      · have hjn' : ¬ (acc.length : Int) < c := by omega
        have NE : Hid (e ≠ 0) := SR.out.scn.1
        have DE : Hid (decE l = e) := dec_code_bad OPE.out HL.out
        have q1 : (e == 0) = false := by simpa using NE.out
        have q2 : (e != 0) = true := by simpa using NE.out
        have SF := Lib.hid (SR.out)
        obtain ⟨c2, cf, lb⟩ := SR.out.bad
        obtain ⟨o0, o1, o2, o3, o4, o5, o6, of, lo⟩ := SR.out.ops
        obtain ⟨r0, r1, r2, r3, r4, r5, r6, rf, lr⟩ := SR.out.ress
        go_wp2
        go_region
        go_simp
        first
          | (rename_i K1 h1 K2 h2; apply h2)
          | (rename_i K1 h1 K2 h2 h3; apply h2)
        generalize hWW : World.drew _ = WW
        have hrw : WW.heap[w.heap.size]? = some (.cells #[.int .i64 0, .string ByteArray.empty, .int .i64 0, .int .i64 0, .slice none 0 0, .int .i64 0, .bool false] 33 (0, 0)) := by rw [← hWW]; exact block_drew (sevens_block SF.out.res _ _ _ _ _ _ _)
        go_wp2
        obtain ⟨g0, g1, g2, g3, g4, g5, g6, gf⟩ := seven_cells hrw
        refine bodyPost_ret (v := .tuple #[.agg #[.int .i64 0, .string ByteArray.empty, .int .i64 0, .int .i64 0, .slice none 0 0, .int .i64 0, .bool false], .int .i64 e]) (by simp [results, Try.results44, go_sem, g0, g1, g2, g3, g4, g5, g6]) rfl ?_
        subst hWW
        exact dec_bad (by rw [DE.out]; first | exact NE.out | decide) DE.out rfl (below_sevens SF.out.bel (Nat.le_refl _) _ _ _ _ _ _ _).drew
      · have hjn' : (acc.length : Int) < c := by omega
        have NE : Hid (e ≠ 0) := SR.out.scn.1
        have DE : Hid (decE l = e) := dec_code_bad OPE.out HL.out
        have q1 : (e == 0) = false := by simpa using NE.out
        have q2 : (e != 0) = true := by simpa using NE.out
        have SF := Lib.hid (SR.out)
        obtain ⟨c2, cf, lb⟩ := SR.out.bad
        obtain ⟨o0, o1, o2, o3, o4, o5, o6, of, lo⟩ := SR.out.ops
        obtain ⟨r0, r1, r2, r3, r4, r5, r6, rf, lr⟩ := SR.out.ress
        go_wp2
        go_region
        go_simp
        first
          | (rename_i K1 h1 K2 h2; apply h2)
          | (rename_i K1 h1 K2 h2 h3; apply h2)
        generalize hWW : World.drew _ = WW
        have hrw : WW.heap[w.heap.size]? = some (.cells #[.int .i64 0, .string ByteArray.empty, .int .i64 0, .int .i64 0, .slice none 0 0, .int .i64 0, .bool false] 33 (0, 0)) := by rw [← hWW]; exact block_drew (sevens_block SF.out.res _ _ _ _ _ _ _)
        go_wp2
        obtain ⟨g0, g1, g2, g3, g4, g5, g6, gf⟩ := seven_cells hrw
        refine bodyPost_ret (v := .tuple #[.agg #[.int .i64 0, .string ByteArray.empty, .int .i64 0, .int .i64 0, .slice none 0 0, .int .i64 0, .bool false], .int .i64 e]) (by simp [results, Try.results44, go_sem, g0, g1, g2, g3, g4, g5, g6]) rfl ?_
        subst hWW
        exact dec_bad (by rw [DE.out]; first | exact NE.out | decide) DE.out rfl (below_sevens SF.out.bel (Nat.le_refl _) _ _ _ _ _ _ _).drew
    | .on r =>
      by_cases hjn : acc.length = c
      · subst hjn
        have hac' : ¬ (acc.length : Int) < acc.length := by omega
        have E1 : Hid (acc = V.1) := by show _ = _; rw [← XX.out, Nat.sub_self, vals_none]; simp
        have E2 : Hid (Sc.on r = V.2) := by show _ = _; rw [← YY.out, Nat.sub_self, vals_none]
        have OPE : Hid ((Sc.on l).op = ((⟨1, z, m1, m2, 0, false⟩, acc), .on r)) := by show _ = _; rw [OPV.out, E1.out, E2.out]
        obtain ⟨a2, c2', e2, hS2⟩ := HO.out.done valF_firm (G := from_ (w.heap.size + 1 + 1 + 1)) (by omega) (fun b _ h => h.elim (fun h => h.elim) id)
        injection e2 with e3 _ e4
        subst e3 e4
        have HVS := Lib.hid hS2
        clear hS2
        have SF := Lib.hid (SR.out)
        have HVF := Lib.hid (HVS.out)
        obtain ⟨p, c0, c1, c2, cf, lb, hpl, hpr⟩ := SR.out.on
        obtain ⟨o0, o1, o2, o3, o4, o5, o6, of, lo⟩ := SR.out.ops
        obtain ⟨r0, r1, r2, r3, r4, r5, r6, rf, lr⟩ := SR.out.ress
        rcases Nat.eq_zero_or_pos r.length with hr | hr
        · have hnp : ¬ (p : Int) < n := by have := NL.out; omega
          have DE2 : Hid (decE l = wireE ⟨1, z, m1, m2, 0, false⟩ acc) := dec_code_all OPE.out HL.out (List.eq_nil_of_length_eq_zero hr)
          have EO : Hid (decE l = 0 → decO l = ⟨1, z, m1, m2, 0, false⟩ ∧ decV l = acc) := dec_what OPE.out
          have HW := Lib.hid (wireFault_any ⟨1, z, m1, m2, 0, false⟩ _ _ _ acc _ (TL.out) HVF.out.toR)
          unfold Opn.val at HW
          simp only at HW
          generalize wireE ⟨1, z, m1, m2, 0, false⟩ acc = E at HW DE2
          clear hr hpr
          go_wp2_with fail
          refine HW.out.mono ?_
          rintro x wq ⟨rfl, hbq⟩
          have SQ := Lib.hid (SF.out.below hbq)
          have HVQ := Lib.hid (HVF.out.below valF_firm hbq)
          clear c0 c1 c2 cf lb o0 o1 o2 o3 o4 o5 o6 of lo r0 r1 r2 r3 r4 r5 r6 rf lr
          obtain ⟨p', c0, c1, c2, cf, lb, hpl', hpr'⟩ := SQ.out.on
          obtain ⟨o0, o1, o2, o3, o4, o5, o6, of, lo⟩ := SQ.out.ops
          obtain ⟨r0, r1, r2, r3, r4, r5, r6, rf, lr⟩ := SQ.out.ress
          clear hpl' hpr' hnp
          by_cases hE : E = 0
          · subst hE
            go_wp2
            have hrw := sevens_block ((Below.heap_setCell wq ⟨w.heap.size + 1, 2, none⟩ (.int .i64 0) w.heap.size (by show w.heap.size ≠ w.heap.size + 1; omega)).trans SQ.out.res) (.int .i64 1) (.string z) (.int .i64 m1) (.int .i64 m2) (.slice ra acc.length rc) (.int .i64 0) (.bool false)
            obtain ⟨g0, g1, g2, g3, g4, g5, g6, gf⟩ := seven_cells hrw
            refine bodyPost_ret (v := .tuple #[.agg #[.int .i64 1, .string z, .int .i64 m1, .int .i64 m2, .slice ra acc.length rc, .int .i64 0, .bool false], .int .i64 0]) (by simp only [results, Try.results44]; generalize World.setCell (World.setCell _ _ _) _ _ = WW at *; simp [go_sem, g0, g1, g2, g3, g4, g5, g6]) rfl ?_
            obtain ⟨e1, e2⟩ := EO.out DE2.out
            unfold DecPost
            rw [e1, e2, DE2.out]
            exact ⟨_, _, rfl, below_sevens (SQ.out.bel.setCell (p := ⟨w.heap.size + 1, 2, none⟩) (by show w.heap.size ≤ w.heap.size + 1; omega) _) (Nat.le_refl _) _ _ _ _ _ _ _, (((HVQ.out.setLow valF_firm (p := ⟨w.heap.size + 1, 2, none⟩) (by show w.heap.size + 1 < _; omega) _).sevens valF_firm (by omega) _ _ _ _ _ _ _).above valF_firm (by omega))⟩
          · have q1 : (E == 0) = false := by simpa using hE
            have q2 : (E != 0) = true := by simpa using hE
            have NE := Lib.hid hE
            have DE := DE2
            clear hE
            go_wp2
            go_region
            go_simp
            first
              | (rename_i K1 h1 K2 h2; apply h2)
              | (rename_i K1 h1 K2 h2 h3; apply h2)
            generalize hWW : World.drew _ = WW
            have hrw : WW.heap[w.heap.size]? = some (.cells #[.int .i64 0, .string ByteArray.empty, .int .i64 0, .int .i64 0, .slice none 0 0, .int .i64 0, .bool false] 33 (0, 0)) := by rw [← hWW]; exact block_drew (sevens_block ((Below.heap_setCell wq ⟨w.heap.size + 1, 2, none⟩ (.int .i64 E) w.heap.size (by show w.heap.size ≠ w.heap.size + 1; omega)).trans SQ.out.res) _ _ _ _ _ _ _)
            go_wp2
            obtain ⟨g0, g1, g2, g3, g4, g5, g6, gf⟩ := seven_cells hrw
            refine bodyPost_ret (v := .tuple #[.agg #[.int .i64 0, .string ByteArray.empty, .int .i64 0, .int .i64 0, .slice none 0 0, .int .i64 0, .bool false], .int .i64 E]) (by simp [results, Try.results44, go_sem, g0, g1, g2, g3, g4, g5, g6]) rfl ?_
            subst hWW
            exact dec_bad (by rw [DE.out]; first | exact NE.out | decide) DE.out rfl (below_sevens (SQ.out.bel.setCell (p := ⟨w.heap.size + 1, 2, none⟩) (by show w.heap.size ≤ w.heap.size + 1; omega) _) (Nat.le_refl _) _ _ _ _ _ _ _).drew
        · have hnp : (p : Int) < n := by have := NL.out; omega
          have DE : Hid (decE l = 4) := dec_code_more OPE.out HL.out hr
          have NE : Hid ((4 : Int) ≠ 0) := by show ¬ _ = _; decide
          go_wp2
          go_region
          go_simp
          first
            | (rename_i K1 h1 K2 h2; apply h2)
            | (rename_i K1 h1 K2 h2 h3; apply h2)
          generalize hWW : World.drew _ = WW
          have hrw : WW.heap[w.heap.size]? = some (.cells #[.int .i64 0, .string ByteArray.empty, .int .i64 0, .int .i64 0, .slice none 0 0, .int .i64 0, .bool false] 33 (0, 0)) := by rw [← hWW]; exact block_drew (sevens_block ((Below.heap_setCell _ ⟨w.heap.size + 1, 2, none⟩ (.int .i64 4) w.heap.size (by show w.heap.size ≠ w.heap.size + 1; omega)).trans SF.out.res) _ _ _ _ _ _ _)
          go_wp2
          obtain ⟨g0, g1, g2, g3, g4, g5, g6, gf⟩ := seven_cells hrw
          refine bodyPost_ret (v := .tuple #[.agg #[.int .i64 0, .string ByteArray.empty, .int .i64 0, .int .i64 0, .slice none 0 0, .int .i64 0, .bool false], .int .i64 4]) (by simp [results, Try.results44, go_sem, g0, g1, g2, g3, g4, g5, g6]) rfl ?_
          subst hWW
          exact dec_bad (by rw [DE.out]; first | exact NE.out | decide) DE.out rfl (below_sevens (SF.out.bel.setCell (p := ⟨w.heap.size + 1, 2, none⟩) (by show w.heap.size ≤ w.heap.size + 1; omega) _) (Nat.le_refl _) _ _ _ _ _ _ _).drew
      · obtain ⟨j, hj⟩ : ∃ j, c - acc.length = j + 1 := ⟨c - acc.length - 1, by omega⟩
        have hjc : (acc.length : Int) < c := by omega
        have AL : Hid (acc.length + j < 255 ∧ acc.length + j + 1 = c) := by show _ < _ ∧ _; omega
        rw [hj] at XX YY
        have JL : ∀ v : Val, Hid (c - (acc ++ [v]).length = j) := fun v => by show _ = _; simp; omega
        have XX2 : Hid ((acc ++ [(Sc.on r).val.1]) ++ (Sc.vals j (Sc.on r).val.2).1 = V.1) := by show _ = _; rw [← XX.out, vals_on]; simp
        have YY2 : Hid ((Sc.vals j (Sc.on r).val.2).2 = V.2) := by show _ = _; rw [← YY.out, vals_on]
        have hww : w.heap.size + 1 + 1 < wr.heap.size := SR.out.ops.2.2.2.2.2.2.2.2
        have SS := Lib.hid (SR.out.below (Joins.below_alloc1 wr (.cells #[.int .i64 0, .int .i64 0, .string ByteArray.empty] 84)))
        have HS1 := Lib.hid (sone_any _ _ _ _ _ SS.out.scn)
        obtain ⟨p, c0, c1, c2, cf, lb, hpl, hpr⟩ := SR.out.on
        clear XX YY hj hpl hpr
        unfold Sc.val at XX2 YY2
        generalize (Sc.on r).small = M at HS1 XX2 YY2
        obtain ⟨kd, u⟩ := M
        simp only at HS1 XX2 YY2
        by_cases hk1 : kd = 1
        · subst hk1
          simp only [if_true] at XX2 YY2
          go_wp2_with fail
          refine HS1.out.mono ?_
          rintro x w2 ⟨rfl, h2, ho2⟩
          have hw2 := ho2.size
          simp only [World.size_alloc] at hw2
          have S2 := Lib.hid ((SR.out.below (Joins.below_alloc1 wr (.cells #[.int .i64 0, .int .i64 0, .string ByteArray.empty] 84))).call h2 ho2)
          have O2 := Lib.hid ((HO.out.alloc valF_firm (.cells #[.int .i64 0, .int .i64 0, .string ByteArray.empty] 84)).only valF_firm ho2 (by omega))
          have hv2 : w2.heap[wr.heap.size]? = some (.cells #[.int .i64 0, .int .i64 0, .string ByteArray.empty] 84 (0, 0)) := (ho2.block _ (by simp) (by omega)).trans (heap_alloc_new wr _)
          obtain ⟨v0, v1, v2, vf⟩ := three_cells hv2
          have hvl : wr.heap.size < w2.heap.size := by omega
          have hv2' : (w2.setCell ⟨wr.heap.size, 0, none⟩ (.int .i64 1)).heap[wr.heap.size]? = some (.cells #[.int .i64 1, .int .i64 0, .string ByteArray.empty] 84 (0, 0)) := by simp [World.setCell, Array.getElem?_modify, hv2]
          have S2' := Lib.hid (S2.out.later (q := ⟨wr.heap.size, 0, none⟩) (by show _ < wr.heap.size; omega) (.int .i64 1))
          have O2' := Lib.hid (O2.out.setNew valF_firm (p := ⟨wr.heap.size, 0, none⟩) (HO.out.lt (Nat.le_refl _)) (.int .i64 1))
          have HV2 := Lib.hid hv2'
          clear hv2 hv2' h2 ho2
          have HG := fun wx h => Lib.hid (smany_any (w.heap.size + 1) w.heap.size l u wx h)
          have hm := Sc.long_lt u
          generalize u.long = M at HG XX2 YY2 hm
          obtain ⟨m, u2⟩ := M
          simp only at HG XX2 YY2 hm
          have d1 : (m : Int).tdiv 2 = ((m / 2 : Nat) : Int) := by rw [Int.tdiv_eq_ediv_of_nonneg (by omega)]; omega
          have d1' : (m : Int) / 2 = ((m / 2 : Nat) : Int) := by omega
          have hh : m / 2 < 4611686018427387904 := by omega
          unfold signedI at XX2
          rcases Nat.mod_two_eq_zero_or_one m with hp | hp
          · rw [if_neg (by omega)] at XX2
            have d2 : (m : Int).tmod 2 = 0 := by rw [Int.tmod_eq_emod_of_nonneg (by omega)]; omega
            have d2' : (m : Int) % 2 = 0 := by omega
            have d2'' : (m : Int).emod 2 = 0 := by show (m : Int) % 2 = 0; omega
            generalize m / 2 = hf at d1 d1' hh XX2
            have d3 : IntKind.i64.wrap (hf : Int) = (hf : Int) := IntWalk.i64_in _ (by omega)
            clear hp hm
            go_wp2_with fail
            refine (HG _ S2'.out.scn).out.mono ?_
            rintro x w3 ⟨rfl, h3, ho3⟩
            have hw3 := ho3.size
            simp only [World.size_setCell] at hw3
            have hvl3 : wr.heap.size < w3.heap.size := by omega
            have S3 := Lib.hid (S2'.out.call h3 ho3)
            have O3 := Lib.hid (O2'.out.only valF_firm ho3 (by omega))
            have hv3 : w3.heap[wr.heap.size]? = some (.cells #[.int .i64 1, .int .i64 0, .string ByteArray.empty] 84 (0, 0)) := (ho3.block _ (by simp; omega) (by omega)).trans HV2.out
            clear v0 v1 v2 vf h3 ho3
            obtain ⟨v0, v1, v2, vf⟩ := three_cells hv3
            clear hv3
            have S4 := Lib.hid (S3.out.later (q := ⟨wr.heap.size, 1, none⟩) (by show _ < wr.heap.size; omega) (.int .i64 hf))
            have O4 := Lib.hid (O3.out.setNew valF_firm (p := ⟨wr.heap.size, 1, none⟩) (HO.out.lt (Nat.le_refl _)) (.int .i64 hf))
            have ALL := AL.out
            have BB := Lib.hid HO.out.base
            have S4a := Lib.hid (S4.out.below (Joins.below_alloc1 _ (.cells #[.int .i64 1, .int .i64 hf, .string ByteArray.empty] 84)))
            have O4a := Lib.hid (O4.out.alloc valF_firm (.cells #[.int .i64 1, .int .i64 hf, .string ByteArray.empty] 84))
            obtain ⟨p0, p1, p2, p3, p4, p5, p6, pf, pl⟩ := S3.out.ops
            have CN : Hid (∀ q y, (valC ⟨1, hf, ByteArray.empty⟩)[q]? = some y → World.cell? (World.alloc (w3.setCell ⟨wr.heap.size, 1, none⟩ (.int .i64 hf)) (.cells #[.int .i64 1, .int .i64 hf, .string ByteArray.empty] 84)) ((⟨w3.heap.size, 0, none⟩ : Addr).add q) = some y) := by
              show ∀ q y, _
              intro q y hu
              have hh := heap_alloc_new (w3.setCell ⟨wr.heap.size, 1, none⟩ (.int .i64 hf)) (.cells #[.int .i64 1, .int .i64 hf, .string ByteArray.empty] 84)
              (try simp only [World.size_setCell] at hh)
              rw [Go.WideShapes.add_plain, Nat.zero_add, Lib.cell_of_heap hh]
              simpa [valC] using hu
            have lv3 := hvl3
            go_wp2_with (first
              | (at_builtin; go_loud (refine wpList_append_F rfl _ _ 31 rfl (w.heap.size + 1 + 1 + 1) 84 i0 (.agg #[.int .i64 0, .int .i64 0, .string ByteArray.empty]) 3 32 Try.underlying31 hi hz0 hz1 hz2 rfl (by decide) _ acc.length rfl O4a.out rfl valF_firm ⟨1, hf, ByteArray.empty⟩ (valC ⟨1, hf, ByteArray.empty⟩) ⟨w3.heap.size, 0, none⟩ rfl rfl CN.out (fun u hu => by simp [valC] at hu; rcases hu with rfl | rfl | rfl <;> rfl) ⟨rfl, empty_len⟩ (by omega) (by decide) (by simp; omega) ?_; intro ra2 rc2 w5 hown' hgrow hb5; have S5 := Lib.hid (S4a.out.grown hgrow (fun g hg => by (have := BB.out g hg; omega)) (hb5.mono (by omega))); obtain ⟨x0, x1, x2, x3, x4, x5, x6, xf, xl⟩ := S5.out.ops))
              | fail)
            exact ⟨⟨acc ++ [⟨1, hf, ByteArray.empty⟩], u2, .slice ra2 (acc.length + 1) rc2, by simp, by (have := AL.out; simp; omega), S5.out.set4 _, hown'.setNew valF_firm (p := ⟨w.heap.size + 1 + 1, 4, none⟩) (fun h => absurd (show w.heap.size + 1 + 1 + 1 ≤ w.heap.size + 1 + 1 from hown'.base _ h) (by omega)) _, by rw [(JL _).out]; exact XX2.out, by rw [(JL _).out]; exact YY2.out⟩, by have := AL.out; simp [intOf]; omega⟩
          · rw [if_pos hp] at XX2
            have d2 : (m : Int).tmod 2 = 1 := by rw [Int.tmod_eq_emod_of_nonneg (by omega)]; omega
            have d2' : (m : Int) % 2 = 1 := by omega
            have d2'' : (m : Int).emod 2 = 1 := by show (m : Int) % 2 = 1; omega
            generalize m / 2 = hf at d1 d1' hh XX2
            have d3 : IntKind.i64.wrap (hf : Int) = (hf : Int) := IntWalk.i64_in _ (by omega)
            have d4 : IntKind.i64.wrap (-(hf : Int)) = -(hf : Int) := IntWalk.i64_in _ (by omega)
            have d5 : IntKind.i64.wrap (-(hf : Int) - 1) = -(hf : Int) - 1 := IntWalk.i64_in _ (by omega)
            clear hp hm
            go_wp2_with fail
            refine (HG _ S2'.out.scn).out.mono ?_
            rintro x w3 ⟨rfl, h3, ho3⟩
            have hw3 := ho3.size
            simp only [World.size_setCell] at hw3
            have hvl3 : wr.heap.size < w3.heap.size := by omega
            have S3 := Lib.hid (S2'.out.call h3 ho3)
            have O3 := Lib.hid (O2'.out.only valF_firm ho3 (by omega))
            have hv3 : w3.heap[wr.heap.size]? = some (.cells #[.int .i64 1, .int .i64 0, .string ByteArray.empty] 84 (0, 0)) := (ho3.block _ (by simp; omega) (by omega)).trans HV2.out
            clear v0 v1 v2 vf h3 ho3
            obtain ⟨v0, v1, v2, vf⟩ := three_cells hv3
            clear hv3
            have S4 := Lib.hid (S3.out.later (q := ⟨wr.heap.size, 1, none⟩) (by show _ < wr.heap.size; omega) (.int .i64 hf))
            have O4 := Lib.hid (O3.out.setNew valF_firm (p := ⟨wr.heap.size, 1, none⟩) (HO.out.lt (Nat.le_refl _)) (.int .i64 hf))
            have S4' := S4
            have O4' := O4
            have S4 := Lib.hid (S4'.out.later (q := ⟨wr.heap.size, 1, none⟩) (by show _ < wr.heap.size; omega) (.int .i64 (-(hf : Int) - 1)))
            have O4 := Lib.hid (O4'.out.setNew valF_firm (p := ⟨wr.heap.size, 1, none⟩) (HO.out.lt (Nat.le_refl _)) (.int .i64 (-(hf : Int) - 1)))
            have ALL := AL.out
            have BB := Lib.hid HO.out.base
            have S4a := Lib.hid (S4.out.below (Joins.below_alloc1 _ (.cells #[.int .i64 1, .int .i64 (-(hf : Int) - 1), .string ByteArray.empty] 84)))
            have O4a := Lib.hid (O4.out.alloc valF_firm (.cells #[.int .i64 1, .int .i64 (-(hf : Int) - 1), .string ByteArray.empty] 84))
            obtain ⟨p0, p1, p2, p3, p4, p5, p6, pf, pl⟩ := S3.out.ops
            have CN : Hid (∀ q y, (valC ⟨1, (-(hf : Int) - 1), ByteArray.empty⟩)[q]? = some y → World.cell? (World.alloc ((w3.setCell ⟨wr.heap.size, 1, none⟩ (.int .i64 hf)).setCell ⟨wr.heap.size, 1, none⟩ (.int .i64 (-(hf : Int) - 1))) (.cells #[.int .i64 1, .int .i64 (-(hf : Int) - 1), .string ByteArray.empty] 84)) ((⟨w3.heap.size, 0, none⟩ : Addr).add q) = some y) := by
              show ∀ q y, _
              intro q y hu
              have hh := heap_alloc_new ((w3.setCell ⟨wr.heap.size, 1, none⟩ (.int .i64 hf)).setCell ⟨wr.heap.size, 1, none⟩ (.int .i64 (-(hf : Int) - 1))) (.cells #[.int .i64 1, .int .i64 (-(hf : Int) - 1), .string ByteArray.empty] 84)
              (try simp only [World.size_setCell] at hh)
              rw [Go.WideShapes.add_plain, Nat.zero_add, Lib.cell_of_heap hh]
              simpa [valC] using hu
            have lv3 := hvl3
            go_wp2_with (first
              | (at_builtin; go_loud (refine wpList_append_F rfl _ _ 31 rfl (w.heap.size + 1 + 1 + 1) 84 i0 (.agg #[.int .i64 0, .int .i64 0, .string ByteArray.empty]) 3 32 Try.underlying31 hi hz0 hz1 hz2 rfl (by decide) _ acc.length rfl O4a.out rfl valF_firm ⟨1, (-(hf : Int) - 1), ByteArray.empty⟩ (valC ⟨1, (-(hf : Int) - 1), ByteArray.empty⟩) ⟨w3.heap.size, 0, none⟩ rfl rfl CN.out (fun u hu => by simp [valC] at hu; rcases hu with rfl | rfl | rfl <;> rfl) ⟨rfl, empty_len⟩ (by omega) (by decide) (by simp; omega) ?_; intro ra2 rc2 w5 hown' hgrow hb5; have S5 := Lib.hid (S4a.out.grown hgrow (fun g hg => by (have := BB.out g hg; omega)) (hb5.mono (by omega))); obtain ⟨x0, x1, x2, x3, x4, x5, x6, xf, xl⟩ := S5.out.ops))
              | fail)
            exact ⟨⟨acc ++ [⟨1, (-(hf : Int) - 1), ByteArray.empty⟩], u2, .slice ra2 (acc.length + 1) rc2, by simp, by (have := AL.out; simp; omega), S5.out.set4 _, hown'.setNew valF_firm (p := ⟨w.heap.size + 1 + 1, 4, none⟩) (fun h => absurd (show w.heap.size + 1 + 1 + 1 ≤ w.heap.size + 1 + 1 from hown'.base _ h) (by omega)) _, by rw [(JL _).out]; exact XX2.out, by rw [(JL _).out]; exact YY2.out⟩, by have := AL.out; simp [intOf]; omega⟩
        · by_cases hk2 : kd = 2
          · subst hk2
            rw [if_neg (by omega), if_pos rfl] at XX2 YY2
            go_wp2_with fail
            refine HS1.out.mono ?_
            rintro x w2 ⟨rfl, h2, ho2⟩
            have hw2 := ho2.size
            simp only [World.size_alloc] at hw2
            have S2 := Lib.hid ((SR.out.below (Joins.below_alloc1 wr (.cells #[.int .i64 0, .int .i64 0, .string ByteArray.empty] 84))).call h2 ho2)
            have O2 := Lib.hid ((HO.out.alloc valF_firm (.cells #[.int .i64 0, .int .i64 0, .string ByteArray.empty] 84)).only valF_firm ho2 (by omega))
            have hv2 : w2.heap[wr.heap.size]? = some (.cells #[.int .i64 0, .int .i64 0, .string ByteArray.empty] 84 (0, 0)) := (ho2.block _ (by simp) (by omega)).trans (heap_alloc_new wr _)
            obtain ⟨v0, v1, v2, vf⟩ := three_cells hv2
            have hvl : wr.heap.size < w2.heap.size := by omega
            have hv2' : (w2.setCell ⟨wr.heap.size, 0, none⟩ (.int .i64 2)).heap[wr.heap.size]? = some (.cells #[.int .i64 2, .int .i64 0, .string ByteArray.empty] 84 (0, 0)) := by simp [World.setCell, Array.getElem?_modify, hv2]
            have S2' := Lib.hid (S2.out.later (q := ⟨wr.heap.size, 0, none⟩) (by show _ < wr.heap.size; omega) (.int .i64 2))
            have O2' := Lib.hid (O2.out.setNew valF_firm (p := ⟨wr.heap.size, 0, none⟩) (HO.out.lt (Nat.le_refl _)) (.int .i64 2))
            have HV2 := Lib.hid hv2'
            clear hv2 hv2' h2 ho2
            have HG := fun wx h => Lib.hid (sstr_any (w.heap.size + 1) w.heap.size l u wx h)
            have HTL := Lib.hid (Sc.text_len u)
            generalize u.text = M at HG XX2 YY2 HTL
            obtain ⟨tx, u2⟩ := M
            simp only at HG XX2 YY2 HTL
            go_wp2_with fail
            refine (HG _ S2'.out.scn).out.mono ?_
            rintro x w3 ⟨rfl, h3, ho3⟩
            have hw3 := ho3.size
            simp only [World.size_setCell] at hw3
            have hvl3 : wr.heap.size < w3.heap.size := by omega
            have S3 := Lib.hid (S2'.out.call h3 ho3)
            have O3 := Lib.hid (O2'.out.only valF_firm ho3 (by omega))
            have hv3 : w3.heap[wr.heap.size]? = some (.cells #[.int .i64 2, .int .i64 0, .string ByteArray.empty] 84 (0, 0)) := (ho3.block _ (by simp; omega) (by omega)).trans HV2.out
            clear v0 v1 v2 vf h3 ho3
            obtain ⟨v0, v1, v2, vf⟩ := three_cells hv3
            clear hv3
            have S4 := Lib.hid (S3.out.later (q := ⟨wr.heap.size, 2, none⟩) (by show _ < wr.heap.size; omega) (.string tx))
            have O4 := Lib.hid (O3.out.setNew valF_firm (p := ⟨wr.heap.size, 2, none⟩) (HO.out.lt (Nat.le_refl _)) (.string tx))
            have ALL := AL.out
            have BB := Lib.hid HO.out.base
            have S4a := Lib.hid (S4.out.below (Joins.below_alloc1 _ (.cells #[.int .i64 2, .int .i64 0, .string tx] 84)))
            have O4a := Lib.hid (O4.out.alloc valF_firm (.cells #[.int .i64 2, .int .i64 0, .string tx] 84))
            obtain ⟨p0, p1, p2, p3, p4, p5, p6, pf, pl⟩ := S3.out.ops
            have CN : Hid (∀ q y, (valC ⟨2, 0, tx⟩)[q]? = some y → World.cell? (World.alloc (w3.setCell ⟨wr.heap.size, 2, none⟩ (.string tx)) (.cells #[.int .i64 2, .int .i64 0, .string tx] 84)) ((⟨w3.heap.size, 0, none⟩ : Addr).add q) = some y) := by
              show ∀ q y, _
              intro q y hu
              have hh := heap_alloc_new (w3.setCell ⟨wr.heap.size, 2, none⟩ (.string tx)) (.cells #[.int .i64 2, .int .i64 0, .string tx] 84)
              (try simp only [World.size_setCell] at hh)
              rw [Go.WideShapes.add_plain, Nat.zero_add, Lib.cell_of_heap hh]
              simpa [valC] using hu
            have lv3 := hvl3
            go_wp2_with (first
              | (at_builtin; go_loud (refine wpList_append_F rfl _ _ 31 rfl (w.heap.size + 1 + 1 + 1) 84 i0 (.agg #[.int .i64 0, .int .i64 0, .string ByteArray.empty]) 3 32 Try.underlying31 hi hz0 hz1 hz2 rfl (by decide) _ acc.length rfl O4a.out rfl valF_firm ⟨2, 0, tx⟩ (valC ⟨2, 0, tx⟩) ⟨w3.heap.size, 0, none⟩ rfl rfl CN.out (fun u hu => by simp [valC] at hu; rcases hu with rfl | rfl | rfl <;> rfl) ⟨rfl, text_max HTL.out⟩ (by omega) (by decide) (by simp; omega) ?_; intro ra2 rc2 w5 hown' hgrow hb5; have S5 := Lib.hid (S4a.out.grown hgrow (fun g hg => by (have := BB.out g hg; omega)) (hb5.mono (by omega))); obtain ⟨x0, x1, x2, x3, x4, x5, x6, xf, xl⟩ := S5.out.ops))
              | fail)
            exact ⟨⟨acc ++ [⟨2, 0, tx⟩], u2, .slice ra2 (acc.length + 1) rc2, by simp, by (have := AL.out; simp; omega), S5.out.set4 _, hown'.setNew valF_firm (p := ⟨w.heap.size + 1 + 1, 4, none⟩) (fun h => absurd (show w.heap.size + 1 + 1 + 1 ≤ w.heap.size + 1 + 1 from hown'.base _ h) (by omega)) _, by rw [(JL _).out]; exact XX2.out, by rw [(JL _).out]; exact YY2.out⟩, by have := AL.out; simp [intOf]; omega⟩
          · rw [if_neg hk1, if_neg hk2] at XX2 YY2
            have q1 : ((kd : Int) == 1) = false := by simp; omega
            have q2 : ((kd : Int) == 2) = false := by simp; omega
            clear hk1 hk2
            go_wp2_with fail
            refine HS1.out.mono ?_
            rintro x w2 ⟨rfl, h2, ho2⟩
            have hw2 := ho2.size
            simp only [World.size_alloc] at hw2
            have S2 := Lib.hid ((SR.out.below (Joins.below_alloc1 wr (.cells #[.int .i64 0, .int .i64 0, .string ByteArray.empty] 84))).call h2 ho2)
            have O2 := Lib.hid ((HO.out.alloc valF_firm (.cells #[.int .i64 0, .int .i64 0, .string ByteArray.empty] 84)).only valF_firm ho2 (by omega))
            have hv2 : w2.heap[wr.heap.size]? = some (.cells #[.int .i64 0, .int .i64 0, .string ByteArray.empty] 84 (0, 0)) := (ho2.block _ (by simp) (by omega)).trans (heap_alloc_new wr _)
            obtain ⟨v0, v1, v2, vf⟩ := three_cells hv2
            have hvl : wr.heap.size < w2.heap.size := by omega
            have hv2' : (w2.setCell ⟨wr.heap.size, 0, none⟩ (.int .i64 kd)).heap[wr.heap.size]? = some (.cells #[.int .i64 kd, .int .i64 0, .string ByteArray.empty] 84 (0, 0)) := by simp [World.setCell, Array.getElem?_modify, hv2]
            have S2' := Lib.hid (S2.out.later (q := ⟨wr.heap.size, 0, none⟩) (by show _ < wr.heap.size; omega) (.int .i64 kd))
            have O2' := Lib.hid (O2.out.setNew valF_firm (p := ⟨wr.heap.size, 0, none⟩) (HO.out.lt (Nat.le_refl _)) (.int .i64 kd))
            have HV2 := Lib.hid hv2'
            clear hv2 hv2' h2 ho2
            have HG := fun wx h => Lib.hid (sstop_any (w.heap.size + 1) w.heap.size l u 4 wx h (by decide))
            generalize u.stop 4 = u2 at HG XX2 YY2
            go_wp2_with fail
            refine (HG _ S2'.out.scn).out.mono ?_
            rintro x w3 ⟨rfl, h3, ho3⟩
            have hw3 := ho3.size
            simp only [World.size_setCell] at hw3
            have hvl3 : wr.heap.size < w3.heap.size := by omega
            have S3 := Lib.hid (S2'.out.call h3 ho3)
            have O3 := Lib.hid (O2'.out.only valF_firm ho3 (by omega))
            have hv3 : w3.heap[wr.heap.size]? = some (.cells #[.int .i64 kd, .int .i64 0, .string ByteArray.empty] 84 (0, 0)) := (ho3.block _ (by simp; omega) (by omega)).trans HV2.out
            clear v0 v1 v2 vf h3 ho3
            obtain ⟨v0, v1, v2, vf⟩ := three_cells hv3
            clear hv3
            have S4 := S3
            have O4 := O3
            have ALL := AL.out
            have BB := Lib.hid HO.out.base
            have S4a := Lib.hid (S4.out.below (Joins.below_alloc1 _ (.cells #[.int .i64 kd, .int .i64 0, .string ByteArray.empty] 84)))
            have O4a := Lib.hid (O4.out.alloc valF_firm (.cells #[.int .i64 kd, .int .i64 0, .string ByteArray.empty] 84))
            obtain ⟨p0, p1, p2, p3, p4, p5, p6, pf, pl⟩ := S3.out.ops
            have CN : Hid (∀ q y, (valC ⟨kd, 0, ByteArray.empty⟩)[q]? = some y → World.cell? (World.alloc (w3) (.cells #[.int .i64 kd, .int .i64 0, .string ByteArray.empty] 84)) ((⟨w3.heap.size, 0, none⟩ : Addr).add q) = some y) := by
              show ∀ q y, _
              intro q y hu
              have hh := heap_alloc_new (w3) (.cells #[.int .i64 kd, .int .i64 0, .string ByteArray.empty] 84)
              (try simp only [World.size_setCell] at hh)
              rw [Go.WideShapes.add_plain, Nat.zero_add, Lib.cell_of_heap hh]
              simpa [valC] using hu
            have lv3 := hvl3
            go_wp2_with (first
              | (at_builtin; go_loud (refine wpList_append_F rfl _ _ 31 rfl (w.heap.size + 1 + 1 + 1) 84 i0 (.agg #[.int .i64 0, .int .i64 0, .string ByteArray.empty]) 3 32 Try.underlying31 hi hz0 hz1 hz2 rfl (by decide) _ acc.length rfl O4a.out rfl valF_firm ⟨kd, 0, ByteArray.empty⟩ (valC ⟨kd, 0, ByteArray.empty⟩) ⟨w3.heap.size, 0, none⟩ rfl rfl CN.out (fun u hu => by simp [valC] at hu; rcases hu with rfl | rfl | rfl <;> rfl) ⟨rfl, empty_len⟩ (by omega) (by decide) (by simp; omega) ?_; intro ra2 rc2 w5 hown' hgrow hb5; have S5 := Lib.hid (S4a.out.grown hgrow (fun g hg => by (have := BB.out g hg; omega)) (hb5.mono (by omega))); obtain ⟨x0, x1, x2, x3, x4, x5, x6, xf, xl⟩ := S5.out.ops))
              | fail)
            exact ⟨⟨acc ++ [⟨kd, 0, ByteArray.empty⟩], u2, .slice ra2 (acc.length + 1) rc2, by simp, by (have := AL.out; simp; omega), S5.out.set4 _, hown'.setNew valF_firm (p := ⟨w.heap.size + 1 + 1, 4, none⟩) (fun h => absurd (show w.heap.size + 1 + 1 + 1 ≤ w.heap.size + 1 + 1 from hown'.base _ h) (by omega)) _, by rw [(JL _).out]; exact XX2.out, by rw [(JL _).out]; exact YY2.out⟩, by have := AL.out; simp [intOf]; omega⟩
end Go.Proofs.Ytciomaeieggbiaa
