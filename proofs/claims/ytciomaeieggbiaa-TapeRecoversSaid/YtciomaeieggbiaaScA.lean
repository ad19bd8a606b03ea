/-
  The walk of the reference's OperationOf: time goes on.
-/
import Derived.Test.YtciomaeieggbiaaScO
namespace Go.Proofs.Ytciomaeieggbiaa
open Go.RowKit
set_option linter.unusedVariables false
set_option linter.unusedSimpArgs false

set_option maxHeartbeats 2000000 in
set_option maxRecDepth 100000 in
theorem opOf_advance (F : Nat → Prop) (ao : Option Addr) (n cap : Nat) (l : List UInt8) (w : World) (hX : SlF F w 1 byteF ao n cap l) (hn : ¬ 20000 < n) (h2 : (Sc.on l).small.1 = 2) : Calls Try.prog 44 #[.slice ao n cap] w (DecPost l w) := by
  obtain rfl : n = l.length := hX.len
  have HL : Hid (l.length ≤ 20000) := by show _ ≤ _; omega
  have hn' : ¬ (20000 : Int) < l.length := by omega
  have S0 := Lib.hid (st_start hX HL.out)
  have HS := Lib.hid (sone_any _ _ _ _ _ S0.out.scn)
  have OPE : Hid ((Sc.on l).op = (Sc.on l).op) := Lib.hid rfl
  conv at OPE => arg 1; rhs; unfold Sc.op
  simp only [if_pos h2] at OPE
  generalize (Sc.on l).small = M at HS h2 OPE
  obtain ⟨k, t⟩ := M
  simp only at HS h2 OPE
  subst h2
  have TL : Hid (ByteArray.empty.size ≤ maxLen) := empty_len
  have HF := fun wx h => Lib.hid (smany_any (w.heap.size + 1) w.heap.size l t wx h)
  generalize t.long = L at HF OPE
  obtain ⟨m, t2⟩ := L
  simp only at HF OPE
  have HG := fun wx h => Lib.hid (sone_any (w.heap.size + 1) w.heap.size l t2 wx h)
  have hc := Sc.small_lt t2
  generalize t2.small = L at HG hc OPE
  obtain ⟨c, t3⟩ := L
  simp only at HG hc OPE
  obtain ⟨n, NN⟩ : ∃ n, Hid (n = l.length) := ⟨_, rfl⟩
  have NL := NN
  rw [← NN.out] at hn' HS S0 ⊢
  clear hX hn NN
  go_enter Try.func44, Try.ntmps44
  go_wp2_with fail
  refine HS.out.mono ?_
  rintro x w1 ⟨rfl, h1, ho1⟩
  have S1 := Lib.hid (S0.out.call h1 ho1)
  obtain ⟨o0, o1, o2, o3, o4, o5, o6, of, lo⟩ := S1.out.ops
  clear h1 ho1
  have S2 := Lib.hid (S1.out.set0 (.int .i64 2))
  go_wp2_with fail
  refine (HF _ S2.out.scn).out.mono ?_
  rintro x w2 ⟨rfl, h2, ho2⟩
  have S3 := Lib.hid (S2.out.call h2 ho2)
  clear o0 o1 o2 o3 o4 o5 o6 of lo
  clear h2 ho2
  have S4 := Lib.hid (S3.out.set5 (.int .i64 m))
  obtain ⟨o0, o1, o2, o3, o4, o5, o6, of, lo⟩ := S3.out.ops
  go_wp2_with fail
  refine (HG _ S4.out.scn).out.mono ?_
  rintro x w3 ⟨rfl, h3, ho3⟩
  have S5 := Lib.hid (S4.out.call h3 ho3)
  clear o0 o1 o2 o3 o4 o5 o6 of lo
  clear h3 ho3
  rcases (show c = 0 ∨ c = 1 ∨ 1 < c by omega) with hc0 | hc0 | hc1
  · subst hc0
    simp only [show ¬ (0 : Nat) = 1 by decide, show (0 : Nat) ≤ 1 by decide, if_true, decide_false] at OPE
    match t3 with
    | .bad e =>
      have NE : Hid (e ≠ 0) := S5.out.scn.1
      have DE : Hid (decE l = e) := dec_code_bad OPE.out HL.out
      have q1 : (e == 0) = false := by simpa using NE.out
      have q2 : (e != 0) = true := by simpa using NE.out
      have SF := Lib.hid (S5.out.set6 (.bool false))
      obtain ⟨c2, cf, lb⟩ := S5.out.bad
      obtain ⟨o0, o1, o2, o3, o4, o5, o6, of, lo⟩ := S5.out.ops
      obtain ⟨r0, r1, r2, r3, r4, r5, r6, rf, lr⟩ := S5.out.ress
      go_wp2
      go_region
      go_simp
      rename_i K1 h1 K2 h2
      apply h2
      generalize hWW : World.drew _ = WW
      have hrw : WW.heap[w.heap.size]? = some (.cells #[.int .i64 0, .string ByteArray.empty, .int .i64 0, .int .i64 0, .slice none 0 0, .int .i64 0, .bool false] 33 (0, 0)) := by rw [← hWW]; exact block_drew (sevens_block SF.out.res _ _ _ _ _ _ _)
      go_wp2
      obtain ⟨g0, g1, g2, g3, g4, g5, g6, gf⟩ := seven_cells hrw
      refine bodyPost_ret (v := .tuple #[.agg #[.int .i64 0, .string ByteArray.empty, .int .i64 0, .int .i64 0, .slice none 0 0, .int .i64 0, .bool false], .int .i64 e]) (by simp [results, Try.results44, go_sem, g0, g1, g2, g3, g4, g5, g6]) rfl ?_
      subst hWW
      exact dec_bad (by rw [DE.out]; first | exact NE.out | decide) DE.out rfl (below_sevens SF.out.bel (Nat.le_refl _) _ _ _ _ _ _ _).drew
    | .on r =>
      have SF := Lib.hid (S5.out.set6 (.bool false))
      have HVF := Lib.hid ((SlF.nil : SlF (from_ (w.heap.size + 1 + 1 + 1)) (w3.setCell ⟨w.heap.size + 1 + 1, 6, none⟩ (.bool false)) 3 valF none 0 0 []))
      obtain ⟨p, c0, c1, c2, cf, lb, hpl, hpr⟩ := S5.out.on
      obtain ⟨o0, o1, o2, o3, o4, o5, o6, of, lo⟩ := S5.out.ops
      obtain ⟨r0, r1, r2, r3, r4, r5, r6, rf, lr⟩ := S5.out.ress
      rcases Nat.eq_zero_or_pos r.length with hr | hr
      · have hnp : ¬ (p : Int) < n := by have := NL.out; omega
        have DE2 : Hid (decE l = wireE ⟨2, ByteArray.empty, 0, 0, m, false⟩ []) := dec_code_all OPE.out HL.out (List.eq_nil_of_length_eq_zero hr)
        have EO : Hid (decE l = 0 → decO l = ⟨2, ByteArray.empty, 0, 0, m, false⟩ ∧ decV l = []) := dec_what OPE.out
        have HW := Lib.hid (wireFault_any ⟨2, ByteArray.empty, 0, 0, m, false⟩ _ _ _ [] _ (TL.out) HVF.out.toR)
        unfold Opn.val at HW
        simp only at HW
        generalize wireE ⟨2, ByteArray.empty, 0, 0, m, false⟩ [] = E at HW DE2
        clear hr hpr
        go_wp2_with fail
        refine HW.out.mono ?_
        rintro x wq ⟨rfl, hbq⟩
        have SQ := Lib.hid (SF.out.below hbq)
        have HVQ := Lib.hid (HVF.out.below valF_firm hbq)
        clear c0 c1 c2 cf lb o0 o1 o2 o3 o4 o5 o6 of lo r0 r1 r2 r3 r4 r5 r6 rf lr
        obtain ⟨p', c0, c1, c2, cf, lb, hpl', hpr'⟩ := SQ.out.on
        obtain ⟨o0, o1, o2, o3, o4, o5, o6, of, lo⟩ := SQ.out.ops
        obtain ⟨r0, r1, r2, r3, r4, r5, r6, rf, lr⟩ := SQ.out.ress
        clear hpl' hpr' hnp
        by_cases hE : E = 0
        · subst hE
          go_wp2
          have hrw := sevens_block ((Below.heap_setCell wq ⟨w.heap.size + 1, 2, none⟩ (.int .i64 0) w.heap.size (by show w.heap.size ≠ w.heap.size + 1; omega)).trans SQ.out.res) (.int .i64 2) (.string ByteArray.empty) (.int .i64 0) (.int .i64 0) (.slice none 0 0) (.int .i64 m) (.bool false)
          obtain ⟨g0, g1, g2, g3, g4, g5, g6, gf⟩ := seven_cells hrw
          refine bodyPost_ret (v := .tuple #[.agg #[.int .i64 2, .string ByteArray.empty, .int .i64 0, .int .i64 0, .slice none 0 0, .int .i64 m, .bool false], .int .i64 0]) (by simp only [results, Try.results44]; generalize World.setCell (World.setCell _ _ _) _ _ = WW at *; simp [go_sem, g0, g1, g2, g3, g4, g5, g6]) rfl ?_
          obtain ⟨e1, e2⟩ := EO.out DE2.out
          unfold DecPost
          rw [e1, e2, DE2.out]
          exact ⟨_, _, rfl, below_sevens (SQ.out.bel.setCell (p := ⟨w.heap.size + 1, 2, none⟩) (by show w.heap.size ≤ w.heap.size + 1; omega) _) (Nat.le_refl _) _ _ _ _ _ _ _, (((HVQ.out.setLow valF_firm (p := ⟨w.heap.size + 1, 2, none⟩) (by show w.heap.size + 1 < _; omega) _).sevens valF_firm (by omega) _ _ _ _ _ _ _).above valF_firm (by omega))⟩
        · have q1 : (E == 0) = false := by simpa using hE
          have q2 : (E != 0) = true := by simpa using hE
          have NE := Lib.hid hE
          have DE := DE2
          clear hE
          go_wp2
          go_region
          go_simp
          rename_i K1 h1 K2 h2
          apply h2
          generalize hWW : World.drew _ = WW
          have hrw : WW.heap[w.heap.size]? = some (.cells #[.int .i64 0, .string ByteArray.empty, .int .i64 0, .int .i64 0, .slice none 0 0, .int .i64 0, .bool false] 33 (0, 0)) := by rw [← hWW]; exact block_drew (sevens_block ((Below.heap_setCell wq ⟨w.heap.size + 1, 2, none⟩ (.int .i64 E) w.heap.size (by show w.heap.size ≠ w.heap.size + 1; omega)).trans SQ.out.res) _ _ _ _ _ _ _)
          go_wp2
          obtain ⟨g0, g1, g2, g3, g4, g5, g6, gf⟩ := seven_cells hrw
          refine bodyPost_ret (v := .tuple #[.agg #[.int .i64 0, .string ByteArray.empty, .int .i64 0, .int .i64 0, .slice none 0 0, .int .i64 0, .bool false], .int .i64 E]) (by simp [results, Try.results44, go_sem, g0, g1, g2, g3, g4, g5, g6]) rfl ?_
          subst hWW
          exact dec_bad (by rw [DE.out]; first | exact NE.out | decide) DE.out rfl (below_sevens (SQ.out.bel.setCell (p := ⟨w.heap.size + 1, 2, none⟩) (by show w.heap.size ≤ w.heap.size + 1; omega) _) (Nat.le_refl _) _ _ _ _ _ _ _).drew
      · have hnp : (p : Int) < n := by have := NL.out; omega
        have DE : Hid (decE l = 4) := dec_code_more OPE.out HL.out hr
        have NE : Hid ((4 : Int) ≠ 0) := by show ¬ _ = _; decide
        go_wp2
        go_region
        go_simp
        rename_i K1 h1 K2 h2
        apply h2
        generalize hWW : World.drew _ = WW
        have hrw : WW.heap[w.heap.size]? = some (.cells #[.int .i64 0, .string ByteArray.empty, .int .i64 0, .int .i64 0, .slice none 0 0, .int .i64 0, .bool false] 33 (0, 0)) := by rw [← hWW]; exact block_drew (sevens_block ((Below.heap_setCell _ ⟨w.heap.size + 1, 2, none⟩ (.int .i64 4) w.heap.size (by show w.heap.size ≠ w.heap.size + 1; omega)).trans SF.out.res) _ _ _ _ _ _ _)
        go_wp2
        obtain ⟨g0, g1, g2, g3, g4, g5, g6, gf⟩ := seven_cells hrw
        refine bodyPost_ret (v := .tuple #[.agg #[.int .i64 0, .string ByteArray.empty, .int .i64 0, .int .i64 0, .slice none 0 0, .int .i64 0, .bool false], .int .i64 4]) (by simp [results, Try.results44, go_sem, g0, g1, g2, g3, g4, g5, g6]) rfl ?_
        subst hWW
        exact dec_bad (by rw [DE.out]; first | exact NE.out | decide) DE.out rfl (below_sevens (SF.out.bel.setCell (p := ⟨w.heap.size + 1, 2, none⟩) (by show w.heap.size ≤ w.heap.size + 1; omega) _) (Nat.le_refl _) _ _ _ _ _ _ _).drew
  · subst hc0
    simp only [show (1 : Nat) ≤ 1 by decide, if_true, decide_true] at OPE
    match t3 with
    | .bad e =>
      have NE : Hid (e ≠ 0) := S5.out.scn.1
      have DE : Hid (decE l = e) := dec_code_bad OPE.out HL.out
      have q1 : (e == 0) = false := by simpa using NE.out
      have q2 : (e != 0) = true := by simpa using NE.out
      have SF := Lib.hid (S5.out.set6 (.bool true))
      obtain ⟨c2, cf, lb⟩ := S5.out.bad
      obtain ⟨o0, o1, o2, o3, o4, o5, o6, of, lo⟩ := S5.out.ops
      obtain ⟨r0, r1, r2, r3, r4, r5, r6, rf, lr⟩ := S5.out.ress
      go_wp2
      go_region
      go_simp
      rename_i K1 h1 K2 h2
      apply h2
      generalize hWW : World.drew _ = WW
      have hrw : WW.heap[w.heap.size]? = some (.cells #[.int .i64 0, .string ByteArray.empty, .int .i64 0, .int .i64 0, .slice none 0 0, .int .i64 0, .bool false] 33 (0, 0)) := by rw [← hWW]; exact block_drew (sevens_block SF.out.res _ _ _ _ _ _ _)
      go_wp2
      obtain ⟨g0, g1, g2, g3, g4, g5, g6, gf⟩ := seven_cells hrw
      refine bodyPost_ret (v := .tuple #[.agg #[.int .i64 0, .string ByteArray.empty, .int .i64 0, .int .i64 0, .slice none 0 0, .int .i64 0, .bool false], .int .i64 e]) (by simp [results, Try.results44, go_sem, g0, g1, g2, g3, g4, g5, g6]) rfl ?_
      subst hWW
      exact dec_bad (by rw [DE.out]; first | exact NE.out | decide) DE.out rfl (below_sevens SF.out.bel (Nat.le_refl _) _ _ _ _ _ _ _).drew
    | .on r =>
      have SF := Lib.hid (S5.out.set6 (.bool true))
      have HVF := Lib.hid ((SlF.nil : SlF (from_ (w.heap.size + 1 + 1 + 1)) (w3.setCell ⟨w.heap.size + 1 + 1, 6, none⟩ (.bool true)) 3 valF none 0 0 []))
      obtain ⟨p, c0, c1, c2, cf, lb, hpl, hpr⟩ := S5.out.on
      obtain ⟨o0, o1, o2, o3, o4, o5, o6, of, lo⟩ := S5.out.ops
      obtain ⟨r0, r1, r2, r3, r4, r5, r6, rf, lr⟩ := S5.out.ress
      rcases Nat.eq_zero_or_pos r.length with hr | hr
      · have hnp : ¬ (p : Int) < n := by have := NL.out; omega
        have DE2 : Hid (decE l = wireE ⟨2, ByteArray.empty, 0, 0, m, true⟩ []) := dec_code_all OPE.out HL.out (List.eq_nil_of_length_eq_zero hr)
        have EO : Hid (decE l = 0 → decO l = ⟨2, ByteArray.empty, 0, 0, m, true⟩ ∧ decV l = []) := dec_what OPE.out
        have HW := Lib.hid (wireFault_any ⟨2, ByteArray.empty, 0, 0, m, true⟩ _ _ _ [] _ (TL.out) HVF.out.toR)
        unfold Opn.val at HW
        simp only at HW
        generalize wireE ⟨2, ByteArray.empty, 0, 0, m, true⟩ [] = E at HW DE2
        clear hr hpr
        go_wp2_with fail
        refine HW.out.mono ?_
        rintro x wq ⟨rfl, hbq⟩
        have SQ := Lib.hid (SF.out.below hbq)
        have HVQ := Lib.hid (HVF.out.below valF_firm hbq)
        clear c0 c1 c2 cf lb o0 o1 o2 o3 o4 o5 o6 of lo r0 r1 r2 r3 r4 r5 r6 rf lr
        obtain ⟨p', c0, c1, c2, cf, lb, hpl', hpr'⟩ := SQ.out.on
        obtain ⟨o0, o1, o2, o3, o4, o5, o6, of, lo⟩ := SQ.out.ops
        obtain ⟨r0, r1, r2, r3, r4, r5, r6, rf, lr⟩ := SQ.out.ress
        clear hpl' hpr' hnp
        by_cases hE : E = 0
        · subst hE
          go_wp2
          have hrw := sevens_block ((Below.heap_setCell wq ⟨w.heap.size + 1, 2, none⟩ (.int .i64 0) w.heap.size (by show w.heap.size ≠ w.heap.size + 1; omega)).trans SQ.out.res) (.int .i64 2) (.string ByteArray.empty) (.int .i64 0) (.int .i64 0) (.slice none 0 0) (.int .i64 m) (.bool true)
          obtain ⟨g0, g1, g2, g3, g4, g5, g6, gf⟩ := seven_cells hrw
          refine bodyPost_ret (v := .tuple #[.agg #[.int .i64 2, .string ByteArray.empty, .int .i64 0, .int .i64 0, .slice none 0 0, .int .i64 m, .bool true], .int .i64 0]) (by simp only [results, Try.results44]; generalize World.setCell (World.setCell _ _ _) _ _ = WW at *; simp [go_sem, g0, g1, g2, g3, g4, g5, g6]) rfl ?_
          obtain ⟨e1, e2⟩ := EO.out DE2.out
          unfold DecPost
          rw [e1, e2, DE2.out]
          exact ⟨_, _, rfl, below_sevens (SQ.out.bel.setCell (p := ⟨w.heap.size + 1, 2, none⟩) (by show w.heap.size ≤ w.heap.size + 1; omega) _) (Nat.le_refl _) _ _ _ _ _ _ _, (((HVQ.out.setLow valF_firm (p := ⟨w.heap.size + 1, 2, none⟩) (by show w.heap.size + 1 < _; omega) _).sevens valF_firm (by omega) _ _ _ _ _ _ _).above valF_firm (by omega))⟩
        · have q1 : (E == 0) = false := by simpa using hE
          have q2 : (E != 0) = true := by simpa using hE
          have NE := Lib.hid hE
          have DE := DE2
          clear hE
          go_wp2
          go_region
          go_simp
          rename_i K1 h1 K2 h2
          apply h2
          generalize hWW : World.drew _ = WW
          have hrw : WW.heap[w.heap.size]? = some (.cells #[.int .i64 0, .string ByteArray.empty, .int .i64 0, .int .i64 0, .slice none 0 0, .int .i64 0, .bool false] 33 (0, 0)) := by rw [← hWW]; exact block_drew (sevens_block ((Below.heap_setCell wq ⟨w.heap.size + 1, 2, none⟩ (.int .i64 E) w.heap.size (by show w.heap.size ≠ w.heap.size + 1; omega)).trans SQ.out.res) _ _ _ _ _ _ _)
          go_wp2
          obtain ⟨g0, g1, g2, g3, g4, g5, g6, gf⟩ := seven_cells hrw
          refine bodyPost_ret (v := .tuple #[.agg #[.int .i64 0, .string ByteArray.empty, .int .i64 0, .int .i64 0, .slice none 0 0, .int .i64 0, .bool false], .int .i64 E]) (by simp [results, Try.results44, go_sem, g0, g1, g2, g3, g4, g5, g6]) rfl ?_
          subst hWW
          exact dec_bad (by rw [DE.out]; first | exact NE.out | decide) DE.out rfl (below_sevens (SQ.out.bel.setCell (p := ⟨w.heap.size + 1, 2, none⟩) (by show w.heap.size ≤ w.heap.size + 1; omega) _) (Nat.le_refl _) _ _ _ _ _ _ _).drew
      · have hnp : (p : Int) < n := by have := NL.out; omega
        have DE : Hid (decE l = 4) := dec_code_more OPE.out HL.out hr
        have NE : Hid ((4 : Int) ≠ 0) := by show ¬ _ = _; decide
        go_wp2
        go_region
        go_simp
        rename_i K1 h1 K2 h2
        apply h2
        generalize hWW : World.drew _ = WW
        have hrw : WW.heap[w.heap.size]? = some (.cells #[.int .i64 0, .string ByteArray.empty, .int .i64 0, .int .i64 0, .slice none 0 0, .int .i64 0, .bool false] 33 (0, 0)) := by rw [← hWW]; exact block_drew (sevens_block ((Below.heap_setCell _ ⟨w.heap.size + 1, 2, none⟩ (.int .i64 4) w.heap.size (by show w.heap.size ≠ w.heap.size + 1; omega)).trans SF.out.res) _ _ _ _ _ _ _)
        go_wp2
        obtain ⟨g0, g1, g2, g3, g4, g5, g6, gf⟩ := seven_cells hrw
        refine bodyPost_ret (v := .tuple #[.agg #[.int .i64 0, .string ByteArray.empty, .int .i64 0, .int .i64 0, .slice none 0 0, .int .i64 0, .bool false], .int .i64 4]) (by simp [results, Try.results44, go_sem, g0, g1, g2, g3, g4, g5, g6]) rfl ?_
        subst hWW
        exact dec_bad (by rw [DE.out]; first | exact NE.out | decide) DE.out rfl (below_sevens (SF.out.bel.setCell (p := ⟨w.heap.size + 1, 2, none⟩) (by show w.heap.size ≤ w.heap.size + 1; omega) _) (Nat.le_refl _) _ _ _ _ _ _ _).drew
  · have hc2 : ¬ c = 1 := by omega
    have hc3 : ¬ c ≤ 1 := by omega
    have hc4 : (1 : Int) < c := by omega
    have hc5 : ((c : Int) == 1) = false := by simp; omega
    simp only [decide_eq_false hc2, if_neg hc3] at OPE
    have HI := fun wx h => Lib.hid (sstop_any (w.heap.size + 1) w.heap.size l t3 4 wx h (by decide))
    generalize t3.stop 4 = u at HI OPE
    have S6 := Lib.hid (S5.out.set6 (.bool false))
    obtain ⟨o0, o1, o2, o3, o4, o5, o6, of, lo⟩ := S5.out.ops
    clear hc hc1 hc2 hc3
    go_wp2_with fail
    refine (HI _ S6.out.scn).out.mono ?_
    rintro x w4 ⟨rfl, h4, ho4⟩
    have S7 := Lib.hid (S6.out.call h4 ho4)
    clear o0 o1 o2 o3 o4 o5 o6 of lo
    clear h4 ho4
    match u with
    | .bad e =>
      have NE : Hid (e ≠ 0) := S7.out.scn.1
      have DE : Hid (decE l = e) := dec_code_bad OPE.out HL.out
      have q1 : (e == 0) = false := by simpa using NE.out
      have q2 : (e != 0) = true := by simpa using NE.out
      have SF := Lib.hid (S7.out)
      obtain ⟨c2, cf, lb⟩ := S7.out.bad
      obtain ⟨o0, o1, o2, o3, o4, o5, o6, of, lo⟩ := S7.out.ops
      obtain ⟨r0, r1, r2, r3, r4, r5, r6, rf, lr⟩ := S7.out.ress
      go_wp2
      go_region
      go_simp
      rename_i K1 h1 K2 h2
      apply h2
      generalize hWW : World.drew _ = WW
      have hrw : WW.heap[w.heap.size]? = some (.cells #[.int .i64 0, .string ByteArray.empty, .int .i64 0, .int .i64 0, .slice none 0 0, .int .i64 0, .bool false] 33 (0, 0)) := by rw [← hWW]; exact block_drew (sevens_block SF.out.res _ _ _ _ _ _ _)
      go_wp2
      obtain ⟨g0, g1, g2, g3, g4, g5, g6, gf⟩ := seven_cells hrw
      refine bodyPost_ret (v := .tuple #[.agg #[.int .i64 0, .string ByteArray.empty, .int .i64 0, .int .i64 0, .slice none 0 0, .int .i64 0, .bool false], .int .i64 e]) (by simp [results, Try.results44, go_sem, g0, g1, g2, g3, g4, g5, g6]) rfl ?_
      subst hWW
      exact dec_bad (by rw [DE.out]; first | exact NE.out | decide) DE.out rfl (below_sevens SF.out.bel (Nat.le_refl _) _ _ _ _ _ _ _).drew
    | .on r =>
      have SF := Lib.hid (S7.out)
      have HVF := Lib.hid ((SlF.nil : SlF (from_ (w.heap.size + 1 + 1 + 1)) w4 3 valF none 0 0 []))
      obtain ⟨p, c0, c1, c2, cf, lb, hpl, hpr⟩ := S7.out.on
      obtain ⟨o0, o1, o2, o3, o4, o5, o6, of, lo⟩ := S7.out.ops
      obtain ⟨r0, r1, r2, r3, r4, r5, r6, rf, lr⟩ := S7.out.ress
      rcases Nat.eq_zero_or_pos r.length with hr | hr
      · have hnp : ¬ (p : Int) < n := by have := NL.out; omega
        have DE2 : Hid (decE l = wireE ⟨2, ByteArray.empty, 0, 0, m, false⟩ []) := dec_code_all OPE.out HL.out (List.eq_nil_of_length_eq_zero hr)
        have EO : Hid (decE l = 0 → decO l = ⟨2, ByteArray.empty, 0, 0, m, false⟩ ∧ decV l = []) := dec_what OPE.out
        have HW := Lib.hid (wireFault_any ⟨2, ByteArray.empty, 0, 0, m, false⟩ _ _ _ [] _ (TL.out) HVF.out.toR)
        unfold Opn.val at HW
        simp only at HW
        generalize wireE ⟨2, ByteArray.empty, 0, 0, m, false⟩ [] = E at HW DE2
        clear hr hpr
        go_wp2_with fail
        refine HW.out.mono ?_
        rintro x wq ⟨rfl, hbq⟩
        have SQ := Lib.hid (SF.out.below hbq)
        have HVQ := Lib.hid (HVF.out.below valF_firm hbq)
        clear c0 c1 c2 cf lb o0 o1 o2 o3 o4 o5 o6 of lo r0 r1 r2 r3 r4 r5 r6 rf lr
        obtain ⟨p', c0, c1, c2, cf, lb, hpl', hpr'⟩ := SQ.out.on
        obtain ⟨o0, o1, o2, o3, o4, o5, o6, of, lo⟩ := SQ.out.ops
        obtain ⟨r0, r1, r2, r3, r4, r5, r6, rf, lr⟩ := SQ.out.ress
        clear hpl' hpr' hnp
        by_cases hE : E = 0
        · subst hE
          go_wp2
          have hrw := sevens_block ((Below.heap_setCell wq ⟨w.heap.size + 1, 2, none⟩ (.int .i64 0) w.heap.size (by show w.heap.size ≠ w.heap.size + 1; omega)).trans SQ.out.res) (.int .i64 2) (.string ByteArray.empty) (.int .i64 0) (.int .i64 0) (.slice none 0 0) (.int .i64 m) (.bool false)
          obtain ⟨g0, g1, g2, g3, g4, g5, g6, gf⟩ := seven_cells hrw
          refine bodyPost_ret (v := .tuple #[.agg #[.int .i64 2, .string ByteArray.empty, .int .i64 0, .int .i64 0, .slice none 0 0, .int .i64 m, .bool false], .int .i64 0]) (by simp only [results, Try.results44]; generalize World.setCell (World.setCell _ _ _) _ _ = WW at *; simp [go_sem, g0, g1, g2, g3, g4, g5, g6]) rfl ?_
          obtain ⟨e1, e2⟩ := EO.out DE2.out
          unfold DecPost
          rw [e1, e2, DE2.out]
          exact ⟨_, _, rfl, below_sevens (SQ.out.bel.setCell (p := ⟨w.heap.size + 1, 2, none⟩) (by show w.heap.size ≤ w.heap.size + 1; omega) _) (Nat.le_refl _) _ _ _ _ _ _ _, (((HVQ.out.setLow valF_firm (p := ⟨w.heap.size + 1, 2, none⟩) (by show w.heap.size + 1 < _; omega) _).sevens valF_firm (by omega) _ _ _ _ _ _ _).above valF_firm (by omega))⟩
        · have q1 : (E == 0) = false := by simpa using hE
          have q2 : (E != 0) = true := by simpa using hE
          have NE := Lib.hid hE
          have DE := DE2
          clear hE
          go_wp2
          go_region
          go_simp
          rename_i K1 h1 K2 h2
          apply h2
          generalize hWW : World.drew _ = WW
          have hrw : WW.heap[w.heap.size]? = some (.cells #[.int .i64 0, .string ByteArray.empty, .int .i64 0, .int .i64 0, .slice none 0 0, .int .i64 0, .bool false] 33 (0, 0)) := by rw [← hWW]; exact block_drew (sevens_block ((Below.heap_setCell wq ⟨w.heap.size + 1, 2, none⟩ (.int .i64 E) w.heap.size (by show w.heap.size ≠ w.heap.size + 1; omega)).trans SQ.out.res) _ _ _ _ _ _ _)
          go_wp2
          obtain ⟨g0, g1, g2, g3, g4, g5, g6, gf⟩ := seven_cells hrw
          refine bodyPost_ret (v := .tuple #[.agg #[.int .i64 0, .string ByteArray.empty, .int .i64 0, .int .i64 0, .slice none 0 0, .int .i64 0, .bool false], .int .i64 E]) (by simp [results, Try.results44, go_sem, g0, g1, g2, g3, g4, g5, g6]) rfl ?_
          subst hWW
          exact dec_bad (by rw [DE.out]; first | exact NE.out | decide) DE.out rfl (below_sevens (SQ.out.bel.setCell (p := ⟨w.heap.size + 1, 2, none⟩) (by show w.heap.size ≤ w.heap.size + 1; omega) _) (Nat.le_refl _) _ _ _ _ _ _ _).drew
      · have hnp : (p : Int) < n := by have := NL.out; omega
        have DE : Hid (decE l = 4) := dec_code_more OPE.out HL.out hr
        have NE : Hid ((4 : Int) ≠ 0) := by show ¬ _ = _; decide
        go_wp2
        go_region
        go_simp
        rename_i K1 h1 K2 h2
        apply h2
        generalize hWW : World.drew _ = WW
        have hrw : WW.heap[w.heap.size]? = some (.cells #[.int .i64 0, .string ByteArray.empty, .int .i64 0, .int .i64 0, .slice none 0 0, .int .i64 0, .bool false] 33 (0, 0)) := by rw [← hWW]; exact block_drew (sevens_block ((Below.heap_setCell _ ⟨w.heap.size + 1, 2, none⟩ (.int .i64 4) w.heap.size (by show w.heap.size ≠ w.heap.size + 1; omega)).trans SF.out.res) _ _ _ _ _ _ _)
        go_wp2
        obtain ⟨g0, g1, g2, g3, g4, g5, g6, gf⟩ := seven_cells hrw
        refine bodyPost_ret (v := .tuple #[.agg #[.int .i64 0, .string ByteArray.empty, .int .i64 0, .int .i64 0, .slice none 0 0, .int .i64 0, .bool false], .int .i64 4]) (by simp [results, Try.results44, go_sem, g0, g1, g2, g3, g4, g5, g6]) rfl ?_
        subst hWW
        exact dec_bad (by rw [DE.out]; first | exact NE.out | decide) DE.out rfl (below_sevens (SF.out.bel.setCell (p := ⟨w.heap.size + 1, 2, none⟩) (by show w.heap.size ≤ w.heap.size + 1; omega) _) (Nat.le_refl _) _ _ _ _ _ _ _).drew
end Go.Proofs.Ytciomaeieggbiaa
