/-
  wheel.Play. Printed by wig.py.
-/
import Derived.Test.YtpnhkkjjdcjmgaaWiG
import Derived.OwnWalk
namespace Go.Proofs.Ytpnhkkjjdcjmgaa
open Go.RowKit
set_option linter.unusedVariables false
set_option linter.unusedSimpArgs false

section
variable {dst : Option Tmp} {oty : TypeId} {pos : String} {after : Array Edge} {g : Option (Nat × Bool)} {l l' : List Value} {ds : List Deferred} {Q : Exit → Act → World → Prop} {K : Act → World → Prop} {w : World} {j : Nat} {n : Int}
theorem q_buildclk [hx : Nth l j (.int .i64 n)] [hd : PutI l dst (.agg (.int .i64 n :: .int .i64 0 :: slotC (fun _ => .slice none 0 0) (.map none)).toArray) l'] (h : K ⟨l'.toArray, ds⟩ w) : OWP Try.prog ⟨dst, .build 38 #[(0, .tmp j)], oty, pos, after, g⟩ ⟨l.toArray, ds⟩ w K Q := by
  refine owp_of ?_
  have hk : K (Act.put ⟨l.toArray, ds⟩ dst (.agg (.int .i64 n :: .int .i64 0 :: slotC (fun _ => .slice none 0 0) (.map none)).toArray)) w := by rw [hd.put]; exact h
  unfold Oper.wp execOp
  simp only [List.map_toArray, List.map_cons, List.map_nil, eval_tmp hx.nth, Sem.run_bind, Sem.run_pure, build_clk n w, Result.andThen_ok]
  exact hk
end
section
variable {At : PS → World → Prop} {b : Nat} {u w : World} {s : PS} {L : List Ent} {e1 e2 e3 y1 y2 y3 y4 : Ent}
theorem Mem.dn33 (M : Mem At b u w s (y1 :: y2 :: y3 :: e1 :: e2 :: e3 :: L)) : Mem At b u w s (e1 :: e2 :: e3 :: y1 :: y2 :: y3 :: L) := M.perm (List.Perm.append_right L (List.perm_append_comm (l₁ := [y1, y2, y3]) (l₂ := [e1, e2, e3])))
theorem Mem.up33 (M : Mem At b u w s (e1 :: e2 :: e3 :: y1 :: y2 :: y3 :: L)) : Mem At b u w s (y1 :: y2 :: y3 :: e1 :: e2 :: e3 :: L) := M.perm (List.Perm.append_right L (List.perm_append_comm (l₁ := [e1, e2, e3]) (l₂ := [y1, y2, y3])))
theorem Mem.up33a {x : Ent} (M : Mem At b u w s (x :: e1 :: e2 :: e3 :: y1 :: y2 :: y3 :: L)) : Mem At b u w s (x :: y1 :: y2 :: y3 :: e1 :: e2 :: e3 :: L) := M.perm ((List.Perm.append_right L (List.perm_append_comm (l₁ := [e1, e2, e3]) (l₂ := [y1, y2, y3]))).cons x)
end
theorem clkI_begin {now : Nat} (h : now ≤ 1099511627776) : ClkI ⟨now, [], 0⟩ (fun _ _ => []) (fun _ => none) 0 :=
  ⟨WOk.begin h, ⟨h, fun t ht => (by cases ht), fun w s _ _ => by simp⟩, Wher.none_, rfl⟩
/-- wheel's Pass, whatever it answers. -/
theorem pass_any {g : Nat} {w0 : World} {w : World} {zc n : Nat} {v : Nat → Value} {mz : Option Nat} {W : Whl} {f : WFn} {L : List Ent} {st : WSt} (M : Mem (StaysB g w0) g w0 w ⟨0, 0⟩ (ClkL w0 zc st.now st.next v mz W n f L)) (I : ClkI st W f n) (d : Ded) (hnx : st.next ≤ 100000) :
    Calls Try.prog 10 #[.pointer (some ⟨zc, 0, none⟩), .int .i64 d.at_] w (PassP g w0 zc st d L) := by
  by_cases h : d.at_ < st.now ∨ 1099511627776 < d.at_
  · exact pass_bad M I d h
  · have hd : d.at_ = ((d.at_.toNat : Nat) : Int) := by omega
    have := pass_good M I d hnx d.at_.toNat hd (by omega) (by omega)
    rwa [← hd] at this
section
variable {g : Nat} {w0 : World}
set_option maxRecDepth 8000 in
set_option maxHeartbeats 8000000 in
theorem play_none (now : Int) (a1 : Option Addr) (c1 : Nat) (w : World) :
    Calls Try.prog 4 #[.int .i64 now, .slice a1 0 c1] w (PlayP (playR now []) w) := by
  have hb := fun n wx => build_clk n wx
  unfold PlayP
  by_cases h1 : now < 0
  · have hr : playR now [] = ([], [], 2) := by unfold playR; rw [if_pos (.inl h1)]
    rw [hr]
    go_enter Try.func4, Try.ntmps4
    go_wp2
    go_ret3
    exact ⟨_, _, _, _, _, _, rfl, Below.refl _ _, SlF.nil, SlF.nil⟩
  · by_cases h2 : 1099511627776 < now
    · have hr : playR now [] = ([], [], 2) := by unfold playR; rw [if_pos (.inr h2)]
      rw [hr]
      go_enter Try.func4, Try.ntmps4
      go_wp2
      go_ret3
      exact ⟨_, _, _, _, _, _, rfl, Below.refl _ _, SlF.nil, SlF.nil⟩
    · have hr : playR now [] = ([], [], 0) := by unfold playR; rw [if_neg (by omega), if_neg (by simp)]; rfl
      rw [hr]
      go_enter Try.func4, Try.ntmps4
      go_wp2_with (first | (refine w_ (q_buildclk (n := _) ?_)) | fail)
      refine wp_loop_rounds 1 ?_
      rw [rounds_succ]
      go_wp2
      go_ret3
      exact ⟨_, _, _, _, _, _, rfl, (by repeat (first | exact Below.refl _ _ | assumption | refine below_step ?_ (by assumption) | refine below_step ?_ (Joins.below_draws _ _ _) | (refine Below.alloc ?_ (by first | omega | (simp; done) | (simp; omega)) _) | (refine Below.setCell ?_ (by first | omega | (simp; done) | (simp; omega)) _) | refine Below.drew ?_)), SlF.nil, SlF.nil⟩
set_option maxRecDepth 8000 in
set_option maxHeartbeats 8000000 in
theorem play_bad (hg : g < w0.heap.size) (now : Int) (l : List Ded) (a1 : Option Addr) (n1 c1 : Nat) (hn : n1 = l.length) (h : now < 0 ∨ 1099511627776 < now ∨ 2000 < l.length) :
    Calls Try.prog 4 #[.int .i64 now, .slice a1 n1 c1] w0 (PlayP (playR now l) w0) := by
  subst hn
  unfold PlayP
  by_cases h1 : now < 0
  · have hr : playR now l = ([], [], 2) := by unfold playR; rw [if_pos (.inl h1)]
    rw [hr]
    go_enter Try.func4, Try.ntmps4
    go_wp2
    go_ret3
    exact ⟨_, _, _, _, _, _, rfl, Below.refl _ _, SlF.nil, SlF.nil⟩
  · by_cases h2 : 1099511627776 < now
    · have hr : playR now l = ([], [], 2) := by unfold playR; rw [if_pos (.inr h2)]
      rw [hr]
      go_enter Try.func4, Try.ntmps4
      go_wp2
      go_ret3
      exact ⟨_, _, _, _, _, _, rfl, Below.refl _ _, SlF.nil, SlF.nil⟩
    · have h3 : 2000 < l.length := by omega
      have hr : playR now l = ([], [], 1) := by unfold playR; rw [if_neg (by omega), if_pos h3]
      rw [hr]
      have h4 : (2000 : Int) < (l.length : Int) := by omega
      go_enter Try.func4, Try.ntmps4
      go_wp2
      go_ret3
      exact ⟨_, _, _, _, _, _, rfl, Below.refl _ _, SlF.nil, SlF.nil⟩
set_option maxRecDepth 8000 in
set_option maxHeartbeats 16000000 in
theorem play_main (hg : g < w0.heap.size) (nw : Nat) (hnw : nw ≤ 1099511627776) (l : List Ded) (F : Nat → Prop) (a1 : Option Addr) (n1 c1 : Nat) (X : SlF F w0 3 dedF a1 n1 c1 l) (hl : l.length ≤ 2000) :
    Calls Try.prog 4 #[.int .i64 nw, .slice a1 n1 c1] w0 (PlayP (playR nw l) w0) := by
  have M := Mem.begin hg ⟨0, 0⟩
  have HR : Hid (playR nw l = (codesL nw l l.length, duesL nw l l.length, 0)) := by
    show _ = _
    unfold playR
    rw [if_neg (by omega), if_neg (by omega)]
    rfl
  have HX := Lib.hid X
  have HN : Hid (n1 = l.length) := Lib.hid X.len
  have hle := X.le
  have hn2000 : n1 ≤ 2000 := by have := X.len; omega
  have h1 : ¬ (nw : Int) < 0 := by omega
  have h2 : ¬ 1099511627776 < (nw : Int) := by omega
  have h3 : ¬ 2000 < (n1 : Int) := by omega
  have HCB := Lib.hid (clkI_begin hnw)
  clear X hl
  go_enter Try.func4, Try.ntmps4
  go_upto_region 6 with (first | (with_reducible (first | refine w_ (q_buildclk (n := _) ?_) | (refine wB M ?_; clear M; intro zc w1 M) | refine wq M ?_ | (refine wS M ?_; clear M; intro w M) | (refine wV M ?_; clear M; intro z w M) | (refine wR M ?_; clear M; intro q w M))))
  replace M := ((M.mapEmpty Try.prog 3).slotsNone (plainF_firm tmC) 60 3 288 (fun _ => True)).swap2.swap
  replace M := (M.none_ intsF_firm 41 1).none_ (plainF_firm fun x : Int => [Value.int .i64 x]) 25 1
  go_wp2_with (first | (with_reducible (first | refine wq M ?_ | (refine wS M ?_; clear M; intro w M) | (refine wV M ?_; clear M; intro z w M) | (refine wR M ?_; clear M; intro q w M))))
  go_loopg [8, 9, 28] n1 (fun f' i8 i9 i28 wr => ∃ (k : Nat) (r1 : Option Addr) (k1 : Nat) (r2 : Option Addr) (k2 : Nat) (v : Nat → Value) (mz : Option Nat) (W : Whl) (f : WFn) (m : Nat), k + f' = n1 ∧ i28 = .int .i64 k ∧ i8 = .slice r1 k k1 ∧ i9 = .slice r2 k k2 ∧ Mem (StaysB g w0) g w0 wr ⟨0, 0⟩ (slc w0.heap.size 25 1 numF (.slice r1 k k1) (codesL nw l k) :: slc w0.heap.size 41 1 intsF (.slice r2 k k2) (duesL nw l k) :: ClkL w0 zc (atW nw l k).now (atW nw l k).next v mz W m f []) ∧ Hid (ClkI (atW nw l k) W f m))
  case atStart => exact ⟨0, none, 0, none, 0, _, none, fun _ _ => [], fun _ => none, 0, by omega, rfl, rfl, rfl, M, HCB⟩
  case round =>
    clear M HCB
    obtain ⟨k, r1, k1, r2, k2, v, mz, W, f, m, hk, rfl, rfl, rfl, M, HI⟩ := hrel
    by_cases hlt : k < n1
    · have hkl : k < l.length := by have := HN.out; omega
      obtain ⟨cr, or, rowr, hixr, -, hrrr, hwr⟩ := SlF.rowAt (P := Try.prog) HX.out dedF_firm Try.underlying22 size_ded (i := k) hkl
      have er : rowr = dedC l[k] := hrrr.1
      have HWF := Lib.hid hrrr.2
      rw [er] at hwr
      have HRW : Hid (∀ wx, Below w0.heap.size w0 wx → wx.rangeAt cr or [.int .i64 l[k].kind, .int .i64 l[k].id, .int .i64 l[k].at_]) := fun wx hb => (hwr wx hb).1
      have HCN := Lib.hid (codesL_next (now := nw) hkl)
      have HDN := Lib.hid (duesL_next (now := nw) hkl)
      have HAT := Lib.hid (atW_next (now := nw) hkl)
      have HCL := Lib.hid (codesL_len nw l k)
      have HDL := Lib.hid (duesL_len nw l k)
      have hnx : (atW nw l k).next ≤ 100000 := by have := atW_next_le (now := nw) (l := l) k (by omega); omega
      clear er hrrr hwr
      generalize l[k] = d at *
      have HC8 : Hid ((codesL nw l k).length ≤ 100000000) := by show _ ≤ _; rw [HCL.out]; omega
      have HD8 : Hid ((duesL nw l k).length ≤ 100000000) := by show _ ≤ _; rw [HDL.out]; omega
      have HSET : Hid (∀ wx L2, Mem (StaysB g w0) g w0 wx ⟨0, 0⟩ (ClkL w0 zc (atW nw l k).now (atW nw l k).next v mz W m f L2) → Calls Try.prog 8 #[.pointer (some ⟨zc, 0, none⟩), .agg #[.int .i64 d.kind, .int .i64 d.id, .int .i64 d.at_]] wx (SetP g w0 zc (atW nw l k) d L2)) := fun wx L2 Mx => set_any Mx HI.out d hnx
      have HCLR : Hid (∀ wx L2, Mem (StaysB g w0) g w0 wx ⟨0, 0⟩ (ClkL w0 zc (atW nw l k).now (atW nw l k).next v mz W m f L2) → Calls Try.prog 9 #[.pointer (some ⟨zc, 0, none⟩), .int .i64 d.id] wx (ClearP g w0 zc (atW nw l k) d L2)) := fun wx L2 Mx => clear_any Mx HI.out d HWF.out
      have HPAS : Hid (∀ wx L2, Mem (StaysB g w0) g w0 wx ⟨0, 0⟩ (ClkL w0 zc (atW nw l k).now (atW nw l k).next v mz W m f L2) → Calls Try.prog 10 #[.pointer (some ⟨zc, 0, none⟩), .int .i64 d.at_] wx (PassP g w0 zc (atW nw l k) d L2)) := fun wx L2 Mx => pass_any Mx HI.out d hnx
      unfold SetP at HSET
      unfold ClearP at HCLR
      unfold PassP at HPAS
      obtain ⟨cs, hcs⟩ : ∃ cs, codesL nw l k = cs := ⟨_, rfl⟩
      obtain ⟨dl, hdl⟩ : ∃ dl, duesL nw l k = dl := ⟨_, rfl⟩
      rw [hcs] at M HCN HCL HC8
      rw [hdl] at M HDN HDL HD8
      clear hcs hdl
      generalize atW nw l k = st at *
      by_cases hk1 : d.kind = 1
      · have HCV : Hid (codeW st d = codeSet st d ∧ dueW st d = [] ∧ stepW st d = setW st d) := by
          unfold codeW dueW stepW
          rw [if_pos hk1, if_pos hk1, if_neg (by omega)]
          exact ⟨rfl, rfl, rfl⟩
        have hq1 : (d.kind == 1) = true := beq_iff_eq.2 hk1
        rw [HCV.out.1] at HCN
        rw [HCV.out.2.1] at HDN
        rw [HCV.out.2.2] at HAT
        clear HCV hk1 HCLR HPAS
        generalize codeSet st d = cd at *
        generalize setW st d = st2 at *
        go_upto_region 20 with (first | (go_at_call 8; with_reducible refine (HSET.out _ _ M.dn33).mono ?_; clear HSET M; go_loud (rintro e w5 ⟨rfl, v2, mz2, W2, f2, m2, M, hi2⟩); replace M := M.up33; have HI2 := Lib.hid hi2; clear hi2) | (with_reducible (first | refine wA (HRW.out _ M.new) ?_ | (refine wV M ?_; clear M; intro z11 w M) | refine wq M ?_ | (refine wS M ?_; clear M; intro w M) | (refine wV M ?_; clear M; intro z w M) | (refine wR M ?_; clear M; intro q w M))))
        go_wp2_with (first | (((with_reducible refine o_list rfl fun K hK => ?_); (refine q_app (R := numF) (plainF_firm _) M 2 rfl cd rfl (by rfl) (by rfl) HC8.out ?_; clear M; intro ra3 rc3 w M; (try simp only [List.set_cons_zero, List.set_cons_succ] at M)); refine hK _ _ ?_; clear hK K)) | (((with_reducible refine o_list rfl fun K hK => ?_); (refine q_app (R := intsF) intsF_firm M 4 rfl [] ⟨none, 0, 0, rfl, SlF.nil⟩ (by rfl) (by rfl) HD8.out ?_; clear M; intro ra4 rc4 w M; (try simp only [List.set_cons_zero, List.set_cons_succ] at M)); refine hK _ _ ?_; clear hK K)) | (with_reducible (first | (refine w_ (q_rowv M ?_); clear M; intro q w M) | refine wq M ?_ | (refine wS M ?_; clear M; intro w M) | (refine wV M ?_; clear M; intro z w M) | (refine wR M ?_; clear M; intro q w M))))
        go_roundg (n1 - (k + 1))
        case measure => omega
        case rel => exact ⟨k + 1, ra3, rc3, ra4, rc4, v2, mz2, W2, f2, m2, by omega, by go_num, by rw [HCL.out], by rw [HDL.out], by rw [HCN.out, HDN.out, HAT.out]; rw [HCL.out, HDL.out] at M; exact M.drop.drop.drop, by rw [HAT.out]; exact HI2⟩
      · have hq1 : (d.kind == 1) = false := beq_eq_false_iff_ne.2 hk1
        by_cases hk2 : d.kind = 2
        · have HCV : Hid (codeW st d = codeClear st d ∧ dueW st d = [] ∧ stepW st d = clearW st d) := by
            unfold codeW dueW stepW
            rw [if_neg hk1, if_neg hk1, if_pos hk2, if_pos hk2, if_neg (by omega)]
            exact ⟨rfl, rfl, rfl⟩
          have hq2 : (d.kind == 2) = true := beq_iff_eq.2 hk2
          rw [HCV.out.1] at HCN
          rw [HCV.out.2.1] at HDN
          rw [HCV.out.2.2] at HAT
          clear HCV hk1 hk2 HSET HPAS
          generalize codeClear st d = cd at *
          generalize clearW st d = st2 at *
          go_upto_region 20 with (first | (go_at_call 9; with_reducible refine (HCLR.out _ _ M.dn33).mono ?_; clear HCLR M; go_loud (rintro e w5 ⟨rfl, v2, mz2, W2, f2, m2, M, hi2⟩); replace M := M.up33; have HI2 := Lib.hid hi2; clear hi2) | (with_reducible (first | refine wA (HRW.out _ M.new) ?_ | (refine wV M ?_; clear M; intro z11 w M) | refine wq M ?_ | (refine wS M ?_; clear M; intro w M) | (refine wV M ?_; clear M; intro z w M) | (refine wR M ?_; clear M; intro q w M))))
          go_wp2_with (first | (((with_reducible refine o_list rfl fun K hK => ?_); (refine q_app (R := numF) (plainF_firm _) M 2 rfl cd rfl (by rfl) (by rfl) HC8.out ?_; clear M; intro ra3 rc3 w M; (try simp only [List.set_cons_zero, List.set_cons_succ] at M)); refine hK _ _ ?_; clear hK K)) | (((with_reducible refine o_list rfl fun K hK => ?_); (refine q_app (R := intsF) intsF_firm M 4 rfl [] ⟨none, 0, 0, rfl, SlF.nil⟩ (by rfl) (by rfl) HD8.out ?_; clear M; intro ra4 rc4 w M; (try simp only [List.set_cons_zero, List.set_cons_succ] at M)); refine hK _ _ ?_; clear hK K)) | (with_reducible (first | (refine w_ (q_rowv M ?_); clear M; intro q w M) | refine wq M ?_ | (refine wS M ?_; clear M; intro w M) | (refine wV M ?_; clear M; intro z w M) | (refine wR M ?_; clear M; intro q w M))))
          go_roundg (n1 - (k + 1))
          case measure => omega
          case rel => exact ⟨k + 1, ra3, rc3, ra4, rc4, v2, mz2, W2, f2, m2, by omega, by go_num, by rw [HCL.out], by rw [HDL.out], by rw [HCN.out, HDN.out, HAT.out]; rw [HCL.out, HDL.out] at M; exact M.drop.drop.drop, by rw [HAT.out]; exact HI2⟩
        · have hq2 : (d.kind == 2) = false := beq_eq_false_iff_ne.2 hk2
          by_cases hk3 : d.kind = 3
          · have HCV : Hid (codeW st d = codePass st d ∧ dueW st d = duesW st d ∧ stepW st d = passW st d) := by
              unfold codeW dueW stepW
              rw [if_neg hk1, if_neg hk1, if_neg hk2, if_neg hk2, if_pos hk3, if_pos hk3, if_pos hk3]
              exact ⟨rfl, rfl, rfl⟩
            have hq3 : (d.kind == 3) = true := beq_iff_eq.2 hk3
            rw [HCV.out.1] at HCN
            rw [HCV.out.2.1] at HDN
            rw [HCV.out.2.2] at HAT
            clear HCV hk1 hk2 hk3 HSET HCLR
            generalize codePass st d = cd at *
            generalize duesW st d = du at *
            generalize passW st d = st2 at *
            go_upto_region 20 with (first | (go_at_call 10; with_reducible refine (HPAS.out _ _ M.dn33).mono ?_; clear HPAS M; go_loud (rintro e w5 ⟨vo, rfl, v2, mz2, W2, f2, m2, M, hi2⟩); replace M := M.up33a; have HI2 := Lib.hid hi2; clear hi2; obtain ⟨ao, cap, hvo, M9⟩ := M.done (plainF_firm fun x : Int => [Value.int .i64 x]) (by decide); subst hvo; clear M; have M := M9; clear M9) | (with_reducible (first | refine wA (HRW.out _ M.new) ?_ | (refine wV M ?_; clear M; intro z11 w M) | refine wq M ?_ | (refine wS M ?_; clear M; intro w M) | (refine wV M ?_; clear M; intro z w M) | (refine wR M ?_; clear M; intro q w M))))
            go_wp2_with (first | (((with_reducible refine o_list rfl fun K hK => ?_); (refine q_app (R := numF) (plainF_firm _) M 3 rfl cd rfl (by rfl) (by rfl) HC8.out ?_; clear M; intro ra3 rc3 w M; (try simp only [List.set_cons_zero, List.set_cons_succ] at M)); refine hK _ _ ?_; clear hK K)) | (((with_reducible refine o_list rfl fun K hK => ?_); (refine q_app (R := intsF) intsF_firm M 5 rfl du ⟨ao, _, cap, rfl, M.dat_ (i := 2) rfl⟩ (by rfl) (by rfl) HD8.out ?_; clear M; intro ra4 rc4 w M; (try simp only [List.set_cons_zero, List.set_cons_succ] at M)); refine hK _ _ ?_; clear hK K)) | (with_reducible (first | (refine w_ (q_rowv M ?_); clear M; intro q w M) | refine wq M ?_ | (refine wS M ?_; clear M; intro w M) | (refine wV M ?_; clear M; intro z w M) | (refine wR M ?_; clear M; intro q w M))))
            go_roundg (n1 - (k + 1))
            case measure => omega
            case rel => exact ⟨k + 1, ra3, rc3, ra4, rc4, v2, mz2, W2, f2, m2, by omega, by go_num, by rw [HCL.out], by rw [HDL.out], by rw [HCN.out, HDN.out, HAT.out]; rw [HCL.out, HDL.out] at M; exact M.drop.drop.drop.drop, by rw [HAT.out]; exact HI2⟩
          · have hq3 : (d.kind == 3) = false := beq_eq_false_iff_ne.2 hk3
            have HCV : Hid (codeW st d = 3 ∧ dueW st d = [] ∧ stepW st d = st) := by
              unfold codeW dueW stepW
              rw [if_neg hk1, if_neg hk1, if_neg hk2, if_neg hk2, if_neg hk3, if_neg hk3, if_neg hk3]
              exact ⟨rfl, rfl, rfl⟩
            rw [HCV.out.1] at HCN
            rw [HCV.out.2.1] at HDN
            rw [HCV.out.2.2] at HAT
            have HI2 := HI
            clear HCV hk1 hk2 hk3 HSET HCLR HPAS
            go_upto_region 20 with (first | (with_reducible (first | refine wA (HRW.out _ M.new) ?_ | (refine wV M ?_; clear M; intro z11 w M) | refine wq M ?_ | (refine wS M ?_; clear M; intro w M) | (refine wV M ?_; clear M; intro z w M) | (refine wR M ?_; clear M; intro q w M))))
            go_wp2_with (first | (((with_reducible refine o_list rfl fun K hK => ?_); (refine q_app (R := numF) (plainF_firm _) M 2 rfl 3 rfl (by rfl) (by rfl) HC8.out ?_; clear M; intro ra3 rc3 w M; (try simp only [List.set_cons_zero, List.set_cons_succ] at M)); refine hK _ _ ?_; clear hK K)) | (((with_reducible refine o_list rfl fun K hK => ?_); (refine q_app (R := intsF) intsF_firm M 4 rfl [] ⟨none, 0, 0, rfl, SlF.nil⟩ (by rfl) (by rfl) HD8.out ?_; clear M; intro ra4 rc4 w M; (try simp only [List.set_cons_zero, List.set_cons_succ] at M)); refine hK _ _ ?_; clear hK K)) | (with_reducible (first | (refine w_ (q_rowv M ?_); clear M; intro q w M) | refine wq M ?_ | (refine wS M ?_; clear M; intro w M) | (refine wV M ?_; clear M; intro z w M) | (refine wR M ?_; clear M; intro q w M))))
            go_roundg (n1 - (k + 1))
            case measure => omega
            case rel => exact ⟨k + 1, ra3, rc3, ra4, rc4, v, mz, W, f, m, by omega, by go_num, by rw [HCL.out], by rw [HDL.out], by rw [HCN.out, HDN.out, HAT.out]; rw [HCL.out, HDL.out] at M; exact M.drop.drop.drop, by rw [HAT.out]; exact HI2⟩
    · have e : k = n1 := by omega
      have hkk : ¬ (k : Int) < (n1 : Int) := by omega
      have HKL : Hid (k = l.length) := by show _ = _; rw [e]; exact HN.out
      go_wp2_with (first | (with_reducible (first | refine wq M ?_ | (refine wS M ?_; clear M; intro w M) | (refine wV M ?_; clear M; intro z w M) | (refine wR M ?_; clear M; intro q w M))))
      go_ret3
      unfold PlayP
      rw [HR.out]
      simp only
      rw [← HKL.out]
      obtain ⟨ao, cap, hvo, M2⟩ := M.done (plainF_firm fun x : Int => [Value.int .i64 x]) (by decide)
      obtain ⟨ao2, cap2, hvo2, M3⟩ := M2.swap.done intsF_firm (by decide)
      injection hvo with h5 h6 h7
      injection hvo2 with h8 h9 h10
      subst h5 h7 h8 h10
      have h11 := M3.dat_ (i := 0) rfl
      have h12 := M3.dat_ (i := 1) rfl
      refine ⟨_, _, _, _, _, _, rfl, M.new, ?_, ?_⟩
      · have h13 := SlF.same h12 (plainF_firm _) (Same.wide fun kk hkk _ => hkk.1)
        rw [← h6] at h13
        rw [← e]
        exact h13
      · have h13 := SlF.same h11 intsF_firm (Same.wide fun kk hkk _ => hkk.1)
        rw [← h9] at h13
        rw [← e]
        exact h13
end
end Go.Proofs.Ytpnhkkjjdcjmgaa
