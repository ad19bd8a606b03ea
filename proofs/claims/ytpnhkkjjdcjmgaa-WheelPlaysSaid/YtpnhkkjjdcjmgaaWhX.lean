/-
  slices.DeleteFunc by a timer's number, walked.
-/
import Derived.Test.YtpnhkkjjdcjmgaaWhW
namespace Go.Proofs.Ytpnhkkjjdcjmgaa
open Go.RowKit
set_option linter.unusedVariables false
set_option linter.unusedSimpArgs false

section
variable {g : Nat} {w0 : World}
set_option maxRecDepth 8000 in
set_option maxHeartbeats 8000000 in
theorem delF_any {w : World} {zid i k rc : Nat} {id : Int} {ra : Option Addr} {xs : List Tm} {L : List Ent} (M : Mem (StaysB g w0) g w0 w ⟨0, 0⟩ (slc w0.heap.size 60 3 tmF (.slice ra xs.length rc) xs :: L)) (hi : L[i]? = some (own zid [.int .i64 id] 3)) (hk : k < xs.length) (hid : xs[k].id = id) (hbe : ∀ j (h : j < xs.length), j < k → xs[j].id ≠ id) (hn : xs.length ≤ 100000000) :
    Calls Try.prog 18 #[.slice ra xs.length rc, .func (.func 19) #[] #[.pointer (some ⟨zid, 0, none⟩)]] w fun e w' => e = .returned (.slice ra (xs.filter fun t => !(t.id == id)).length rc) ∧ Mem (StaysB g w0) g w0 w' ⟨0, 0⟩ (slc w0.heap.size 60 3 tmF (.slice ra (xs.filter fun t => !(t.id == id)).length rc) (xs.filter fun t => !(t.id == id)) :: L) := by
  have hx0 : xs ≠ [] := by intro e; rw [e] at hk; exact absurd hk (Nat.not_lt_zero _)
  obtain ⟨zg, sp0, rc0, ev, -, hnr, hmr, -⟩ := M.opened hx0
  injection ev with ev1 ev2 ev3
  subst ev1 ev3
  have HST := Lib.hid (DelI.start hk hid hbe)
  have HIX := Lib.hid (idx_any M hi hk hid hbe hn)
  have HX0 := Lib.hid hx0
  have HHI := Lib.hid hi
  have hmr2 : rc ≤ 9223372036854775807 := hmr
  have hk1 : ((k : Int) == -1) = false := beq_eq_false_iff_ne.2 (by omega)
  clear hbe hx0 hi hid
  go_enter Try.func18, Try.ntmps18
  go_wp2_with (first | (go_at_call 26; with_reducible refine HIX.out.mono ?_; clear HIX M; rintro e w5 ⟨rfl, M⟩) | (with_reducible (first | refine wq M ?_ | (refine wS M ?_; clear M; intro w M) | (refine wV M ?_; clear M; intro z w M) | (refine wR M ?_; clear M; intro q w M))))
  obtain ⟨zg', sp, rc', ev, hsp, -, -, M⟩ := M.opened HX0.out
  injection ev with ev1 ev2 ev3
  injection ev1 with ev1
  injection ev1 with ev1
  subst ev1 ev3
  have HSP := Lib.hid hsp
  clear hsp ev2
  go_loopg [5, 6] (xs.length - (k + 1)) (fun f' i5 i6 wr => ∃ (i j : Nat) (ys : List Tm), Hid (j + f' = xs.length) ∧ i5 = .int .i64 i ∧ i6 = .int .i64 j ∧ Mem (StaysB g w0) g w0 wr ⟨0, 0⟩ (own zg (rowsC ys ++ sp) 60 :: L) ∧ Hid (DelI xs id i j ys))
  case atStart => exact ⟨k, k + 1, xs, Lib.hid (by omega), rfl, by go_num, M, HST⟩
  case round =>
    clear M HST
    obtain ⟨i, j, ys, HJ, rfl, rfl, M, HD⟩ := hrel
    have hij := HD.out.lt
    have hjx := HD.out.le
    have HLN := Lib.hid HD.out.len
    by_cases hjl : j < xs.length
    · have hjy : j < ys.length := by have := HLN.out; omega
      have hiy : i < ys.length := by omega
      have hixj := fun wx => rows_ix (g := zg) (rc := rc) hjl wx
      have hixi := fun wx => rows_ix (g := zg) (rc := rc) (show i < xs.length by omega) wx
      have HE : Hid (ys[j] = xs[j]) := by
        have h1 := HD.out.high j (Nat.le_refl j)
        rw [List.getElem?_eq_getElem hjy, List.getElem?_eq_getElem hjl] at h1
        exact Lib.hid (Option.some.inj h1)
      have HRP : Hid (∀ wx, Mem (StaysB g w0) g w0 wx ⟨0, 0⟩ (own zg (rowsC ys ++ sp) 60 :: L) → wx.rangeAt zg (j * 3) [.int .i64 xs[j].id, .int .i64 xs[j].at_, .int .i64 xs[j].ord]) := fun wx Mx => by rw [← HE.out]; exact Mx.rowR hjy
      have HC : Hid (∀ wx e2, Mem (StaysB g w0) g w0 wx ⟨0, 0⟩ (e2 :: own zg (rowsC ys ++ sp) 60 :: L) → Calls Try.prog 19 #[.agg #[.int .i64 xs[j].id, .int .i64 xs[j].at_, .int .i64 xs[j].ord], .pointer (some ⟨zid, 0, none⟩)] wx fun e w' => e = .returned (.bool (xs[j].id == id)) ∧ Below wx.heap.size wx w') := fun wx e2 Mx => isId_any (Mx.drop.drop.ne (Mem.of_get HHI.out)).2.2 (by rw [(Mx.drop.drop.own_ (Mem.of_get HHI.out)).cell]; rfl) xs[j]
      have HK : Hid (xs[j].id ≠ id → DelI xs id (i + 1) (j + 1) (ys.set i xs[j])) := HD.out.keep hjl
      have HSK : Hid (xs[j].id = id → DelI xs id i (j + 1) ys) := HD.out.skip hjl
      clear HE HD hjy
      by_cases he : xs[j].id = id
      · have hb : (xs[j].id == id) = true := beq_iff_eq.2 he
        have HD2 := Lib.hid (HSK.out he)
        rw [hb] at HC
        clear hb HK HSK he hiy
        generalize xs[j] = x0 at *
        go_wp2_with (first | (go_at_call 19; with_reducible refine (HC.out _ _ M).mono ?_; rintro e w5 ⟨rfl, hb5⟩; replace M := M.below hb5; clear hb5) | (with_reducible (first | refine wA (HRP.out _ M) ?_ | (refine wV M ?_; clear M; intro zt w M) | refine wq M ?_ | (refine wS M ?_; clear M; intro w M) | (refine wV M ?_; clear M; intro z w M) | (refine wR M ?_; clear M; intro q w M))))
        go_roundg (xs.length - (j + 1))
        case measure => have := HJ.out; omega
        case rel => exact ⟨i, j + 1, ys, Lib.hid (by omega), rfl, by go_num, M.drop, HD2⟩
      · have hb : (xs[j].id == id) = false := beq_eq_false_iff_ne.2 he
        have HD2 := Lib.hid (HK.out he)
        rw [hb] at HC
        clear hb HK HSK he
        generalize xs[j] = x0 at *
        have ex : (⟨x0.id, x0.at_, x0.ord⟩ : Tm) = x0 := rfl
        go_wp2_with (first | (go_at_call 19; with_reducible refine (HC.out _ _ M).mono ?_; rintro e w5 ⟨rfl, hb5⟩; replace M := M.below hb5; clear hb5) | (with_reducible (first | refine wA (HRP.out _ M) ?_ | (refine wV M ?_; clear M; intro zt w M) | (refine w_ (q_rowput (x := x0) M (i := 1) rfl hiy ?_); clear M; intro w M; (try simp only [List.set_cons_zero, List.set_cons_succ] at M)) | refine wq M ?_ | (refine wS M ?_; clear M; intro w M) | (refine wV M ?_; clear M; intro z w M) | (refine wR M ?_; clear M; intro q w M))))
        go_roundg (xs.length - (j + 1))
        case measure => have := HJ.out; omega
        case rel => exact ⟨i + 1, j + 1, _, Lib.hid (by omega), by go_num, by go_num, M.drop, HD2⟩
    · have e1 : j = xs.length := by omega
      have hin : i < xs.length := by omega
      have HFI : Hid ((xs.filter fun t => !(t.id == id)) = ys.take i) := by
        have h1 := HD.out.low
        rw [e1, List.take_length] at h1
        exact Lib.hid h1.symm
      have HFL : Hid ((ys.take i).length = i) := by have := HLN.out; show _ = _; rw [List.length_take]; omega
      have hs1 := fun wx => slice_lo (g := zg) hin hnr wx
      have hs2 := fun wx => slice_hi (g := zg) hin hnr wx
      have hs3 := fun wx => (run_sliceAt_slice (P := Try.prog) wx 32 (.slice (some ⟨zg, 0, none⟩) xs.length rc) (some (.int .i64 i)) none none Try.underlying32).trans (hs1 wx)
      have hs4 := fun wx => (run_sliceAt_slice (P := Try.prog) wx 32 (.slice (some ⟨zg, 0, none⟩) xs.length rc) none (some (.int .i64 i)) none Try.underlying32).trans (hs2 wx)
      have hcm : 0 < xs.length - i := by omega
      have HCP : Hid (i * 3 + (xs.length - i) * 3 ≤ (rowsC ys ++ sp).length) := by
        have := HLN.out
        show _ ≤ _
        rw [List.length_append, rowsC_len]; omega
      have HSL : Hid ((rowsC ys ++ sp).length = rc * 3) := by
        have h1 := HSP.out
        show _ = _
        rw [List.length_append, rowsC_len] at h1 ⊢
        rw [HLN.out]; exact h1
      clear HD HJ
      go_wp2_with (first | (with_reducible (first | (refine w_ (q_clear M (i := 0) rfl hcm HCP.out ?_); clear M; intro w vs hvs M; (try simp only [List.set_cons_zero, List.set_cons_succ] at M)) | refine wq M ?_ | (refine wS M ?_; clear M; intro w M) | (refine wV M ?_; clear M; intro z w M) | (refine wR M ?_; clear M; intro q w M))))
      go_ret
      rw [HFI.out, HFL.out]
      refine ⟨rfl, ?_⟩
      rw [laid_take, rowsC_take ys sp i (by have := HLN.out; omega)] at M
      have h5 := M.closed (rc := rc) (by
        have h6 := HSL.out
        have h7 := HLN.out
        rw [List.length_append, rowsC_len] at h6
        rw [List.length_append, rowsC_len, HFL.out, List.length_append, List.length_drop, List.length_append, rowsC_len, hvs]
        omega) (by rw [HFL.out]; omega) hmr
      rw [HFL.out] at h5
      exact h5
end
end Go.Proofs.Ytpnhkkjjdcjmgaa
