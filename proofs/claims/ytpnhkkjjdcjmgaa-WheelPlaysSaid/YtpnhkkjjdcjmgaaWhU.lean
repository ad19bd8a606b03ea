/-
  wheel's reach: a time reached, what is in its slots goes down, what is due is taken.
-/
import Derived.Test.YtpnhkkjjdcjmgaaWhT
namespace Go.Proofs.Ytpnhkkjjdcjmgaa
open Go.RowKit
set_option linter.unusedVariables false
set_option linter.unusedSimpArgs false

section
variable {At : PS → World → Prop} {b : Nat} {u w : World} {s : PS} {L : List Ent}
/-- A slice of one's own, read where it lies. -/
theorem Mem.slf {α : Type} {R : (Nat → Prop) → World → List Value → α → Prop} (hR : Firm R) {e k i : Nat} {ra : Option Addr} {n rc : Nat} {xs : List α} (M : Mem At b u w s L) (hi : L[i]? = some (slc u.heap.size e k R (.slice ra n rc) xs)) (hk : 0 < k) : SlF (fun _ => True) w k R ra n rc xs := by
  have hO : OwnF (free_ u w L) u.heap.size w e k R (.slice ra n rc) xs := M.say _ (Mem.of_get hi)
  obtain ⟨ao, cap, h1, h2⟩ := hO.done (G := fun _ => True) hR hk (fun _ _ _ => trivial)
  injection h1 with e1 e2 e3
  subst e1 e2 e3
  exact h2
theorem Mem.dn23 {y1 y2 e1 e2 e3 : Ent} (M : Mem At b u w s (y1 :: y2 :: e1 :: e2 :: e3 :: L)) : Mem At b u w s (e1 :: e2 :: e3 :: y1 :: y2 :: L) := M.perm (List.Perm.append_right L (List.perm_append_comm (l₁ := [y1, y2]) (l₂ := [e1, e2, e3])))
theorem Mem.up23 {y1 y2 e1 e2 e3 : Ent} (M : Mem At b u w s (e1 :: e2 :: e3 :: y1 :: y2 :: L)) : Mem At b u w s (y1 :: y2 :: e1 :: e2 :: e3 :: L) := M.perm (List.Perm.append_right L (List.perm_append_comm (l₁ := [e1, e2, e3]) (l₂ := [y1, y2])))
end
theorem reachW_next {t q : Nat} {W : Whl} : reachW t (q + 1) W = reachW t q (if t % 32 ^ (q + 1) = 0 then (W (q + 1) (slotN t (q + 1))).foldl (putW t) (updW W (q + 1, slotN t (q + 1)) []) else W) := rfl
theorem reachF_next {t q : Nat} {W : Whl} {f : WFn} : reachF t (q + 1) W f = reachF t q (if t % 32 ^ (q + 1) = 0 then (W (q + 1) (slotN t (q + 1))).foldl (putW t) (updW W (q + 1, slotN t (q + 1)) []) else W) (if t % 32 ^ (q + 1) = 0 then (W (q + 1) (slotN t (q + 1))).foldl (putF t) f else f) := rfl
theorem tmOk_fold (t : Nat) : ∀ (l : List Tm) (f : WFn) {x : Tm}, TmOk f x → TmOk (l.foldl (putF t) f) x
  | [], f, x, h => h
  | y :: l, f, x, h => tmOk_fold t l _ h.put
/-- What stands behind reach. -/
def ReachP (g : Nat) (w0 : World) (zc t next n : Nat) (W : Whl) (f : WFn) (L : List Ent) (e : Ending) (w : World) : Prop :=
  ∃ o v mz, e = .returned o ∧ Mem (StaysB g w0) g w0 w ⟨0, 0⟩ (slc w0.heap.size 60 3 tmF o ((reachW t 8 W) 0 (slotN t 0)) :: ClkL w0 zc t next v mz (updW (reachW t 8 W) (0, slotN t 0) []) n (reachF t 8 W f) L)
section
variable {g : Nat} {w0 : World}
set_option maxRecDepth 8000 in
set_option maxHeartbeats 8000000 in
theorem reach_any {w : World} {zc now next n : Nat} {v : Nat → Value} {mz : Option Nat} {W : Whl} {f : WFn} {L : List Ent} (M : Mem (StaysB g w0) g w0 w ⟨0, 0⟩ (ClkL w0 zc now next v mz W n f L)) (t : Nat) (ht : t ≤ 1099511627776) (hF : Fit 1000 W f) (hn : n < 1000000) :
    Calls Try.prog 21 #[.pointer (some ⟨zc, 0, none⟩), .int .i64 t] w (ReachP g w0 zc t next n W f L) := by
  have HF := Lib.hid hF
  have wt := wrap_nat (n := t) (by omega)
  clear hF
  go_enter Try.func21, Try.ntmps21
  go_wp2_with (first | (with_reducible (first | refine wq M ?_ | (refine wS M ?_; clear M; intro w M) | (refine wV M ?_; clear M; intro z w M) | (refine wR M ?_; clear M; intro q w M))))
  go_loopg [5, 6] 8 (fun f' i5 i6 wr => ∃ k : Nat, k + f' = 9 ∧ 0 < k ∧ i6 = .int .i64 k ∧ i5 = .int .i64 ((32 ^ (k - 1) : Nat) : Int) ∧ Mem (StaysB g w0) g w0 wr ⟨0, 0⟩ (ClkL w0 zc t next v mz W n f L))
  case atStart => exact ⟨1, by omega, by omega, rfl, rfl, M⟩
  case round =>
    clear M
    obtain ⟨k, hk, hk0, rfl, rfl, M⟩ := hrel
    obtain ⟨r, hr⟩ : ∃ r, 32 ^ (k - 1) = r := ⟨_, rfl⟩
    have hrb : r ≤ 1099511627776 := by rw [← hr]; exact Nat.le_trans (Nat.pow_le_pow_right (by omega) (show k - 1 ≤ 8 by omega)) (by decide)
    rw [hr]
    by_cases hlt : k < 9
    · have w1 : IntKind.i64.wrap ((r : Int) * 32) = ((r * 32 : Nat) : Int) := wrap_nat (n := r * 32) (by omega)
      have HR : Hid (r * 32 = 32 ^ (k + 1 - 1)) := by show _ = _; rw [← hr, ← Nat.pow_succ]; congr 1; omega
      clear hr
      go_wp2_with (first | (with_reducible (first | refine wq M ?_ | (refine wS M ?_; clear M; intro w M) | (refine wV M ?_; clear M; intro z w M) | (refine wR M ?_; clear M; intro q w M))))
      go_roundg (9 - (k + 1))
      case measure => omega
      case rel => exact ⟨k + 1, by omega, by omega, by go_num, by rw [← HR.out]; exact congrArg (Value.int .i64) (Int.natCast_mul r 32).symm, M⟩
    · have h9 : k = 9 := by omega
      subst h9
      rw [← hr]
      clear hr hrb
      go_wp2_with (first | (with_reducible (first | refine wq M ?_ | (refine wS M ?_; clear M; intro w M) | (refine wV M ?_; clear M; intro z w M) | (refine wR M ?_; clear M; intro q w M))))
      go_loopg [5, 7] 8 (fun f' i5 i7 wr => ∃ (m : Nat) (vm : Nat → Value) (mzm : Option Nat) (Wm : Whl) (fm : WFn), Hid (m = f') ∧ m ≤ 8 ∧ i7 = .int .i64 m ∧ i5 = .int .i64 ((32 ^ m : Nat) : Int) ∧ Mem (StaysB g w0) g w0 wr ⟨0, 0⟩ (ClkL w0 zc t next vm mzm Wm n fm L) ∧ Hid (reachW t m Wm = reachW t 8 W ∧ reachF t m Wm fm = reachF t 8 W f) ∧ Hid (Fit (1000 * 2 ^ (8 - m)) Wm fm))
      case atStart => exact ⟨8, v, mz, W, f, Lib.hid rfl, by omega, rfl, rfl, M, Lib.hid ⟨rfl, rfl⟩, Lib.hid (HF.out.wide (by decide))⟩
      case round =>
        clear M HF
        obtain ⟨m, vm, mzm, Wm, fm, HM, hm8, rfl, rfl, M, HW, HF⟩ := hrel
        obtain ⟨r, hr⟩ : ∃ r, 32 ^ m = r := ⟨_, rfl⟩
        have hrb : r ≤ 1099511627776 := by rw [← hr]; exact Nat.le_trans (Nat.pow_le_pow_right (by omega) hm8) (by decide)
        have hr0 : ¬ r = 0 := by rw [← hr]; exact Nat.pos_iff_ne_zero.1 (pow_pos32 _)
        rw [hr]
        by_cases hm0 : 0 < m
        · obtain ⟨q, hq⟩ : ∃ q, m = q + 1 := ⟨m - 1, by omega⟩
          have HB : Hid (1000 * 2 ^ (8 - q) = 2 * (1000 * 2 ^ (8 - m)) ∧ 1000 * 2 ^ (8 - m) ≤ 256000) := by
            refine ⟨?_, ?_⟩
            · rw [show 8 - q = 8 - m + 1 by omega, Nat.pow_succ]; omega
            · have h : 2 ^ (8 - m) ≤ 2 ^ 8 := Nat.pow_le_pow_right (by omega) (by omega)
              have h8 : 2 ^ 8 = 256 := by decide
              omega
          have HR : Hid (32 ^ m = r) := Lib.hid hr
          have HR2 : Hid (r / 32 = 32 ^ q) := by show _ = _; rw [← hr, hq, Nat.pow_succ, Nat.mul_div_cancel _ (by decide)]
          clear hr
          have d1 := tmod_nat t r
          have d2 := tdiv_nat t r
          have d3 := tmod_nat (t / r) 32
          have d4 : ((t / r : Nat) : Int) % 32 = ((t / r % 32 : Nat) : Int) := rfl
          have d5 : (r : Int).tdiv 32 = ((r / 32 : Nat) : Int) := tdiv_nat r 32
          have HX : Hid (t / r % 32 = slotN t m) := by show _ = _; unfold slotN; rw [HR.out]
          have HT : Hid (t % 32 ^ m = t % r) := by show _ = _; rw [HR.out]
          have hx32 : t / r % 32 < 32 := Nat.mod_lt _ (by decide)
          have hq0 : t / r ≤ t := Nat.div_le_self _ _
          have hq1 : t % r ≤ t := Nat.mod_le _ _
          have hq2 : r / 32 ≤ r := Nat.div_le_self _ _
          generalize t / r % 32 = x at *
          generalize t / r = y at *
          generalize t % r = z at *
          generalize r / 32 = r2 at *
          have w2 := wrap_nat (n := x) (by omega)
          have w3 := wrap_nat (n := y) (by omega)
          have w4 := wrap_nat (n := z) (by omega)
          have w5 := wrap_nat (n := r2) (by omega)
          have hk9 : m < 9 := by omega
          have HWN := Lib.hid (reachW_next (t := t) (q := q) (W := Wm))
          rw [← hq] at HWN
          have HFN := Lib.hid (reachF_next (t := t) (q := q) (W := Wm) (f := fm))
          rw [← hq] at HFN
          have wmq : IntKind.i64.wrap ((m : Int) - 1) = (q : Int) := by
            have e : (m : Int) - 1 = (q : Int) := by omega
            rw [e]; exact wrap_nat (by omega)
          have HMQ := Lib.hid hq
          clear hq
          rw [HT.out] at HWN HFN
          by_cases hz : z = 0
          · subst hz
            rw [if_pos rfl] at HWN HFN
            rw [if_pos rfl] at HFN
            rw [← HX.out] at HWN HFN
            have hlen := HF.out.len m x hk9 hx32
            have HAL := Lib.hid (HF.out.all m x hk9 hx32)
            have HF0 := Lib.hid (HF.out.clear (m, x))
            obtain ⟨ra, rc, hv⟩ := M.slotIs (j := 1) rfl hk9 hx32
            have HTK : Hid (∀ wx, Mem (StaysB g w0) g w0 wx ⟨0, 0⟩ (ClkL w0 zc t next vm mzm Wm n fm L) → Calls Try.prog 27 #[.pointer (some ⟨zc, 0, none⟩), plcV (m, x)] wx fun e w' => e = .returned (.slice ra (Wm m x).length rc) ∧ Mem (StaysB g w0) g w0 w' ⟨0, 0⟩ (slc w0.heap.size 60 3 tmF (.slice ra (Wm m x).length rc) (Wm m x) :: ClkL w0 zc t next (updV vm (m * 32 + x) (.slice none 0 0)) mzm (updW Wm (m, x) []) n fm L)) := fun wx Mx => by
              have := take_any Mx hk9 hx32
              rw [hv] at this
              exact this
            clear hv HF
            generalize hxs : Wm m x = xs at *
            generalize updW Wm (m, x) [] = W1 at *
            generalize updV vm (m * 32 + x) (.slice none 0 0) = v1 at *
            have HXS := Lib.hid hxs
            clear hxs
            generalize 1000 * 2 ^ (8 - m) = B at *
            have hB := HB.out.2
            go_wp2_with (first | (go_at_call 27; with_reducible refine (HTK.out _ M).mono ?_; clear M; rintro e w5 ⟨rfl, M⟩) | (with_reducible (first | refine wq M ?_ | (refine wS M ?_; clear M; intro w M) | (refine wV M ?_; clear M; intro z w M) | (refine wR M ?_; clear M; intro q w M))))
            clear HTK
            go_loopg [37] xs.length (fun f' i37 wr => ∃ (j : Nat) (vj : Nat → Value) (mzj : Option Nat), Hid (j + f' = xs.length) ∧ i37 = .int .i64 j ∧ Mem (StaysB g w0) g w0 wr ⟨0, 0⟩ (slc w0.heap.size 60 3 tmF (.slice ra xs.length rc) xs :: ClkL w0 zc t next vj mzj ((xs.take j).foldl (putW t) W1) n ((xs.take j).foldl (putF t) fm) L) ∧ Hid (Fit (B + j) ((xs.take j).foldl (putW t) W1) ((xs.take j).foldl (putF t) fm)))
            case atStart => exact ⟨0, _, _, Lib.hid (by omega), rfl, M, HF0⟩
            case round =>
              clear M HF0
              obtain ⟨j, vj, mzj, HJ, rfl, M, HFJ⟩ := hrel
              by_cases hlj : j < xs.length
              · obtain ⟨cp, op, rowp, hixp, -, hrrp, hwp⟩ := SlF.rowAt (P := Try.prog) (M.slf (plainF_firm tmC) (i := 0) rfl (by decide)) (plainF_firm tmC) Try.underlying32 size_tm (i := j) hlj
                have HRP := Lib.hid ((hwp wr (Below.refl _ _)).1)
                have ep : rowp = tmC xs[j] := hrrp
                rw [ep] at HRP
                unfold tmC at HRP
                have HXA := HAL.out xs[j] (List.getElem_mem hlj)
                have HX1 := Lib.hid (List.take_succ_eq_append_getElem hlj)
                have HLJ := Lib.hid hlj
                have HTO : Hid (TmOk ((xs.take j).foldl (putF t) fm) xs[j]) := Lib.hid (tmOk_fold t _ _ HXA)
                have HF2 : Hid (Fit (B + (j + 1)) ((xs.take (j + 1)).foldl (putW t) W1) ((xs.take (j + 1)).foldl (putF t) fm)) := by
                  show Fit _ _ _
                  rw [HX1.out, List.foldl_append, List.foldl_append]
                  exact HFJ.out.put t HTO.out
                have hfit := HFJ.out.len
                have hjB : B + j ≤ 100000000 := by omega
                have HPT : Hid (∀ wx, Mem (StaysB g w0) g w0 wx ⟨0, 0⟩ (ClkL w0 zc t next vj mzj ((xs.take j).foldl (putW t) W1) n ((xs.take j).foldl (putF t) fm) (own 0 [] 0 :: [])) → True) := fun _ _ => trivial
                clear HPT hwp hrrp ep HXA
                have HNN : Hid ((if ((xs.take j).foldl (putF t) fm xs[j].id).isSome = true then n else n + 1) = n) := if_pos HTO.out.1
                have HPW : Hid (putW t ((xs.take j).foldl (putW t) W1) xs[j] = (xs.take (j + 1)).foldl (putW t) W1) := by show _ = _; rw [HX1.out, List.foldl_append]; rfl
                have HPF : Hid (putF t ((xs.take j).foldl (putF t) fm) xs[j] = (xs.take (j + 1)).foldl (putF t) fm) := by show _ = _; rw [HX1.out, List.foldl_append]; rfl
                have hta := HTO.out.2.1
                have HTI := Lib.hid HTO.out.2.2
                have HPL : Hid (∀ k i, k < 9 → i < 32 → (((xs.take j).foldl (putW t) W1) k i).length ≤ 100000000) := fun k i hk hi => Nat.le_trans (hfit k i hk hi) hjB
                clear hfit hjB HX1 HTO HFJ
                generalize xs[j] = x0 at *
                generalize (xs.take j).foldl (putW t) W1 = Wj at *
                generalize (xs.take j).foldl (putF t) fm = fj at *
                generalize hWj1 : (xs.take (j + 1)).foldl (putW t) W1 = Wj1 at *
                generalize hfj1 : (xs.take (j + 1)).foldl (putF t) fm = fj1 at *
                have HWJ1 := Lib.hid hWj1
                have HFJ1 := Lib.hid hfj1
                clear hWj1 hfj1
                go_wp2_with (first | (go_at_call 17; have hq := put_any M.dn23 x0 ht hta HPL.out HTI.out hn; with_reducible refine hq.mono ?_; clear hq M; rintro e w5 ⟨rfl, vj2, mzj2, M⟩; rw [HPW.out, HPF.out, HNN.out] at M; replace M := M.up23) | (with_reducible (first | refine wA HRP.out ?_ | (refine wV M ?_; clear M; intro z9 w M) | refine wq M ?_ | (refine wS M ?_; clear M; intro w M) | (refine wV M ?_; clear M; intro z w M) | (refine wR M ?_; clear M; intro q w M))))
                go_roundg (xs.length - (j + 1))
                case measure => have := HJ.out; have := HLJ.out; omega
                case rel => exact ⟨j + 1, _, _, Lib.hid (by have := HLJ.out; omega), by go_num, by rw [HWJ1.out, HFJ1.out]; exact M.drop, by rw [HWJ1.out, HFJ1.out]; exact HF2⟩
              · have e1 : j = xs.length := by have := HJ.out; omega
                have HFE : Hid (Fit (1000 * 2 ^ (8 - q)) (xs.foldl (putW t) W1) (xs.foldl (putF t) fm)) := by
                  have h1 := HFJ.out
                  rw [e1, List.take_length] at h1
                  exact h1.wide (by rw [HB.out.1]; omega)
                rw [e1, List.take_length] at M
                have hjn : ¬ (j : Int) < (xs.length : Int) := by omega
                clear HFJ e1 HAL
                generalize xs.foldl (putW t) W1 = WE at *
                generalize xs.foldl (putF t) fm = fE at *
                go_wp2_with (first | (with_reducible (first | refine wq M ?_ | (refine wS M ?_; clear M; intro w M) | (refine wV M ?_; clear M; intro z w M) | (refine wR M ?_; clear M; intro q w M))))
                go_roundg q
                case measure => have := HM.out; have := HMQ.out; omega
                case rel => exact ⟨q, _, _, _, _, Lib.hid rfl, by have := HMQ.out; omega, by go_num, by rw [HR2.out], M.drop, Lib.hid ⟨HWN.out.symm.trans HW.out.1, HFN.out.symm.trans HW.out.2⟩, HFE⟩
          · have hzb : ((z : Int) == 0) = false := beq_eq_false_iff_ne.2 (by omega)
            rw [if_neg hz] at HWN HFN
            rw [if_neg hz] at HFN
            have HF1 : Hid (Fit (1000 * 2 ^ (8 - q)) Wm fm) := Lib.hid (HF.out.wide (by rw [HB.out.1]; omega))
            clear HF
            go_wp2_with (first | (with_reducible (first | refine wq M ?_ | (refine wS M ?_; clear M; intro w M) | (refine wV M ?_; clear M; intro z w M) | (refine wR M ?_; clear M; intro q w M))))
            go_roundg q
            case measure => have := HM.out; have := HMQ.out; omega
            case rel => exact ⟨q, _, _, _, _, Lib.hid rfl, by have := HMQ.out; omega, by go_num, by rw [HR2.out], M, Lib.hid ⟨HWN.out.symm.trans HW.out.1, HFN.out.symm.trans HW.out.2⟩, HF1⟩
        · have e0 : m = 0 := by omega
          subst e0
          have HW1 : Hid (reachW t 8 W = Wm ∧ reachF t 8 W f = fm) := Lib.hid ⟨HW.out.1.symm, HW.out.2.symm⟩
          clear HW HF hr hr0 hrb
          have d1 : (t : Int).tmod 32 = ((t % 32 : Nat) : Int) := tmod_nat t 32
          have d2 : (t : Int) % 32 = ((t % 32 : Nat) : Int) := rfl
          have HX : Hid (t % 32 = slotN t 0) := by show _ = _; unfold slotN; simp
          have hx32 : t % 32 < 32 := Nat.mod_lt _ (by decide)
          generalize t % 32 = x at *
          have w2 := wrap_nat (n := x) (by omega)
          go_wp2_with (first | (go_at_call 27; have hq := take_any (k := 0) M (by decide) hx32; rw [Nat.zero_mul, Nat.zero_add] at hq; change Calls _ _ #[_, .agg ([.int .i64 0, .int .i64 x] : List Value).toArray] _ _ at hq; go_loud (with_reducible refine hq.mono ?_); clear hq M; rintro e w5 ⟨rfl, M⟩) | (with_reducible (first | refine wq M ?_ | (refine wS M ?_; clear M; intro w M) | (refine wV M ?_; clear M; intro z w M) | (refine wR M ?_; clear M; intro q w M))))
          go_ret
          unfold ReachP
          rw [HW1.out.1, HW1.out.2, ← HX.out]
          exact ⟨_, _, _, rfl, M⟩
end
end Go.Proofs.Ytpnhkkjjdcjmgaa
