/-
  wheel's level: the level and the slot of a time.
-/
import Derived.Test.YtpnhkkjjdcjmgaaWhP
namespace Go.Proofs.Ytpnhkkjjdcjmgaa
open Go.RowKit
set_option linter.unusedVariables false
set_option linter.unusedSimpArgs false

theorem tdiv_nat (a b : Nat) : (a : Int).tdiv (b : Int) = ((a / b : Nat) : Int) := rfl
theorem tmod_nat (a b : Nat) : (a : Int).tmod (b : Int) = ((a % b : Nat) : Int) := rfl
theorem wrap_nat {n : Nat} (h : n < 9223372036854775808) : IntKind.i64.wrap (n : Int) = n := by
  simp [IntKind.wrap, IntKind.bits, IntKind.signed]; omega
theorem pow_small {k : Nat} (h : k ≤ 9) : 32 ^ k ≤ 35184372088832 := by
  calc 32 ^ k ≤ 32 ^ 9 := Nat.pow_le_pow_right (by omega) h
    _ = 35184372088832 := by decide
/-- The loop's way: from level k on. -/
theorem lvlN_step {now a f k : Nat} (h : a / 32 ^ (k + 1) ≠ now / 32 ^ (k + 1)) : lvlN now a (f + 1) k = lvlN now a f (k + 1) := by
  show (if _ then _ else _) = _
  rw [if_neg h]
theorem lvlN_stop {now a f k : Nat} (h : a / 32 ^ (k + 1) = now / 32 ^ (k + 1)) : lvlN now a f k = k := by
  cases f with
  | zero => rfl
  | succ f => show (if _ then _ else _) = _; rw [if_pos h]
set_option maxRecDepth 8000 in
set_option maxHeartbeats 4000000 in
theorem level_any {w : World} {z now a : Nat} (hz : z < w.heap.size) (hc : w.cell? ⟨z, 0, none⟩ = some (.int .i64 now)) (hn : now ≤ 1099511627776) (ha : a ≤ 1099511627776) :
    Calls Try.prog 25 #[.pointer (some ⟨z, 0, none⟩), .int .i64 a] w fun e w' => e = .returned (plcV (placeN now a)) ∧ Below w.heap.size w w' := by
  have M := Mem.begin (b := z) hz ⟨0, 0⟩
  have HB : Hid (∀ wx, Below w.heap.size w wx → wx.cell? ⟨z, 0, none⟩ = some (.int .i64 now)) := fun wx hb => ((bcell hb).1 _ _ hz).trans hc
  clear hc
  go_enter Try.func25, Try.ntmps25
  go_wp2_with (first | (with_reducible (first | (refine wV M ?_; clear M; intro zp w1 M) | refine wq M ?_ | (refine wS M ?_; clear M; intro w M) | (refine wV M ?_; clear M; intro z w M) | (refine wR M ?_; clear M; intro q w M))))
  go_loopg [5, 6] 9 (fun f' i5 i6 wr => ∃ k : Nat, k + f' = 9 ∧ k ≤ 8 ∧ i6 = .int .i64 k ∧ i5 = .int .i64 ((32 ^ (k + 1) : Nat) : Int) ∧ Mem (StaysB z w) z w wr ⟨0, 0⟩ [own zp [.int .i64 0, .int .i64 0] 56] ∧ Hid (lvlN now a (8 - k) k = lvlOf now a))
  case atStart => exact ⟨0, by omega, by omega, rfl, rfl, M, Lib.hid rfl⟩
  case round =>
    clear M
    obtain ⟨k, hk, hk8, rfl, rfl, M, HL⟩ := hrel
    obtain ⟨r, hr⟩ : ∃ r, 32 ^ k = r := ⟨_, rfl⟩
    have hp : 32 ^ (k + 1) = r * 32 := by rw [← hr, Nat.pow_succ]
    have hrb : r ≤ 1099511627776 := by rw [← hr]; exact Nat.le_trans (Nat.pow_le_pow_right (by omega) hk8) (by decide)
    have hr0 : ¬ r = 0 := by rw [← hr]; exact Nat.pos_iff_ne_zero.1 (pow_pos32 _)
    have HS := Lib.hid (lvlN_step (now := now) (a := a) (f := 8 - (k + 1)) (k := k))
    have HT := Lib.hid (lvlN_stop (now := now) (a := a) (f := 8 - k) (k := k))
    have HP : Hid (32 ^ (k + 1) = r * 32) := Lib.hid hp
    have HR : Hid (32 ^ k = r) := Lib.hid hr
    obtain ⟨p, hpr⟩ : ∃ p, r * 32 = p := ⟨_, rfl⟩
    rw [hp, hpr]
    have e1 : (p : Int).tdiv 32 = (r : Int) := by have := tdiv_nat p 32; rw [show p / 32 = r by omega] at this; exact this
    have HQ : Hid (r * 32 = p) := Lib.hid hpr
    have hpb : p ≤ 35184372088832 := by omega
    have hp0 : ¬ p = 0 := by omega
    clear hpr hp hr
    have d1 := tdiv_nat a p
    have d2 := tdiv_nat now p
    have d3 := tdiv_nat a r
    have d4 : ((a / r : Nat) : Int).tmod 32 = ((a / r % 32 : Nat) : Int) := tmod_nat (a / r) 32
    have q1 : a / p ≤ a := Nat.div_le_self _ _
    have q2 : now / p ≤ now := Nat.div_le_self _ _
    have q3 : a / r ≤ a := Nat.div_le_self _ _
    have q4 : a / r % 32 < 32 := Nat.mod_lt _ (by decide)
    have HE : Hid (a / p = a / 32 ^ (k + 1) ∧ now / p = now / 32 ^ (k + 1)) := by show _ ∧ _; rw [HP.out, HQ.out]; exact ⟨rfl, rfl⟩
    have HF : Hid (a / r % 32 = slotN a k) := by show _ = _; unfold slotN; rw [HR.out]
    have w3 : IntKind.i64.wrap ((a : Int)) = a := wrap_nat (by omega)
    have w5 : IntKind.i64.wrap ((r : Int)) = r := wrap_nat (by omega)
    generalize a / r % 32 = x4 at *
    generalize a / r = x3 at *
    have w6 := wrap_nat (n := x3) (by omega)
    have w7 := wrap_nat (n := x4) (by omega)
    by_cases hlt : k < 8
    · generalize a / p = x at *
      generalize now / p = y at *
      have w1 := wrap_nat (n := x) (by omega)
      have w2 := wrap_nat (n := y) (by omega)
      have w4 : IntKind.i64.wrap ((p : Int) * 32) = ((p * 32 : Nat) : Int) := wrap_nat (n := p * 32) (by omega)
      by_cases hxy : x = y
      · have hb : ((x : Int) == (y : Int)) = true := by simp [hxy]
        have HV : Hid (placeN now a = (k, x4)) := by
          show _ = _
          have h1 := HT.out (by rw [← HE.out.1, ← HE.out.2, hxy])
          have h2 : lvlOf now a = k := by rw [← HL.out, h1]
          unfold placeN
          rw [h2, HF.out]
        clear HE HS HT HL hxy
        go_wp2_with (first | (with_reducible (first | refine wq M ?_ | (refine wS M ?_; clear M; intro w M) | (refine wV M ?_; clear M; intro z w M) | (refine wR M ?_; clear M; intro q w M))))
        ((refine wp_region_calm M (by kernel_rfl) (by kernel_rfl) ?_); (repeat (first | ((with_reducible refine c_list rfl fun K hK => ?_); (first | (refine c_load (l' := ?_) ⟨_, M⟩ (fun w M => ?_) ?_; rotate_left; focus ((first | (refine q_cellat (HB.out _ M.new) ?_) | refine q_get M (by exact rfl) ?_ | refine q_all M (by rfl) ?_ | refine q_prt M (by rfl) ?_); refine ⟨rfl, ?_⟩; with_reducible rfl)) | (refine c_pure (v := ?_) (fun w => ?_) ?_; rotate_left; focus (go_simp; try with_reducible rfl))); (try go_simp); with_reducible refine hK _ ?_; clear hK K) | ((with_reducible refine c_listg fun K hK => ?_); (first | (refine c_load (l' := ?_) ⟨_, M⟩ (fun w M => ?_) ?_; rotate_left; focus ((first | (refine q_cellat (HB.out _ M.new) ?_) | refine q_get M (by exact rfl) ?_ | refine q_all M (by rfl) ?_ | refine q_prt M (by rfl) ?_); refine ⟨rfl, ?_⟩; with_reducible rfl)) | (refine c_pure (v := ?_) (fun w => ?_) ?_; rotate_left; focus (go_simp; try with_reducible rfl))); (try go_simp); with_reducible refine hK _ ?_; clear hK K) | (with_reducible refine c_skipT ?_) | (with_reducible refine c_skipF ?_))); (refine wpQuiet_nil ?_); clear M; intro w M)
        go_wp2_with (first | (with_reducible (first | refine wq M ?_ | (refine wS M ?_; clear M; intro w M) | (refine wV M ?_; clear M; intro z w M) | (refine wR M ?_; clear M; intro q w M))))
        ((with_reducible refine body_id ?_); (refine q_ret M Try.results25 (by rfl) ?_))
        exact ⟨by rw [HV.out], M.new⟩
      · have hb : ((x : Int) == (y : Int)) = false := beq_eq_false_iff_ne.2 (by omega)
        have HN : Hid (lvlN now a (8 - (k + 1)) (k + 1) = lvlOf now a) := by
          show _ = _
          rw [← HL.out, show 8 - k = 8 - (k + 1) + 1 by omega]
          exact (HS.out (by rw [← HE.out.1, ← HE.out.2]; exact hxy)).symm
        have HG : Hid (p * 32 = 32 ^ (k + 1 + 1)) := by show _ = _; rw [Nat.pow_succ, HP.out, HQ.out]
        clear HE HS HT HL hxy
        go_wp2_with (first | (with_reducible (first | refine wq M ?_ | (refine wS M ?_; clear M; intro w M) | (refine wV M ?_; clear M; intro z w M) | (refine wR M ?_; clear M; intro q w M))))
        ((refine wp_region_calm M (by kernel_rfl) (by kernel_rfl) ?_); (repeat (first | ((with_reducible refine c_list rfl fun K hK => ?_); (first | (refine c_load (l' := ?_) ⟨_, M⟩ (fun w M => ?_) ?_; rotate_left; focus ((first | (refine q_cellat (HB.out _ M.new) ?_) | refine q_get M (by exact rfl) ?_ | refine q_all M (by rfl) ?_ | refine q_prt M (by rfl) ?_); refine ⟨rfl, ?_⟩; with_reducible rfl)) | (refine c_pure (v := ?_) (fun w => ?_) ?_; rotate_left; focus (go_simp; try with_reducible rfl))); (try go_simp); with_reducible refine hK _ ?_; clear hK K) | ((with_reducible refine c_listg fun K hK => ?_); (first | (refine c_load (l' := ?_) ⟨_, M⟩ (fun w M => ?_) ?_; rotate_left; focus ((first | (refine q_cellat (HB.out _ M.new) ?_) | refine q_get M (by exact rfl) ?_ | refine q_all M (by rfl) ?_ | refine q_prt M (by rfl) ?_); refine ⟨rfl, ?_⟩; with_reducible rfl)) | (refine c_pure (v := ?_) (fun w => ?_) ?_; rotate_left; focus (go_simp; try with_reducible rfl))); (try go_simp); with_reducible refine hK _ ?_; clear hK K) | (with_reducible refine c_skipT ?_) | (with_reducible refine c_skipF ?_))); (refine wpQuiet_nil ?_); clear M; intro w M)
        go_wp2_with (first | (with_reducible (first | refine wq M ?_ | (refine wS M ?_; clear M; intro w M) | (refine wV M ?_; clear M; intro z w M) | (refine wR M ?_; clear M; intro q w M))))
        go_roundg (9 - (k + 1))
        case measure => omega
        case rel => exact ⟨k + 1, by omega, by omega, by go_num, by rw [← HG.out]; exact congrArg (Value.int .i64) (Int.natCast_mul p 32).symm, M, HN⟩
    · have HV : Hid (placeN now a = (k, x4)) := by
        show _ = _
        have e8 : k = 8 := by omega
        have h2 : lvlOf now a = k := by rw [← HL.out, e8]; rfl
        unfold placeN
        rw [h2, HF.out]
      clear HE HS HT HL
      have hb8 : (decide ((k : Int) < 8)) = false := by simp; omega
      go_wp2_with (first | (with_reducible (first | refine wq M ?_ | (refine wS M ?_; clear M; intro w M) | (refine wV M ?_; clear M; intro z w M) | (refine wR M ?_; clear M; intro q w M))))
      ((with_reducible refine body_id ?_); (refine q_ret M Try.results25 (by rfl) ?_))
      exact ⟨by rw [HV.out], M.new⟩
end Go.Proofs.Ytpnhkkjjdcjmgaa
