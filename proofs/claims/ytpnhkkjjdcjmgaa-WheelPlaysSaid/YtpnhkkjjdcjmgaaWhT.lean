/-
  wheel's nearest: the first slot behind now that has anything.
-/
import Derived.Test.YtpnhkkjjdcjmgaaWhS
namespace Go.Proofs.Ytpnhkkjjdcjmgaa
open Go.RowKit
set_option linter.unusedVariables false
set_option linter.unusedSimpArgs false

/-- What nearest finds: a slot, or none. -/
def NearO (now : Nat) (W : Whl) : Option (Nat × Nat) → Prop
  | none => ∀ v u, v < 9 → u < 32 → slotN now v < u → W v u = []
  | some p => Near now W p.1 p.2
abbrev nearV (now : Nat) : Option (Nat × Nat) → Value
  | none => .tuple #[.int .i64 0, .bool false]
  | some p => .tuple #[.int .i64 (begS now p.1 p.2), .bool true]
theorem least_one {p : Nat → Prop} : ∀ n, p n → ∃ m, p m ∧ ∀ k, k < m → ¬ p k := fun n => by
  classical
  induction n using Nat.strongRecOn with
  | _ n ih =>
    intro h
    by_cases hx : ∃ k, k < n ∧ p k
    · obtain ⟨k, hk, hp⟩ := hx
      exact ih k hk hp
    · exact ⟨n, h, fun k hk hp => hx ⟨k, hk, hp⟩⟩
theorem nearO_any (now : Nat) (W : Whl) (h : ∀ v u, v < 9 → u ≤ slotN now v → W v u = []) : ∃ o, NearO now W o := by
  classical
  by_cases hx : ∀ v u, v < 9 → u < 32 → slotN now v < u → W v u = []
  · exact ⟨none, hx⟩
  · obtain ⟨n, hn⟩ : ∃ n, ∃ v u, v < 9 ∧ u < 32 ∧ slotN now v < u ∧ W v u ≠ [] ∧ n = v * 32 + u := by
      apply Classical.byContradiction
      intro hc
      refine hx fun v u hv hu hs => Classical.byContradiction fun hW => hc ⟨_, v, u, hv, hu, hs, hW, rfl⟩
    obtain ⟨m, ⟨v, u, hv, hu, hs, hW, he⟩, hmin⟩ : ∃ m, (∃ v u, v < 9 ∧ u < 32 ∧ slotN now v < u ∧ W v u ≠ [] ∧ m = v * 32 + u) ∧ ∀ k, k < m → ¬ ∃ v u, v < 9 ∧ u < 32 ∧ slotN now v < u ∧ W v u ≠ [] ∧ k = v * 32 + u :=
      least_one n hn
    refine ⟨some (v, u), ⟨hv, hu, hs, hW, fun a b ha hb => ?_, fun b hb => ?_⟩⟩
    · apply Classical.byContradiction
      intro hW2
      by_cases hs2 : slotN now a < b
      · exact hmin (a * 32 + b) (by simp only at *; omega) ⟨a, b, by simp only at *; omega, hb, hs2, hW2, rfl⟩
      · exact hW2 (h a b (by simp only at *; omega) (by omega))
    · apply Classical.byContradiction
      intro hW2
      by_cases hs2 : slotN now v < b
      · exact hmin (v * 32 + b) (by simp only at *; omega) ⟨v, b, hv, by simp only at *; omega, hs2, hW2, rfl⟩
      · exact hW2 (h v b hv (by omega))
theorem NearO.at_ {now : Nat} {W : Whl} {o : Option (Nat × Nat)} (h : NearO now W o) {k j : Nat} (hk : k < 9) (hj : j < 32) (hs : slotN now k < j) (hW : W k j ≠ []) (he : ∀ a b, a < 9 → b < 32 → slotN now a < b → a < k ∨ a = k ∧ b < j → W a b = []) : o = some (k, j) := by
  cases o with
  | none => exact absurd (h k j hk hj hs) hW
  | some p =>
    obtain ⟨a, b⟩ := p
    have N : Near now W a b := h
    by_cases h1 : a < k ∨ a = k ∧ b < j
    · exact absurd (he a b N.w9 N.s32 N.behind h1) N.any
    · by_cases h2 : a = k
      · subst h2
        by_cases h3 : b = j
        · rw [h3]
        · exact absurd (N.first j (by omega)) hW
      · exact absurd (N.low k j (by omega) hj) hW
theorem NearO.end_ {now : Nat} {W : Whl} {o : Option (Nat × Nat)} (h : NearO now W o) (he : ∀ a b, a < 9 → b < 32 → slotN now a < b → W a b = []) : o = none := by
  cases o with
  | none => rfl
  | some p => exact absurd (he p.1 p.2 h.w9 h.s32 h.behind) h.any
/-- What was seen, so far, is empty. -/
def Seen (now : Nat) (W : Whl) (k j : Nat) : Prop := ∀ a b, a < 9 → b < 32 → slotN now a < b → a < k ∨ a = k ∧ b < j → W a b = []
theorem Seen.step {now : Nat} {W : Whl} {k j : Nat} (h : Seen now W k j) (hW : W k j = []) : Seen now W k (j + 1) := fun a b ha hb hs hx => by
  by_cases e : a = k ∧ b = j
  · rw [e.1, e.2]; exact hW
  · exact h a b ha hb hs (by omega)
theorem Seen.next {now : Nat} {W : Whl} {k : Nat} (h : Seen now W k 32) : Seen now W (k + 1) 0 := fun a b ha hb hs hx => h a b ha hb hs (by omega)
theorem Seen.skip {now : Nat} {W : Whl} {k : Nat} (h : Seen now W k 0) : Seen now W k (slotN now k + 1) := fun a b ha hb hs hx => h a b ha hb hs (by
  rcases hx with hx | ⟨rfl, hx⟩
  · exact .inl hx
  · omega)
section
variable {g : Nat} {w0 : World}
set_option maxRecDepth 8000 in
set_option maxHeartbeats 8000000 in
theorem nearest_any {w : World} {zc now next n : Nat} {v : Nat → Value} {mz : Option Nat} {W : Whl} {f : WFn} {L : List Ent} (M : Mem (StaysB g w0) g w0 w ⟨0, 0⟩ (ClkL w0 zc now next v mz W n f L)) (hn : now ≤ 1099511627776) {o : Option (Nat × Nat)} (ho : NearO now W o) :
    Calls Try.prog 20 #[.pointer (some ⟨zc, 0, none⟩)] w fun e w' => e = .returned (nearV now o) ∧ Mem (StaysB g w0) g w0 w' ⟨0, 0⟩ (ClkL w0 zc now next v mz W n f L) := by
  have HO := Lib.hid ho
  clear ho
  go_enter Try.func20, Try.ntmps20
  go_wp2_with (first | (with_reducible (first | refine wq M ?_ | (refine wS M ?_; clear M; intro w M) | (refine wV M ?_; clear M; intro z w M) | (refine wR M ?_; clear M; intro q w M))))
  go_loopg [4, 5, 6, 7, 8] 9 (fun f' i4 i5 i6 i7 i8 wr => ∃ k : Nat, k + f' = 9 ∧ i8 = .int .i64 k ∧ i4 = .int .i64 ((32 ^ k : Nat) : Int) ∧ Mem (StaysB g w0) g w0 wr ⟨0, 0⟩ (ClkL w0 zc now next v mz W n f L) ∧ Hid (Seen now W k 0))
  case atStart => exact ⟨0, by omega, rfl, rfl, M, Lib.hid (fun a b _ _ _ hx => by omega)⟩
  case round =>
    clear M
    obtain ⟨k, hk, rfl, rfl, M, HS⟩ := hrel
    by_cases hlt : k < 9
    · obtain ⟨r, hr⟩ : ∃ r, 32 ^ k = r := ⟨_, rfl⟩
      have HR : Hid (32 ^ k = r) := Lib.hid hr
      have HP : Hid (32 ^ (k + 1) = r * 32) := by show _ = _; rw [← hr, Nat.pow_succ]
      have hrb : r ≤ 1099511627776 := by rw [← hr]; exact Nat.le_trans (Nat.pow_le_pow_right (by omega) (show k ≤ 8 by omega)) (by decide)
      have hr0 : ¬ r = 0 := by rw [← hr]; exact Nat.pos_iff_ne_zero.1 (pow_pos32 _)
      rw [hr]
      clear hr
      have w1 : IntKind.i64.wrap ((r : Int) * 32) = ((r * 32 : Nat) : Int) := wrap_nat (n := r * 32) (by omega)
      obtain ⟨p, hp⟩ : ∃ p, r * 32 = p := ⟨_, rfl⟩
      rw [hp] at w1
      have hp0 : ¬ p = 0 := by omega
      have hpb : p ≤ 35184372088832 := by omega
      have HPP := Lib.hid hp
      clear hp
      have d1 := tdiv_nat now p
      have d2 := tdiv_nat now r
      have d3 := tmod_nat (now / r) 32
      have d4 : ((now / r : Nat) : Int) % 32 = ((now / r % 32 : Nat) : Int) := rfl
      have HY : Hid (now / p * p = now / 32 ^ (k + 1) * 32 ^ (k + 1)) := by show _ = _; rw [HP.out, HPP.out]
      have HX : Hid (now / r % 32 = slotN now k) := by show _ = _; unfold slotN; rw [HR.out]
      have hyy : now / p * p ≤ now := Nat.div_mul_le_self _ _
      have hy0 : now / p ≤ now := Nat.div_le_self _ _
      have hx0 : now / r ≤ now := Nat.div_le_self _ _
      have hx32 : now / r % 32 < 32 := Nat.mod_lt _ (by decide)
      have m1 : ((now / p : Nat) : Int) * (p : Int) = ((now / p * p : Nat) : Int) := (Int.natCast_mul _ _).symm
      generalize now / r % 32 = x at *
      generalize now / p * p = base at *
      generalize now / p = y at *
      generalize now / r = x2 at *
      have w2 := wrap_nat (n := y) (by omega)
      have w3 := wrap_nat (n := base) (by omega)
      have w4 := wrap_nat (n := x2) (by omega)
      have w5 := wrap_nat (n := x) (by omega)
      have w6 : IntKind.i64.wrap ((x : Int) + 1) = ((x + 1 : Nat) : Int) := wrap_nat (n := x + 1) (by omega)
      go_wp2_with (first | (with_reducible (first | refine wq M ?_ | (refine wS M ?_; clear M; intro w M) | (refine wV M ?_; clear M; intro z w M) | (refine wR M ?_; clear M; intro q w M))))
      go_loopg [7] (32 - (x + 1)) (fun f' i7 wr => ∃ j : Nat, j + f' = 32 ∧ x < j ∧ i7 = .int .i64 j ∧ Mem (StaysB g w0) g w0 wr ⟨0, 0⟩ (ClkL w0 zc now next v mz W n f L) ∧ Hid (Seen now W k j))
      case atStart => exact ⟨x + 1, by omega, by omega, rfl, M, by have := HS.out.skip; rw [← HX.out] at this; exact Lib.hid this⟩
      case round =>
        clear M HS
        obtain ⟨j, hj, hxj, rfl, M, HS⟩ := hrel
        by_cases hlj : j < 32
        · have hix1 := fun wx => wheel_ix (z := zc) hlt wx
          have hix2 := fun wx => slot_ix (z := zc) (k := k) hlj wx
          obtain ⟨ra, rc, hv⟩ := M.slotIs (j := 1) rfl hlt hlj
          have HG : Hid ((clkC now next v (.map mz))[2 + k * 32 + j]? = some (.slice ra (W k j).length rc)) := by show _ = _; rw [clkC_get hlt hlj, hv]
          have HSW : Hid (W k j = [] → Seen now W k (j + 1)) := HS.out.step
          clear hv
          by_cases hW : W k j = []
          · have HS2 := Lib.hid (HSW.out hW)
            have hl0 : (W k j).length = 0 := by rw [hW]; rfl
            have HL := Lib.hid hl0
            rw [hl0] at HG
            clear hW hl0 HSW
            go_wp2_with (first | (with_reducible (first | refine w_ (q_get M HG.out ?_) | refine wq M ?_ | (refine wS M ?_; clear M; intro w M) | (refine wV M ?_; clear M; intro z w M) | (refine wR M ?_; clear M; intro q w M))))
            go_roundg (32 - (j + 1))
            case measure => omega
            case rel => exact ⟨j + 1, by omega, by omega, by go_num, M, HS2⟩
          · have hlp : 0 < (W k j).length := List.length_pos_iff.2 hW
            have HR2 : Hid (o = some (k, j) ∧ base + j * r = begS now k j) := by
              refine ⟨HO.out.at_ hlt hlj (by rw [← HX.out]; exact hxj) hW HS.out, ?_⟩
              unfold begS
              rw [HY.out, HR.out]
            clear HSW HS hW
            generalize (W k j).length = len at *
            have hjr : j * r ≤ 32 * r := Nat.mul_le_mul_right r (by omega)
            have m2 : (j : Int) * (r : Int) = ((j * r : Nat) : Int) := (Int.natCast_mul _ _).symm
            generalize j * r = jr at *
            have w7 := wrap_nat (n := jr) (by omega)
            have w8 : IntKind.i64.wrap ((base : Int) + (jr : Int)) = ((base + jr : Nat) : Int) := wrap_nat (n := base + jr) (by omega)
            go_wp2_with (first | (with_reducible (first | refine w_ (q_get M HG.out ?_) | refine wq M ?_ | (refine wS M ?_; clear M; intro w M) | (refine wV M ?_; clear M; intro z w M) | (refine wR M ?_; clear M; intro q w M))))
            go_ret2
            rw [HR2.out.1]
            refine ⟨?_, M⟩
            show _ = Ending.returned (.tuple #[.int .i64 ((begS now k j : Nat) : Int), .bool true])
            rw [← HR2.out.2]
            rfl
        · have e : j = 32 := by omega
          have HN : Hid (Seen now W (k + 1) 0) := by have h1 := HS.out; rw [e] at h1; exact Lib.hid h1.next
          clear HS
          have HQ : Hid (p = 32 ^ (k + 1)) := by show _ = _; rw [HP.out, HPP.out]
          have w9 := wrap_nat (n := p) (by omega)
          rw [← HPP.out] at w9
          go_wp2_with (first | (with_reducible (first | refine wq M ?_ | (refine wS M ?_; clear M; intro w M) | (refine wV M ?_; clear M; intro z w M) | (refine wR M ?_; clear M; intro q w M))))
          go_roundg (9 - (k + 1))
          case measure => omega
          case rel => exact ⟨k + 1, by omega, by go_num, by rw [← HQ.out], M, HN⟩
    · have HE : Hid (o = none) := HO.out.end_ (fun a b ha hb hs => HS.out a b ha hb hs (.inl (by omega)))
      have h9 : ¬ (k : Int) < 9 := by omega
      go_wp2_with (first | (with_reducible (first | refine wq M ?_ | (refine wS M ?_; clear M; intro w M) | (refine wV M ?_; clear M; intro z w M) | (refine wR M ?_; clear M; intro q w M))))
      go_ret2
      rw [HE.out]
      exact ⟨rfl, M⟩
end
end Go.Proofs.Ytpnhkkjjdcjmgaa
