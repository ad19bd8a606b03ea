/-
  The walks of numbers written as digits: lex.digits and its reference.
-/
import Derived.Test.YtenchgdlkbdpdaaDoorTokX
import Derived.Laws.IdiomStrings
import Derived.Lib.RabinKarpLaws
namespace Go.Proofs.YtenchgdlkbdpdaaDoor
open Go.RowKit
set_option linter.unusedVariables false
set_option linter.unusedSimpArgs false

def dig1 (n : Nat) : ByteArray := ⟨#[UInt8.ofNat (48 + n)]⟩
/-- A number's digits. -/
def decB : Nat → Nat → ByteArray
  | 0, n => dig1 n
  | k + 1, n => if n < 10 then dig1 n else decB k (n / 10) ++ dig1 (n % 10)
theorem decB_small (k n : Nat) (h : n < 10) : decB k n = dig1 n := by
  cases k with
  | zero => rfl
  | succ k => simp only [decB]; rw [if_pos h]
theorem decB_fuel : ∀ (k j n : Nat), n ≤ k → n ≤ j → decB k n = decB j n
  | 0, j, n, hk, _ => by rw [decB_small 0 n (by omega), decB_small j n (by omega)]
  | k + 1, 0, n, _, hj => by rw [decB_small 0 n (by omega), decB_small (k + 1) n (by omega)]
  | k + 1, j + 1, n, hk, hj => by
    simp only [decB]
    by_cases h : n < 10
    · rw [if_pos h, if_pos h]
    · rw [if_neg h, if_neg h, decB_fuel k j (n / 10) (by omega) (by omega)]
def decV (n : Nat) : ByteArray := decB n n
theorem decV_big (n : Nat) (h : 10 ≤ n) : decV n = decV (n / 10) ++ dig1 (n % 10) := by
  unfold decV
  obtain ⟨k, rfl⟩ : ∃ k, n = k + 1 := ⟨n - 1, by omega⟩
  conv => lhs; unfold decB
  rw [if_neg (by omega), decB_fuel k ((k + 1) / 10) ((k + 1) / 10) (by omega) (Nat.le_refl _)]
theorem decB_size : ∀ (k n : Nat), (decB k n).size ≤ k + 1
  | 0, n => Nat.le_refl _
  | k + 1, n => by
    simp only [decB]
    split
    · show 1 ≤ _; omega
    · rw [ByteArray.size_append]
      have := decB_size k (n / 10)
      have h1 : (dig1 (n % 10)).size = 1 := rfl
      omega
theorem decV_size (n : Nat) : (decV n).size ≤ n + 1 := decB_size n n
theorem decV_small (n : Nat) (h : n < 10) : decV n = dig1 n := decB_small n n h

theorem conv_digit (w : World) (n : Nat) (h : n < 10) : (convert 56 9 (.slice (some ⟨w.heap.size, 0, none⟩) 1 1)).run Tryd.prog (w.alloc (.cells #[.int .u8 (48 + (n : Int))] 5)) = .ok (.string (dig1 n)) (w.alloc (.cells #[.int .u8 (48 + (n : Int))] 5)) := by
  refine run_convert_bytes_back (w.alloc (.cells #[.int .u8 (48 + (n : Int))] 5)) 56 9 5 ⟨w.heap.size, 0, none⟩ 1 [UInt8.ofNat (48 + n)] Tryd.underlying56 Tryd.underlying5 Tryd.underlying9 fun j hj => ?_
  obtain rfl : j = 0 := by simpa using hj
  rw [Go.WideShapes.add_plain, World.cell?_alloc_new]
  have e : 48 + n < 256 := by omega
  simp [UInt8.toNat_ofNat', Nat.mod_eq_of_lt e]
set_option maxHeartbeats 1000000 in
theorem digits_small (n : Nat) (w : World) (hn : n < 10) : Calls Tryd.prog 32 #[.int .i64 n] w fun e w' => e = .returned (.string (decV n)) ∧ Below w.heap.size w w' := by
  have hn' : (n : Int) < 10 := by omega
  have cv := conv_digit w n hn
  have HV : Hid (decV n = dig1 n) := decV_small n hn
  go_enter Tryd.func32, Tryd.ntmps32
  go_wp2_with fail
  go_ret
  exact ⟨by rw [HV.out]; rfl, (by repeat (first | exact Below.refl _ _ | assumption | refine below_step ?_ (by assumption) | refine below_step ?_ (Joins.below_draws _ _ _) | (refine Below.alloc ?_ (by first | omega | (simp; done) | (simp; omega)) _) | (refine Below.setCell ?_ (by first | omega | (simp; done) | (simp; omega)) _) | refine Below.drew ?_))⟩
set_option maxHeartbeats 1000000 in
theorem digits_any (k : Nat) : ∀ (n : Nat) (w : World), n ≤ k → n ≤ 1125899906842624 → Calls Tryd.prog 32 #[.int .i64 n] w fun e w' => e = .returned (.string (decV n)) ∧ Below w.heap.size w w' := by
  induction k with
  | zero =>
    intro n w hk _
    exact digits_small n w (by omega)
  | succ k ih =>
    intro n w hk hm
    by_cases hn : n < 10
    · exact digits_small n w hn
    · have hn' : (10 : Int) ≤ n := by omega
      have hm' : (n : Int) ≤ 1125899906842624 := by omega
      have HV : Hid (decV n = decV (n / 10) ++ decV (n % 10)) := by show _ = _; rw [decV_big n (by omega), decV_small (n % 10) (by omega)]
      have H1 : Hid (∀ wx, Calls Tryd.prog 32 #[.int .i64 ((n : Int) / 10)] wx fun e w' => e = .returned (.string (decV (n / 10))) ∧ Below wx.heap.size wx w') := fun wx => by
        have := ih (n / 10) wx (by omega) (by omega)
        simpa using this
      have H2 : Hid (∀ wx, Calls Tryd.prog 32 #[.int .i64 ((n : Int) % 10)] wx fun e w' => e = .returned (.string (decV (n % 10))) ∧ Below wx.heap.size wx w') := fun wx => by
        have := ih (n % 10) wx (by omega) (by omega)
        simpa using this
      have z1 := decV_size (n / 10)
      have z2 := decV_size (n % 10)
      clear ih hn
      generalize decV (n / 10) = a at H1 HV z1
      generalize decV (n % 10) = b at H2 HV z2
      have z3 : a.size + b.size ≤ 9223372036854775807 := by omega
      clear z1 z2
      go_enter Tryd.func32, Tryd.ntmps32
      go_wp2_with fail
      refine (H1.out _).mono ?_
      rintro e w1 ⟨rfl, hb1⟩
      go_wp2_with fail
      refine (H2.out _).mono ?_
      rintro e w2 ⟨rfl, hb2⟩
      go_wp2_with fail
      go_ret
      exact ⟨by rw [HV.out]; rfl, (by repeat (first | exact Below.refl _ _ | assumption | refine below_step ?_ (by assumption) | refine below_step ?_ (Joins.below_draws _ _ _) | (refine Below.alloc ?_ (by first | omega | (simp; done) | (simp; omega)) _) | (refine Below.setCell ?_ (by first | omega | (simp; done) | (simp; omega)) _) | refine Below.drew ?_))⟩
set_option maxHeartbeats 1000000 in
set_option maxRecDepth 100000 in
theorem dec_small (n : Nat) (w : World) (hn : n < 10) : Calls Tryd.prog 36 #[.int .i64 n] w fun e w' => e = .returned (.string (decV n)) ∧ Below w.heap.size w w' := by
  have hn' : (n : Int) < 10 := by omega
  have cv := conv_digit w n hn
  have HV : Hid (decV n = dig1 n) := decV_small n hn
  go_enter Tryd.func36, Tryd.ntmps36
  go_wp2_with fail
  go_ret
  exact ⟨by rw [HV.out]; rfl, (by repeat (first | exact Below.refl _ _ | assumption | refine below_step ?_ (by assumption) | refine below_step ?_ (Joins.below_draws _ _ _) | (refine Below.alloc ?_ (by first | omega | (simp; done) | (simp; omega)) _) | (refine Below.setCell ?_ (by first | omega | (simp; done) | (simp; omega)) _) | refine Below.drew ?_))⟩
/-- The conversion in whatever world the cell stands. -/
theorem conv_at (w : World) (b n : Nat) (h : n < 10) (hc : w.cell? ⟨b, 0, none⟩ = some (.int .u8 (48 + (n : Int)))) : (convert 56 9 (.slice (some ⟨b, 0, none⟩) 1 1)).run Tryd.prog w = .ok (.string (dig1 n)) w := by
  refine run_convert_bytes_back w 56 9 5 ⟨b, 0, none⟩ 1 [UInt8.ofNat (48 + n)] Tryd.underlying56 Tryd.underlying5 Tryd.underlying9 fun j hj => ?_
  obtain rfl : j = 0 := by simpa using hj
  rw [Go.WideShapes.add_plain, hc]
  have e : 48 + n < 256 := by omega
  simp [UInt8.toNat_ofNat', Nat.mod_eq_of_lt e]
set_option maxHeartbeats 2000000 in
set_option maxRecDepth 100000 in
theorem dec_any (k : Nat) : ∀ (n : Nat) (w : World), n ≤ k → n ≤ 1125899906842624 → Calls Tryd.prog 36 #[.int .i64 n] w fun e w' => e = .returned (.string (decV n)) ∧ Below w.heap.size w w' := by
  induction k with
  | zero =>
    intro n w hk _
    exact dec_small n w (by omega)
  | succ k ih =>
    intro n w hk hm
    by_cases hn : n < 10
    · exact dec_small n w hn
    · have hn' : (10 : Int) ≤ n := by omega
      have hm' : (n : Int) ≤ 1125899906842624 := by omega
      have HV : Hid (decV n = decV (n / 10) ++ dig1 (n % 10)) := by show _ = _; rw [decV_big n (by omega)]
      have H1 : Hid (∀ wx, Calls Tryd.prog 36 #[.int .i64 ((n : Int) / 10)] wx fun e w' => e = .returned (.string (decV (n / 10))) ∧ Below wx.heap.size wx w') := fun wx => by
        have := ih (n / 10) wx (by omega) (by omega)
        simpa using this
      have hcast : (48 + (n : Int) % 10) = 48 + ((n % 10 : Nat) : Int) := by omega
      have CV : ∀ (wx : World) (b : Nat), wx.cell? ⟨b, 0, none⟩ = some (.int .u8 (48 + (n : Int) % 10)) → (convert 56 9 (.slice (some ⟨b, 0, none⟩) 1 1)).run Tryd.prog wx = .ok (.string (dig1 (n % 10))) wx := by
        intro wx b hc
        rw [hcast] at hc
        exact conv_at wx b (n % 10) (Nat.mod_lt _ (by decide)) hc
      clear hcast
      have z1 := decV_size (n / 10)
      have z2 : (dig1 (n % 10)).size = 1 := rfl
      clear ih hn
      generalize decV (n / 10) = a at H1 HV z1
      generalize dig1 (n % 10) = b at CV HV z2
      have z3 : a.size + b.size ≤ 9223372036854775807 := by omega
      clear z1 z2
      have q1 : (n : Int).tdiv 10 = (n : Int) / 10 := Int.tdiv_eq_ediv_of_nonneg (by omega)
      have q2 : (n : Int).tmod 10 = (n : Int) % 10 := Int.tmod_eq_emod_of_nonneg (by omega)
      have q3 : IntKind.i64.wrap ((n : Int) / 10) = (n : Int) / 10 := IntWalk.i64_in _ (by omega)
      have q4 : IntKind.i64.wrap (48 + (n : Int) % 10) = 48 + (n : Int) % 10 := IntWalk.i64_in _ (by omega)
      have q5 : IntKind.u8.wrap (48 + (n : Int) % 10) = 48 + (n : Int) % 10 := IntWalk.u8_in _ (by omega)
      have q6 : IntKind.i64.wrap ((n : Int) % 10) = (n : Int) % 10 := IntWalk.i64_in _ (by omega)
      go_enter Tryd.func36, Tryd.ntmps36
      go_wp2_with fail
      go_region_with (go_at_call 36; (with_reducible refine (H1.out _).mono ?_); rintro e w1 ⟨rfl, hb1⟩; obtain ⟨hc_w1, hf_w1⟩ := bcell hb1; have hs_w1 := hb1.size; (try simp only [World.size_alloc, World.size_drew, World.size_setCell] at hs_w1); (try simp only [World.size_drew, World.cell?_drew, World.frozen?_drew] at hc_w1 hf_w1); (try have z0 : w.heap.size < w1.heap.size := (by omega)))
      all_goals
        go_wp2
        go_ret
        exact ⟨by rw [HV.out]; rfl, (by repeat (first | exact Below.refl _ _ | assumption | refine below_step ?_ (by assumption) | refine below_step ?_ (Joins.below_draws _ _ _) | (refine Below.alloc ?_ (by first | omega | (simp; done) | (simp; omega)) _) | (refine Below.setCell ?_ (by first | omega | (simp; done) | (simp; omega)) _) | refine Below.drew ?_))⟩
end Go.Proofs.YtenchgdlkbdpdaaDoor
