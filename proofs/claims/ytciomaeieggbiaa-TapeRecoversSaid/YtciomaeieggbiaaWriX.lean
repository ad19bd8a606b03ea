/-
  The walks of package wire's writer, second part: signed numbers; the reference's bytes.
-/
import Derived.Test.YtciomaeieggbiaaWriW
import Derived.Laws.IdiomStrings
namespace Go.Proofs.Ytciomaeieggbiaa
open Go.RowKit
set_option linter.unusedVariables false
set_option linter.unusedSimpArgs false

/-- A number as one that is not below 0. -/
def foldN (n : Int) : Nat := (if n < 0 then -2 * n - 1 else 2 * n).toNat
theorem xor_zero_u64 (n : Nat) (h : n < 18446744073709551616) : bits BinOp.xor IntKind.u64 (n : Int) 0 = n := by
  have h1 := bits_xor_u64_nat n 0 h (by omega)
  simpa using h1
theorem xor_ones_u64 (n : Nat) (h : n < 18446744073709551616) : bits BinOp.xor IntKind.u64 (n : Int) 18446744073709551615 = ((18446744073709551615 - n : Nat) : Int) := by
  have h1 := bits_xor_u64_nat n 18446744073709551615 h (by omega)
  have h2 : n ^^^ 18446744073709551615 = 18446744073709551615 - n := by
    have e := congrArg BitVec.toNat (BitVec.xor_allOnes (x := BitVec.ofNat 64 n))
    rw [BitVec.toNat_xor, BitVec.toNat_not, BitVec.toNat_allOnes, BitVec.toNat_ofNat, Nat.mod_eq_of_lt (by omega)] at e
    exact e
  rw [h2] at h1
  exact h1
theorem signed_neg (m : Nat) (hm : m < 1125899906842624) : bits BinOp.xor IntKind.u64 (IntKind.u64.wrap (IntKind.u64.wrap (-(m : Int) - 1) * 2)) (IntKind.u64.wrap ((-(m : Int) - 1) / 9223372036854775808)) = (foldN (-(m : Int) - 1) : Nat) := by
  have e1 : IntKind.u64.wrap (IntKind.u64.wrap (-(m : Int) - 1) * 2) = ((18446744073709551614 - 2 * m : Nat) : Int) := by
    rw [IntKind.wrap_u64, IntKind.wrap_u64]; omega
  have e2 : IntKind.u64.wrap ((-(m : Int) - 1) / 9223372036854775808) = 18446744073709551615 := by
    rw [IntKind.wrap_u64]; omega
  rw [e1, e2, xor_ones_u64 _ (by omega)]
  unfold foldN
  rw [if_pos (by omega)]
  omega
theorem signed_pos (m : Nat) (hm : m ≤ 1125899906842624) : bits BinOp.xor IntKind.u64 ((m : Int) * 2) ((m : Int) / 9223372036854775808) = (foldN m : Nat) := by
  have e2 : (m : Int) / 9223372036854775808 = 0 := by omega
  have e1 : (m : Int) * 2 = ((m * 2 : Nat) : Int) := by omega
  rw [e1, e2, xor_zero_u64 _ (by omega)]
  unfold foldN
  rw [if_neg (by omega)]
  omega
set_option maxHeartbeats 4000000 in
set_option maxRecDepth 100000 in
theorem wsigned_any (B b : Nat) (l : List UInt8) (n : Int) (w : World) (h : WriterAt B b (Lib.byteCells l) w) (hn : -1125899906842624 ≤ n ∧ n ≤ 1125899906842624) (hlen : l.length + 20 ≤ 140737488355328) (hBw : B ≤ w.heap.size) :
    Calls Try.prog 29 #[.pointer (some ⟨b, 0, none⟩), .int .i64 n] w fun e w' => e = .returned (.tuple #[]) ∧ WriterAt B b (Lib.byteCells (l ++ sevL (foldN n))) w' ∧ Below B w w' := by
  by_cases h0 : n < 0
  · obtain ⟨m, rfl⟩ : ∃ m : Nat, n = -(m : Int) - 1 := ⟨(-n - 1).toNat, by omega⟩
    have hm : m < 1125899906842624 := by omega
    have HL := Lib.hid (wlong_any B b l (foldN (-(m : Int) - 1)) w h (by unfold foldN; rw [if_pos h0]; omega) hlen hBw)
    have E := Lib.hid (signed_neg m hm)
    clear hn
    go_enter Try.func29, Try.ntmps29
    go_wp2_with fail
    rw [E.out]
    refine HL.out.mono ?_
    rintro e w1 ⟨rfl, hw1, hb1⟩
    go_wp2
    go_end0
    exact ⟨rfl, hw1, hb1⟩
  · obtain ⟨m, rfl⟩ : ∃ m : Nat, n = m := ⟨n.toNat, by omega⟩
    have hm : m ≤ 1125899906842624 := by omega
    have HL := Lib.hid (wlong_any B b l (foldN m) w h (by unfold foldN; rw [if_neg h0]; omega) hlen hBw)
    have E := Lib.hid (signed_pos m hm)
    clear hn
    go_enter Try.func29, Try.ntmps29
    go_wp2_with fail
    rw [E.out]
    refine HL.out.mono ?_
    rintro e w1 ⟨rfl, hw1, hb1⟩
    go_wp2
    go_end0
    exact ⟨rfl, hw1, hb1⟩

set_option maxHeartbeats 1000000 in
theorem folded_any (n : Int) (w : World) (hn : -1125899906842624 ≤ n ∧ n ≤ 1125899906842624) : Calls Try.prog 34 #[.int .i64 n] w fun e w' => e = .returned (.int .i64 (foldN n)) ∧ w' = w := by
  by_cases h0 : n < 0
  · have HV : Hid ((foldN n : Int) = -2 * n - 1) := by show _ = _; unfold foldN; rw [if_pos h0]; omega
    go_enter Try.func34, Try.ntmps34
    go_wp2
    go_ret
    exact ⟨ret_int HV.out.symm, rfl⟩
  · have h0' : 0 ≤ n := by omega
    have HV : Hid ((foldN n : Int) = 2 * n) := by show _ = _; unfold foldN; rw [if_neg h0]; omega
    go_enter Try.func34, Try.ntmps34
    go_wp2
    go_ret
    exact ⟨ret_int HV.out.symm, rfl⟩

theorem slF_one {F : Nat → Prop} {w : World} {g : Nat} {n : Nat} {c : Int} (hF : F g) (hn : n < 256) (hc : c = n) (h : w.cell? ⟨g, 0, none⟩ = some (.int .u8 c)) : SlF F w 1 byteF (some ⟨g, 0, none⟩) 1 1 [UInt8.ofNat n] := by
  refine ⟨rfl, Nat.le_refl _, by unfold maxLen; omega, by simp, fun i hi => ?_⟩
  obtain rfl : i = 0 := by simpa using hi
  refine ⟨g, 0, [.int .u8 c], rfl, hF, World.block_lt_of_cell? w _ h, ⟨rfl, fun j hj => ?_⟩, ?_⟩
  · obtain rfl : j = 0 := by omega
    simpa using h
  · show [Value.int .u8 c] = [byteC _]
    unfold byteC
    rw [List.getElem_cons_zero, u8_cell n hn, hc]
def BytesPost (l : List UInt8) (w : World) (e : Ending) (w' : World) : Prop := ∃ ao cap, e = .returned (.slice ao l.length cap) ∧ Below w.heap.size w w' ∧ SlF (from_ w.heap.size) w' 1 byteF ao l.length cap l
set_option maxHeartbeats 4000000 in
set_option maxRecDepth 100000 in
theorem sevens_small (n : Nat) (w : World) (hn : n < 128) : Calls Try.prog 32 #[.int .i64 n] w (BytesPost (sevL n) w) := by
  have hn' : (n : Int) < 128 := by omega
  have HV : Hid (sevL n = [UInt8.ofNat n]) := sevL_small n hn
  go_enter Try.func32, Try.ntmps32
  go_wp2_with fail
  go_ret
  unfold BytesPost
  rw [HV.out]
  exact ⟨_, _, rfl, (by repeat (first | exact Below.refl _ _ | assumption | refine below_step ?_ (by assumption) | refine below_step ?_ (Joins.below_draws _ _ _) | (refine Below.alloc ?_ (by first | omega | (simp; done) | (simp; omega)) _) | (refine Below.setCell ?_ (by first | omega | (simp; done) | (simp; omega)) _) | refine Below.drew ?_)), slF_one (Nat.le_refl _) (by omega) rfl (by simp)⟩
set_option maxHeartbeats 4000000 in
set_option maxRecDepth 100000 in
theorem sevens_any (k : Nat) : ∀ (n : Nat) (w : World), n ≤ k → n < 4503599627370496 → Calls Try.prog 32 #[.int .i64 n] w (BytesPost (sevL n) w) := by
  induction k with
  | zero =>
    intro n w hk _
    exact sevens_small n w (by omega)
  | succ k ih =>
    intro n w hk hm
    by_cases hn : n < 128
    · exact sevens_small n w hn
    · have hn' : (128 : Int) ≤ n := by omega
      have HV : Hid (sevL n = [UInt8.ofNat (128 + n % 128)] ++ sevL (n / 128)) := sevL_big n (by omega)
      have HL : Hid ((sevL (n / 128)).length ≤ 9) := sevL_len 8 (n / 128) (by omega)
      have H1 : Hid (∀ wx, Calls Try.prog 32 #[.int .i64 ((n : Int) / 128)] wx (BytesPost (sevL (n / 128)) wx)) := fun wx => by
        have := ih (n / 128) wx (by omega) (by omega)
        simpa using this
      have HQ : Hid (128 + (n : Int) % 128 = ((128 + n % 128 : Nat) : Int)) := by show _ = _; omega
      clear ih hn
      generalize sevL (n / 128) = l at HV HL H1
      have q1 : (n : Int).tdiv 128 = (n : Int) / 128 := Int.tdiv_eq_ediv_of_nonneg (by omega)
      have q2 : (n : Int).tmod 128 = (n : Int) % 128 := Int.tmod_eq_emod_of_nonneg (by omega)
      have q3 : IntKind.i64.wrap ((n : Int) / 128) = (n : Int) / 128 := IntWalk.i64_in _ (by omega)
      have q4 : IntKind.i64.wrap (128 + (n : Int) % 128) = 128 + (n : Int) % 128 := IntWalk.i64_in _ (by omega)
      have q5 : IntKind.u8.wrap (128 + (n : Int) % 128) = 128 + (n : Int) % 128 := IntWalk.u8_in _ (by omega)
      have q6 : IntKind.i64.wrap ((n : Int) % 128) = (n : Int) % 128 := IntWalk.i64_in _ (by omega)
      go_enter Try.func32, Try.ntmps32
      go_wp2_with fail
      refine (H1.out _).mono ?_
      rintro e w1 ⟨ao1, cap1, rfl, hb1, hS1⟩
      obtain ⟨hc_w1, hf_w1⟩ := bcell hb1; have hs_w1 := hb1.size; (try simp only [World.size_alloc, World.size_drew, World.size_setCell] at hs_w1); (try simp only [World.size_drew, World.cell?_drew, World.frozen?_drew] at hc_w1 hf_w1); have z0_w1 : w.heap.size < w1.heap.size := (by omega)
      have hc0 : w1.cell? ⟨w.heap.size, 0, none⟩ = some (.int .u8 (128 + (n : Int) % 128)) := by simp [hc_w1]
      have hS0 : SlF (from_ w.heap.size) w1 1 byteF (some ⟨w.heap.size, 0, none⟩) 1 1 [UInt8.ofNat (128 + n % 128)] := slF_one (Nat.le_refl _) (by omega) HQ.out hc0
      go_wp2_with fail
      refine (joined_any _ _ _ _ _ _ _ _ _ _ _ hS0 hS1 (by have := HL.out; omega)).mono ?_
      rintro e w2 ⟨ao2, cap2, rfl, hb2, hS2⟩
      go_wp2
      go_ret
      unfold BytesPost
      rw [HV.out]
      have e1 : ([UInt8.ofNat (128 + n % 128)] ++ l).length = 1 + l.length := by simp; omega
      rw [e1]
      exact ⟨ao2, cap2, rfl, (by repeat (first | exact Below.refl _ _ | assumption | refine below_step ?_ (by assumption) | refine below_step ?_ (Joins.below_draws _ _ _) | (refine Below.alloc ?_ (by first | omega | (simp; done) | (simp; omega)) _) | (refine Below.setCell ?_ (by first | omega | (simp; done) | (simp; omega)) _) | refine Below.drew ?_)), hS2.same byteF_firm (by refine Same.into ?_ (fun b h _ => (by (first | exact h | exact trivial | (revert h; show _ ≤ b → _ ≤ b; intro h; (try simp only [World.size_alloc, World.size_setCell, World.size_drew] at *); omega)))); repeat (first | exact Same.refl | exact Same.below (by assumption) | (refine Same.trans ?_ (Same.setCell _ (by show ¬ (_ ≤ _); (try simp only [World.size_alloc, World.size_setCell, World.size_drew] at *); omega))) | refine Same.trans ?_ Same.drew | refine Same.trans ?_ (Same.alloc _) | refine Same.trans ?_ (Same.below (by assumption))))⟩
/-- A text behind its length. -/
def textL (s : ByteArray) : List UInt8 := [UInt8.ofNat s.size] ++ s.data.toList
/-- A string's bytes, made anew. -/
theorem bytes_made {P : Program} {src dst e : TypeId} (hs : P.underlying src = some .string) (hd : P.underlying dst = some (.slice e)) (he : P.underlying e = some (.int .u8)) (w : World) (s : ByteArray) (hn : s.size ≤ maxLen) :
    ∃ cap w', (convert src dst (.string s)).run P w = .ok (.slice (some ⟨w.heap.size, 0, none⟩) s.size cap) w' ∧ Below w.heap.size w w' ∧ SlF (from_ w.heap.size) w' 1 byteF (some ⟨w.heap.size, 0, none⟩) s.size cap s.data.toList := by
  refine ⟨_, _, run_bytes_of_string w src dst e s hs hd he, Below.alloc (Below.drew (Below.refl _ _)) (Nat.le_refl _) _, ?_⟩
  refine ⟨by simp, grownCap_ge _ _ _ _, grownCap_le_maxLen _ _ _ _ hn, by simp, fun i hi => ?_⟩
  have hi' : i < s.data.size := by simpa using hi
  have hg := heap_alloc_new w.drew (.cells (bytesRow s (grownCap w s.size 0 e)) e ((bytesRow s (grownCap w s.size 0 e)).size, (bytesRow s (grownCap w s.size 0 e)).size + 1))
  refine ⟨w.heap.size, 0, [byteC s.data.toList[i]], rfl, Nat.le_refl _, by simp, ⟨rfl, fun j hj => ?_⟩, rfl⟩
  obtain rfl : j = 0 := by omega
  rw [Lib.cell_of_heap (b := w.heap.size) hg]
  have h1 := bytesRow_at s (grownCap w s.size 0 e) i hi'
  simpa [byteC] using h1
set_option maxHeartbeats 400000 in
set_option maxRecDepth 100000 in
theorem textBytes_any (s : ByteArray) (w : World) (hn : s.size < 256) : Calls Try.prog 33 #[.string s] w (BytesPost (textL s) w) := by
  have hn' : (s.size : Int) < 256 := by omega
  go_enter Try.func33, Try.ntmps33
  go_wp2_with fail
  obtain ⟨cap1, w1, hrun, hb1, hS1⟩ := bytes_made (P := Try.prog) (src := 9) (dst := 34) Try.underlying9 Try.underlying34 Try.underlying5 (w.alloc (.cells #[.int .u8 s.size] 5)) s (by unfold maxLen; omega)
  rw [hrun]
  clear hrun
  simp only [Result.andThen]
  rw [Oper.upon_value]
  simp only [World.size_alloc] at hS1
  have hc0 : w1.cell? ⟨w.heap.size, 0, none⟩ = some (.int .u8 (s.size : Int)) := by rw [(bcell hb1).1 _ _ (by simp)]; simp
  have hS0 : SlF (from_ w.heap.size) w1 1 byteF (some ⟨w.heap.size, 0, none⟩) 1 1 [UInt8.ofNat s.size] := slF_one (Nat.le_refl _) hn rfl hc0
  go_wp2_with fail
  refine (joined_any _ _ _ _ _ _ _ _ _ _ _ hS0 hS1 (by omega)).mono ?_
  rintro e w2 ⟨ao2, cap2, rfl, hb2, hS2⟩
  have hs1 := hb1.size
  simp only [World.size_alloc] at hs1
  go_wp2
  go_ret
  unfold BytesPost
  have e1 : (textL s).length = 1 + s.size := by simp [textL]; omega
  rw [e1]
  exact ⟨ao2, cap2, rfl, (by repeat (first | exact Below.refl _ _ | assumption | refine below_step ?_ (by assumption) | refine below_step ?_ (Joins.below_draws _ _ _) | (refine Below.alloc ?_ (by first | omega | (simp; done) | (simp; omega)) _) | (refine Below.setCell ?_ (by first | omega | (simp; done) | (simp; omega)) _) | refine Below.drew ?_)), hS2.same byteF_firm (by refine Same.into ?_ (fun b h _ => (by (first | exact h | exact trivial | (revert h; show _ ≤ b → _ ≤ b; intro h; (try simp only [World.size_alloc, World.size_setCell, World.size_drew] at *); omega)))); repeat (first | exact Same.refl | exact Same.below (by assumption) | (refine Same.trans ?_ (Same.setCell _ (by show ¬ (_ ≤ _); (try simp only [World.size_alloc, World.size_setCell, World.size_drew] at *); omega))) | refine Same.trans ?_ Same.drew | refine Same.trans ?_ (Same.alloc _) | refine Same.trans ?_ (Same.below (by assumption))))⟩
end Go.Proofs.Ytciomaeieggbiaa
