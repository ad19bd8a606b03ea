/-
  The walks of package wire's reader of bytes: long numbers, texts.
-/
import Derived.Test.YtciomaeieggbiaaRdW
import Derived.Laws.DeepNot64
namespace Go.Proofs.Ytciomaeieggbiaa
open Go.RowKit
set_option linter.unusedVariables false
set_option linter.unusedSimpArgs false

theorem longF_on {k i n : Nat} {c : UInt8} {l : List UInt8} : longF (k + 1) i n (.on (c :: l)) = if (0 < i ∧ c.toNat = 0) ∨ (i = 8 ∧ 127 < c.toNat) then (0, .bad 4) else if c.toNat < 128 then (n + c.toNat * 128 ^ i, .on l) else longF k (i + 1) (n + (c.toNat % 128) * 128 ^ i) (.on l) := rfl
theorem longF_nil {k i n : Nat} : longF (k + 1) i n (.on []) = (0, .bad 5) := rfl

theorem pow_seven (k : Nat) : (2 : Int) ^ (7 * k) = ((128 ^ k : Nat) : Int) := by
  have h : (2 : Nat) ^ (7 * k) = 128 ^ k := by rw [Nat.pow_mul]
  rw [← h]; simp
theorem pow_eight {k : Nat} (hk : k ≤ 8) : 128 ^ k ≤ 72057594037927936 := Nat.le_trans (Nat.pow_le_pow_right (by decide) hk) (by decide)
theorem long_join0 (m c k : Nat) (hm : m < 128 ^ k) (hk : k ≤ 8) (hc : c < 128) : bits .or .u64 (m : Int) ((c * 128 ^ k : Nat) : Int) = ((m + c * 128 ^ k : Nat) : Int) := by
  have h8 := pow_eight hk
  have h1 : c * 128 ^ k ≤ 127 * 128 ^ k := Nat.mul_le_mul_right _ (by omega)
  have hp := pow_seven k
  rw [bits_join_low .u64 64 (by decide) (fun n h0 h1 => IntWalk.u64_in n (by omega)) (7 * k) (m : Int) ((c * 128 ^ k : Nat) : Int) (by omega) (by rw [hp]; omega) (by omega) (by omega) (by rw [hp]; rw [Int.natCast_mul]; exact Int.mul_emod_left _ _) (by omega)]
  omega
theorem long_join (m c k : Nat) (hm : m < 128 ^ k) (hk : k ≤ 8) (hc : c < 128) : bits .or .u64 (m : Int) (IntKind.u64.wrap ((c : Int) * 2 ^ (7 * k))) = ((m + c * 128 ^ k : Nat) : Int) := by
  have h8 := pow_eight hk
  have h1 : c * 128 ^ k ≤ 127 * 128 ^ k := Nat.mul_le_mul_right _ (by omega)
  rw [pow_seven k, ← Int.natCast_mul, IntWalk.u64_in _ (by omega)]
  exact long_join0 m c k hm hk hc
theorem long_join8 (m c : Nat) (hm : m < 128 ^ 8) (hc : c < 128) : bits .or .u64 (m : Int) ((c : Int) * 72057594037927936) = ((m + c * 128 ^ 8 : Nat) : Int) := by
  have h := long_join0 m c 8 hm (by omega) hc
  have e : ((c * 128 ^ 8 : Nat) : Int) = (c : Int) * 72057594037927936 := by omega
  rw [e] at h
  exact h

set_option maxHeartbeats 4000000 in
set_option maxRecDepth 100000 in
theorem rlong_any (b D : Nat) (s : Sc) (w : World) (h : RdrAt b D s w) :
    Calls Try.prog 99 #[.pointer (some ⟨b, 0, none⟩)] w fun x w' => x = .returned (.int .u64 s.long.1) ∧ RdrAt b D s.long.2 w' ∧ Only b w w' := by
  have HH := Lib.hid h
  match s with
  | .bad e =>
    obtain ⟨hf, ao, n, cap, hk, hS, hn⟩ := h
    obtain ⟨c0, c1, cf⟩ := two_of_heap hk
    have hlt : b < w.heap.size := (Array.getElem?_eq_some_iff.1 hk).1
    have q1 : (e == 0) = false := by simpa [Sc.fine] using hf
    simp only [Sc.code] at c1
    clear hS hn hk hf
    go_enter Try.func99, Try.ntmps99
    go_wp2_with fail
    go_loopw [3, 4] (fun n i wr => n = .int .u64 0 ∧ i = .int .i64 0 ∧ wr = w) (fun _ _ _ => 0)
    case atStart => exact ⟨rfl, rfl, rfl⟩
    case round =>
      obtain ⟨rfl, rfl, rfl⟩ := hrel
      go_wp2
      go_ret
      exact ⟨rfl, HH.out, Only.refl _ _⟩
  | .on l0 =>
    have hlt : b < w.heap.size := h.lt
    clear h
    generalize hL : (Sc.on l0).long = L
    have HL := Lib.hid hL
    clear hL
    go_enter Try.func99, Try.ntmps99
    go_wp2_with fail
    go_loopw [3, 4] (fun n i wr => ∃ (k m : Nat) (l : List UInt8), k ≤ 8 ∧ n = .int .u64 m ∧ i = .int .i64 k ∧ m < 128 ^ k ∧ RdrAt b D (.on l) wr ∧ Only b w wr ∧ Hid (longF (9 - k) k m (.on l) = L)) (fun _ i _ => 9 - (intOf i).toNat)
    case atStart => exact ⟨0, 0, l0, by omega, rfl, rfl, by decide, HH.out, Only.refl _ _, HL.out⟩
    case round =>
      obtain ⟨k, m, l, hk8, rfl, rfl, hm, hr, ho, XX⟩ := hrel
      have hltr : b < wr.heap.size := hr.lt
      have HR := Lib.hid hr
      have HM := Lib.hid hm
      obtain ⟨hf, ao, n, cap, hk, hS, hn⟩ := hr
      obtain ⟨c0, c1, cf⟩ := two_of_heap hk
      simp only [Sc.code] at c1
      clear hS hn hk hf hm
      obtain ⟨j, hj⟩ : ∃ j, 9 - k = j + 1 := ⟨8 - k, by omega⟩
      have XX2 : Hid (longF (j + 1) k m (.on l) = L) := by show _ = _; rw [← hj]; exact XX.out
      clear XX
      match l with
      | [] =>
        have E : Hid (L = (0, .bad 5)) := XX2.out.symm
        clear XX2
        by_cases hk0 : k = 0
        · subst hk0
          have hm0 : m = 0 := by have := HM.out; omega
          subst hm0
          go_wp2_with fail
          refine (rsmall_any b D _ _ HR.out).mono ?_
          rintro e w1 ⟨rfl, h1, ho1⟩
          simp only [Sc.small] at h1 ⊢
          go_wp2
          go_ret
          rw [E.out]; exact ⟨ret_int (by decide), h1, ho.trans ho1⟩
        · have hk1 : (0 : Int) < k := by omega
          go_wp2_with fail
          refine (rsmall_any b D _ _ HR.out).mono ?_
          rintro e w1 ⟨rfl, h1, ho1⟩
          simp only [Sc.small] at h1 ⊢
          go_wp2_with (go_at_call 91; refine (rfail_any b D _ 4 _ h1 (by decide)).mono ?_; rintro e w2 ⟨rfl, h2, ho2⟩)
          all_goals
            go_ret
            rw [E.out]; exact ⟨rfl, h2, (ho.trans ho1).trans ho2⟩
      | c :: l' =>
        have hc := c.toNat_lt
        by_cases hb : (0 < k ∧ c.toNat = 0) ∨ (k = 8 ∧ 127 < c.toNat)
        · have E : Hid (L = (0, .bad 4)) := by show _ = _; rw [← XX2.out, longF_on, if_pos hb]
          clear XX2
          by_cases hk8 : k = 8 ∧ 127 < c.toNat
          · obtain ⟨rfl, hc1⟩ := hk8
            have hc1' : (127 : Int) < c.toNat := by omega
            clear hb
            go_wp2_with fail
            refine (rsmall_any b D _ _ HR.out).mono ?_
            rintro e w1 ⟨rfl, h1, ho1⟩
            simp only [Sc.small] at h1 ⊢
            go_wp2_with (go_at_call 91; refine (rfail_any b D _ 4 _ h1 (by decide)).mono ?_; rintro e w2 ⟨rfl, h2, ho2⟩)
            go_ret
            rw [E.out]; exact ⟨rfl, h2, (ho.trans ho1).trans ho2⟩
          · have h0 : 0 < k ∧ c.toNat = 0 := by omega
            obtain ⟨hk0, hc0⟩ := h0
            have hk1 : (0 : Int) < k := by omega
            clear hb hk8
            go_wp2_with fail
            refine (rsmall_any b D _ _ HR.out).mono ?_
            rintro e w1 ⟨rfl, h1, ho1⟩
            simp only [Sc.small, hc0] at h1 ⊢
            go_wp2_with (go_at_call 91; refine (rfail_any b D _ 4 _ h1 (by decide)).mono ?_; rintro e w2 ⟨rfl, h2, ho2⟩)
            all_goals
              go_ret
              rw [E.out]; exact ⟨rfl, h2, (ho.trans ho1).trans ho2⟩
        · by_cases hs : c.toNat < 128
          · have E : Hid (L = (m + c.toNat * 128 ^ k, .on l')) := by show _ = _; rw [← XX2.out, longF_on, if_neg hb, if_pos hs]
            clear XX2
            have HB := and_127 c.toNat (by omega)
            have hq : c.toNat % 128 = c.toNat := Nat.mod_eq_of_lt hs
            rw [hq] at HB
            have t1 : ((k : Int) == 8 && decide ((127 : Int) < c.toNat)) = false := by simp; omega
            have t2 : (decide ((0 : Int) < k) && ((c.toNat : Int) == 0)) = false := by simp; omega
            have hs' : (c.toNat : Int) < 128 := by omega
            clear hq
            by_cases hk0 : k = 0
            · subst hk0
              have hm0 : m = 0 := by have := HM.out; omega
              subst hm0
              clear hb t1 t2
              go_wp2_with fail
              refine (rsmall_any b D _ _ HR.out).mono ?_
              rintro e w1 ⟨rfl, h1, ho1⟩
              simp only [Sc.small] at h1 ⊢
              go_wp2
              go_ret
              rw [E.out]
              exact ⟨ret_int (by have J := long_join0 0 c.toNat 0 HM.out (by omega) hs; simpa using J), h1, ho.trans ho1⟩
            · have hk1 : (0 : Int) < k := by omega
              have hc0 : ((c.toNat : Int) == 0) = false := by simp; omega
              have HS := Lib.hid hs
              have HK8 := Lib.hid hk8
              clear hb t1 t2
              rcases (show k = 8 ∨ k < 8 by omega) with rfl | hk7
              · go_wp2_with fail
                refine (rsmall_any b D _ _ HR.out).mono ?_
                rintro e w1 ⟨rfl, h1, ho1⟩
                simp only [Sc.small] at h1 ⊢
                go_wp2
                go_ret
                rw [E.out]
                exact ⟨ret_int (long_join8 m c.toNat HM.out HS.out), h1, ho.trans ho1⟩
              · have hk8 : ((k : Int) == 8) = false := by simp; omega
                go_wp2_with fail
                refine (rsmall_any b D _ _ HR.out).mono ?_
                rintro e w1 ⟨rfl, h1, ho1⟩
                simp only [Sc.small] at h1 ⊢
                go_wp2
                go_ret
                rw [E.out]
                exact ⟨ret_int (long_join m c.toNat k HM.out HK8.out HS.out), h1, ho.trans ho1⟩
          · have hk7 : k < 8 := by omega
            have HB := and_127 c.toNat (by omega)
            have HQ := Lib.hid (Nat.mod_lt c.toNat (by decide : 0 < 128))
            have XX3 : Hid (longF j (k + 1) (m + c.toNat % 128 * 128 ^ k) (.on l') = L) := by show _ = _; rw [← XX2.out, longF_on, if_neg hb, if_neg hs]
            clear XX2
            have hk8 : ((k : Int) == 8) = false := by simp; omega
            have hc0 : ((c.toNat : Int) == 0) = false := by simp; omega
            have hs' : ¬ (c.toNat : Int) < 128 := by omega
            generalize c.toNat % 128 = q at HB HQ XX3
            have J := long_join m q k HM.out (by omega) HQ.out
            have HJ := Lib.hid J
            have J9 : 9 - (k + 1) = j := by omega
            have J9 := Lib.hid J9
            clear J hb hs
            go_wp2_with fail
            refine (rsmall_any b D _ _ HR.out).mono ?_
            rintro e w1 ⟨rfl, h1, ho1⟩
            simp only [Sc.small] at h1 ⊢
            go_wp2
            all_goals
              go_roundw
              case rel =>
                refine ⟨k + 1, m + q * 128 ^ k, l', by omega, ?_, by go_num, ?_, h1, ho.trans ho1, by rw [J9.out]; exact XX3.out⟩
                · rw [HJ.out]
                · have := HM.out
                  have := HQ.out
                  have : q * 128 ^ k ≤ 127 * 128 ^ k := Nat.mul_le_mul_right _ (by omega)
                  rw [Nat.pow_succ]
                  omega
              case measure => simp [intOf]; omega

theorem xor_zero_i64 (a : Nat) (ha : a < 9223372036854775808) : bits .xor .i64 (a : Int) 0 = (a : Int) := by
  show IntKind.i64.wrap ((BitVec.ofInt 64 (a : Int) ^^^ BitVec.ofInt 64 0).toNat : Int) = _
  have h1 : BitVec.ofInt 64 0 = 0#64 := by decide
  rw [h1, BitVec.xor_zero, ofInt_u64 a (by omega)]
  simp [IntKind.wrap, IntKind.bits, IntKind.signed]
  omega
theorem xor_ones_i64 (a : Nat) (ha : a < 9223372036854775808) : bits .xor .i64 (a : Int) (-1) = -(a : Int) - 1 := by
  have h := i64_not a ha
  have e : bits .xor .i64 (a : Int) (-1) = bits .xor .i64 (-1) (a : Int) := by
    show IntKind.i64.wrap ((BitVec.ofInt 64 (a : Int) ^^^ BitVec.ofInt 64 (-1)).toNat : Int) = IntKind.i64.wrap ((BitVec.ofInt 64 (-1) ^^^ BitVec.ofInt 64 (a : Int)).toNat : Int)
    rw [BitVec.xor_comm]
  rw [e, h]; omega
theorem and_1 (n : Nat) (h : n < 18446744073709551616) : bits BinOp.and IntKind.u64 (n : Int) 1 = ((n % 2 : Nat) : Int) := by
  have h1 := bits_and_u64_nat n 1 h (by omega)
  have h2 : n &&& 1 = n % 2 := Nat.and_two_pow_sub_one_eq_mod n 1
  rw [h2] at h1
  exact h1
set_option maxHeartbeats 4000000 in
set_option maxRecDepth 100000 in
theorem rsigned_any (b D : Nat) (s : Sc) (w : World) (h : RdrAt b D s w) :
    Calls Try.prog 105 #[.pointer (some ⟨b, 0, none⟩)] w fun x w' => x = .returned (.int .i64 (signedI s.long.1)) ∧ RdrAt b D s.long.2 w' ∧ Only b w w' := by
  have HC := Lib.hid (rlong_any b D s w h)
  have hlt := Sc.long_lt s
  generalize s.long = L at HC hlt ⊢
  obtain ⟨m, t⟩ := L
  simp only at HC hlt ⊢
  have HA := and_1 m (by omega)
  have HD : (m : Int) / 2 = ((m / 2 : Nat) : Int) := by omega
  have hq : m / 2 < 4611686018427387904 := by omega
  have X0 := Lib.hid (xor_zero_i64 (m / 2) (by omega))
  have X1 := Lib.hid (xor_ones_i64 (m / 2) (by omega))
  unfold signedI
  generalize hdq : m / 2 = q at HD hq X0 X1
  clear hdq
  rcases Nat.mod_two_eq_zero_or_one m with h2 | h2
  · rw [h2] at HA
    rw [if_neg (by omega)]
    clear h2
    go_enter Try.func105, Try.ntmps105
    go_wp2_with fail
    refine HC.out.mono ?_
    rintro e w1 ⟨rfl, h1, ho1⟩
    go_wp2
    go_ret
    exact ⟨ret_int X0.out, h1, ho1⟩
  · rw [h2] at HA
    rw [if_pos h2]
    clear h2
    go_enter Try.func105, Try.ntmps105
    go_wp2_with fail
    refine HC.out.mono ?_
    rintro e w1 ⟨rfl, h1, ho1⟩
    go_wp2
    go_ret
    exact ⟨ret_int X1.out, h1, ho1⟩

set_option maxHeartbeats 4000000 in
set_option maxRecDepth 100000 in
theorem rtext_any (b D : Nat) (s : Sc) (w : World) (h : RdrAt b D s w) :
    Calls Try.prog 100 #[.pointer (some ⟨b, 0, none⟩)] w fun x w' => x = .returned (.string s.text.1) ∧ RdrAt b D s.text.2 w' ∧ Only b w w' := by
  have HC := Lib.hid (rsmall_any b D s w h)
  have hlt := Sc.small_lt s
  have hbad : ∀ e, s.small.2 = .bad e → s.small.1 = 0 := fun e => by
    match s with
    | .on [] => exact fun _ => rfl
    | .on (c :: l) => exact fun h => nomatch h
    | .bad e => exact fun _ => rfl
  unfold Sc.text
  generalize s.small = L at HC hlt hbad ⊢
  obtain ⟨n, t⟩ := L
  simp only at HC hlt hbad ⊢
  have hlt' : (n : Int) < 256 := by omega
  match t with
  | .bad e =>
    obtain rfl := hbad e rfl
    clear hlt hlt' hbad
    go_enter Try.func100, Try.ntmps100
    go_wp2_with fail
    refine HC.out.mono ?_
    rintro e w1 ⟨rfl, h1, ho1⟩
    have H1 := Lib.hid h1
    obtain ⟨hf, ao, m, cap, hk, hS, hn⟩ := h1
    obtain ⟨rfl, rfl, rfl⟩ := hn hf
    have HK := Lib.hid hk
    have hltb : b < w1.heap.size := (Array.getElem?_eq_some_iff.1 hk).1
    obtain ⟨c0, c1, cf⟩ := two_of_heap hk
    have HCV := fun wx => Lib.run_convert_nil_bytes (P := Try.prog) wx 34 9 5 0 Try.underlying34 Try.underlying5 Try.underlying9
    have HF := Lib.hid hf
    clear hS hn hk hf
    go_wp2
    go_ret
    exact ⟨rfl, ⟨HF.out, none, 0, 0, set_two0 HK.out, SlF.nil, fun _ => ⟨rfl, rfl, rfl⟩⟩, ho1.setCell rfl _⟩
  | .on l =>
    clear hbad
    by_cases hm : l.length < n
    · simp only [if_pos hm]
      have hm' : (l.length : Int) < n := by omega
      go_enter Try.func100, Try.ntmps100
      go_wp2_with fail
      refine HC.out.mono ?_
      rintro e w1 ⟨rfl, h1, ho1⟩
      have H1 := Lib.hid h1
      obtain ⟨hf, ao, m, cap, hk, hS, hn⟩ := h1
      obtain rfl : m = l.length := hS.len
      have hltb : b < w1.heap.size := (Array.getElem?_eq_some_iff.1 hk).1
      obtain ⟨c0, c1, cf⟩ := two_of_heap hk
      clear hS hn hk hf hm
      go_wp2_with (go_at_call 91; refine (rfail_any b D _ 5 _ H1.out (by decide)).mono ?_; rintro e w2 ⟨rfl, h2, ho2⟩)
      go_ret
      exact ⟨rfl, h2, ho1.trans ho2⟩
    · simp only [if_neg hm]
      go_enter Try.func100, Try.ntmps100
      go_wp2_with fail
      refine HC.out.mono ?_
      rintro e w1 ⟨rfl, h1, ho1⟩
      have H1 := Lib.hid h1
      obtain ⟨hf, ao, m, cap, hk, hS, hn⟩ := h1
      have NL : Hid (m = l.length) := hS.len
      have hm' : ¬ (m : Int) < n := by have := NL.out; omega
      have hle := hS.le
      have HK := Lib.hid hk
      have hltb : b < w1.heap.size := (Array.getElem?_eq_some_iff.1 hk).1
      obtain ⟨c0, c1, cf⟩ := two_of_heap hk
      have HCV := convert_bytes (P := Try.prog) (src := 34) (dst := 9) Try.underlying34 Try.underlying5 Try.underlying9 (hS.take n cap (by omega) (by omega) (by omega))
      have hcut := fun wx => run_upto (P := Try.prog) Try.underlying34 size_byte ao m cap n (by omega) wx
      have hcut2 := fun wx => run_from (P := Try.prog) Try.underlying34 size_byte ao m cap n (by omega) wx
      have HS := Lib.hid (hS.from n (by omega))
      clear hS hn hk hf hm
      go_wp2
      all_goals
        go_ret
        refine ⟨rfl, ⟨trivial, _, _, _, set_two0 HK.out, ?_, fun h => absurd rfl h⟩, ho1.setCell rfl _⟩
        have hs := HS.out
        rw [Nat.mul_one] at hs
        first
          | (have hc : cap = n := by assumption
             rw [if_pos hc, show cap - n = 0 by omega] at hs
             exact hs.same byteF_firm ((Only.refl b w1).setCell rfl _).same)
          | (have hc : ¬ cap = n := by assumption
             rw [if_neg hc] at hs
             exact hs.same byteF_firm ((Only.refl b w1).setCell rfl _).same)
          | (rw [if_pos rfl, Nat.sub_self] at hs
             exact hs.same byteF_firm ((Only.refl b w1).setCell rfl _).same)
end Go.Proofs.Ytciomaeieggbiaa
