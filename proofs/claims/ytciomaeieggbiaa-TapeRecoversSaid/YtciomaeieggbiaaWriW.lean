/-
  The walks of package wire's writer of bytes.
-/
import Derived.Test.YtciomaeieggbiaaTapW
import Derived.Laws.Bits64
import Derived.Laws.Bits64b
import Derived.Lib.VarintBits
import Derived.Lib.AppendStr
import Derived.Lib.UnsafeStr
namespace Go.Proofs.Ytciomaeieggbiaa
open Go.RowKit
set_option linter.unusedVariables false
set_option linter.unusedSimpArgs false

/-- A writer whose bytes so far are these. -/
def WriterAt (B b : Nat) (bs : List Value) (w : World) : Prop := B ≤ b ∧ ∃ v, w.heap[b]? = some (.cells #[v] 78 (0, 0)) ∧ w.ownsRow B 5 1 v bs.length bs
theorem ne_writer : 78 ≠ 5 := by decide
theorem writer_new (w : World) : WriterAt w.heap.size w.heap.size [] (w.alloc (.cells #[.slice none 0 0] 78)) :=
  ⟨Nat.le_refl _, .slice none 0 0, heap_alloc_new w _, World.ownsRow_nil _ _ _ _⟩
theorem WriterAt.below {B b : Nat} {bs : List Value} {w w' : World} (h : WriterAt B b bs w) (hb : Below w.heap.size w w') : WriterAt B b bs w' := by
  obtain ⟨hB, v, hbk, hown⟩ := h
  have hlt := (Array.getElem?_eq_some_iff.1 hbk).1
  exact ⟨hB, v, (hb.block b hlt).trans hbk, owns_same hown (fun g hg hlt => hb.block g hlt)⟩
theorem WriterAt.lt {B b : Nat} {bs : List Value} {w : World} (h : WriterAt B b bs w) : b < w.heap.size := by
  obtain ⟨hB, v, hbk, hown⟩ := h
  exact (Array.getElem?_eq_some_iff.1 hbk).1
theorem WriterAt.put {B b : Nat} {v v' : Value} {bs' : List Value} {w : World} (hB : B ≤ b) (hb : w.heap[b]? = some (.cells #[v] 78 (0, 0))) (hown : w.ownsRow B 5 1 v' bs'.length bs') : WriterAt B b bs' (w.setCell ⟨b, 0, none⟩ v') := by
  have hne := Lib.ownBlock_ne hown hb ne_writer
  refine ⟨hB, v', ?_, ?_⟩
  · simp [World.setCell, Array.getElem?_modify, hb]
  · exact hown.kept (row := some b) ⟨rfl, rfl, rfl, by simp [World.setCell], fun k _ hk => Below.heap_setCell _ _ _ _ (fun e => hk (by simp [e]))⟩ (Or.inr hne)

/-- A block that is not the writer's own, nor its bytes'. -/
def NotIn (b k : Nat) (w : World) : Prop := k ≠ b ∧ ∀ v e fr, w.heap[b]? = some (.cells #[v] e fr) → v.ownBlock ≠ some k
def Spare (b : Nat) (w w' : World) : Prop := ∀ k, k < w.heap.size → NotIn b k w → w'.heap[k]? = w.heap[k]? ∧ NotIn b k w'
theorem WriterAt.notIn {B b k : Nat} {bs : List Value} {w w' : World} (h : WriterAt B b bs w) (hk : w.heap.size ≤ k) (hw : w'.heap[b]? = w.heap[b]?) : NotIn b k w' := by
  obtain ⟨hB, v, hbk, hown⟩ := h
  have hlt := (Array.getElem?_eq_some_iff.1 hbk).1
  refine ⟨by omega, fun v' e fr hv' he => ?_⟩
  rw [hw, hbk] at hv'
  injection hv' with hv'; injection hv' with hv'
  simp at hv'
  subst hv'
  rcases hown.2 with ⟨hv, _⟩ | ⟨g, cap, cur, hv, _, hg, _⟩
  · subst hv; simp [Value.ownBlock] at he
  · subst hv
    have := (Array.getElem?_eq_some_iff.1 hg).1
    simp [Value.ownBlock] at he
    omega
set_option maxHeartbeats 1000000 in
set_option maxRecDepth 100000 in
theorem wsmall_spare (B b : Nat) (bs : List Value) (n : Nat) (w : World) (h : WriterAt B b bs w) (hn : n < 256) (hlen : bs.length + 1 ≤ 140737488355328) (hBw : B ≤ w.heap.size) :
    Calls Try.prog 26 #[.pointer (some ⟨b, 0, none⟩), .int .i64 n] w fun e w' => e = .returned (.tuple #[]) ∧ WriterAt B b (bs ++ [.int .u8 n]) w' ∧ Below B w w' ∧ Spare b w w' := by
  obtain ⟨i0, hi, hz0, hz1, hz2⟩ := info_parts info_byte
  obtain ⟨hB, v, hbk, hown⟩ := h
  have hne := Lib.ownBlock_ne hown hbk ne_writer
  have c0 : w.cell? ⟨b, 0, none⟩ = some v := by rw [Lib.cell_of_heap hbk]; rfl
  have hlt : b < w.heap.size := (Array.getElem?_eq_some_iff.1 hbk).1
  have hn' : (n : Int) < 256 := by omega
  have c1 : v.oneCell' = true := by
    rcases hown.2 with ⟨hv, _⟩ | ⟨g, cap, cur, hv, _⟩ <;> subst hv <;> rfl
  go_enter Try.func26, Try.ntmps26
  go_wp2_with (at_builtin; refine wpList_append_own_at _ rfl _ _ 34 rfl B 5 i0 (.int .u8 0) 1 1 Try.underlying34 hi hz0 hz1 hz2 rfl (by decide) _ _ _ rfl (hown.alloc _) ⟨w.heap.size, 0, none⟩ 1 1 [.int .u8 n] rfl rfl (cell_one_new _ _ _) (fun u hu => by rw [List.mem_singleton.1 hu]; rfl) (by unfold maxLen; omega) (by omega) (by simp; omega) ?_)
  intro v' w2 hown' hgrow _ hob
  have hb2 : w2.heap[b]? = some (.cells #[v] 78 (0, 0)) := by
    rw [hgrow.block b (by simp; omega) (fun e => hne e.symm), Below.heap_alloc _ _ _ hlt]
    exact hbk
  have d0 : w2.cell? ⟨b, 0, none⟩ = some v := by rw [Lib.cell_of_heap hb2]; rfl
  have f1 : w2.frozen? ⟨b, 0, none⟩ = false := Lib.frozen_of_heap hb2 0
  obtain ⟨ao, n', cap, rfl⟩ : ∃ ao n' cap, v' = .slice ao n' cap := by
    rcases hown'.2 with ⟨hv, _⟩ | ⟨g, cap, cur, hv, _⟩
    · exact ⟨_, _, _, hv⟩
    · exact ⟨_, _, _, hv⟩
  go_wp2
  go_end0
  refine ⟨rfl, ?_, ?_, ?_⟩
  · exact WriterAt.put hB hb2 (bs' := bs ++ [.int .u8 n]) (by simpa using hown')
  · exact (((Below.refl B w).alloc (by omega) _).grown hgrow (by simp; omega) (fun k hk => (hown.lt k hk).1)).setCell (p := ⟨b, 0, none⟩) hB _
  · rintro k hk ⟨hkb, hkv⟩
    have hkv' := hkv _ _ _ hbk
    refine ⟨?_, hkb, fun v2 e2 fr2 hv2 => ?_⟩
    · rw [Below.heap_setCell _ _ _ _ (fun e => hkb (by simpa using e)), hgrow.block k (by simp; omega) (fun e => hkv' e.symm), Below.heap_alloc _ _ _ hk]
    · have h2 : (w2.setCell ⟨b, 0, none⟩ (.slice ao n' cap)).heap[b]? = some (.cells #[.slice ao n' cap] 78 (0, 0)) := by simp [World.setCell, Array.getElem?_modify, hb2]
      rw [h2] at hv2
      injection hv2 with hv2; injection hv2 with hv2
      simp at hv2
      subst hv2
      rcases hob with e | e
      · rw [e]; exact hkv'
      · rw [e]; intro he; injection he; omega
theorem wsmall_any (B b : Nat) (bs : List Value) (n : Nat) (w : World) (h : WriterAt B b bs w) (hn : n < 256) (hlen : bs.length + 1 ≤ 140737488355328) (hBw : B ≤ w.heap.size) :
    Calls Try.prog 26 #[.pointer (some ⟨b, 0, none⟩), .int .i64 n] w fun e w' => e = .returned (.tuple #[]) ∧ WriterAt B b (bs ++ [.int .u8 n]) w' ∧ Below B w w' :=
  (wsmall_spare B b bs n w h hn hlen hBw).mono fun e w' h => ⟨h.1, h.2.1, h.2.2.1⟩

set_option maxHeartbeats 1000000 in
set_option maxRecDepth 100000 in
theorem wtext_any (B b : Nat) (bs : List Value) (s : ByteArray) (w : World) (h : WriterAt B b bs w) (hn : s.size < 256) (hlen : bs.length + s.size + 1 ≤ 140737488355328) (hBw : B ≤ w.heap.size) :
    Calls Try.prog 28 #[.pointer (some ⟨b, 0, none⟩), .string s] w fun e w' => e = .returned (.tuple #[]) ∧ WriterAt B b (bs ++ [.int .u8 s.size] ++ Lib.strCells s) w' ∧ Below B w w' := by
  obtain ⟨i0, hi, hz0, hz1, hz2⟩ := info_parts info_byte
  go_enter Try.func28, Try.ntmps28
  go_wp2_with (go_at_call 26; refine (wsmall_any B b bs s.size _ h hn (by omega) hBw).mono ?_)
  rintro e w1 ⟨rfl, h1, hb1⟩
  obtain ⟨hB, v, hbk, hown⟩ := h1
  have hs1 := hb1.size
  have hne := Lib.ownBlock_ne hown hbk ne_writer
  have c0 : w1.cell? ⟨b, 0, none⟩ = some v := by rw [Lib.cell_of_heap hbk]; rfl
  have hlt : b < w1.heap.size := (Array.getElem?_eq_some_iff.1 hbk).1
  have hl : (bs ++ [Value.int .u8 s.size]).length = bs.length + 1 := by simp
  go_wp2_with (at_builtin; refine Lib.wpList_append_own_string _ rfl _ _ 34 9 rfl B 5 i0 Try.underlying34 Try.underlying9 hi hz0 hz1 hz2 _ _ _ rfl hown s rfl (by rw [hl]; unfold maxLen; omega) (by rw [hl]; omega) (by omega) ?_)
  intro v' w2 hown' hgrow _
  have hb2 : w2.heap[b]? = some (.cells #[v] 78 (0, 0)) := by
    rw [hgrow.block b hlt (fun e => hne e.symm)]
    exact hbk
  have d0 : w2.cell? ⟨b, 0, none⟩ = some v := by rw [Lib.cell_of_heap hb2]; rfl
  have f1 : w2.frozen? ⟨b, 0, none⟩ = false := Lib.frozen_of_heap hb2 0
  obtain ⟨ao, n', cap, rfl⟩ : ∃ ao n' cap, v' = .slice ao n' cap := by
    rcases hown'.2 with ⟨hv, _⟩ | ⟨g, cap, cur, hv, _⟩
    · exact ⟨_, _, _, hv⟩
    · exact ⟨_, _, _, hv⟩
  go_wp2
  go_end0
  refine ⟨rfl, ?_, ?_⟩
  · exact WriterAt.put hB hb2 (bs' := bs ++ [.int .u8 s.size] ++ Lib.strCells s) (by (have e : (bs ++ [Value.int .u8 s.size] ++ Lib.strCells s).length = bs.length + 1 + s.size := by (rw [List.length_append, Lib.strCells_length, hl])); rw [e]; simpa using hown')
  · exact (hb1.grown hgrow (by omega) (fun k hk => (hown.lt k hk).1)).setCell (p := ⟨b, 0, none⟩) hB _

/-- A number as bytes of seven bits, the lowest first. -/
def sevF : Nat → Nat → List UInt8
  | 0, n => [UInt8.ofNat n]
  | k + 1, n => if n < 128 then [UInt8.ofNat n] else UInt8.ofNat (128 + n % 128) :: sevF k (n / 128)
theorem sevF_small (k n : Nat) (h : n < 128) : sevF k n = [UInt8.ofNat n] := by
  cases k with
  | zero => rfl
  | succ k => simp only [sevF]; rw [if_pos h]
theorem sevF_fuel : ∀ (k j n : Nat), n ≤ k → n ≤ j → sevF k n = sevF j n
  | 0, j, n, hk, _ => by rw [sevF_small 0 n (by omega), sevF_small j n (by omega)]
  | k + 1, 0, n, _, hj => by rw [sevF_small 0 n (by omega), sevF_small (k + 1) n (by omega)]
  | k + 1, j + 1, n, hk, hj => by
    simp only [sevF]
    by_cases h : n < 128
    · rw [if_pos h, if_pos h]
    · rw [if_neg h, if_neg h, sevF_fuel k j (n / 128) (by omega) (by omega)]
def sevL (n : Nat) : List UInt8 := sevF n n
theorem sevL_small (n : Nat) (h : n < 128) : sevL n = [UInt8.ofNat n] := sevF_small n n h
theorem sevL_big (n : Nat) (h : 128 ≤ n) : sevL n = UInt8.ofNat (128 + n % 128) :: sevL (n / 128) := by
  unfold sevL
  obtain ⟨k, rfl⟩ : ∃ k, n = k + 1 := ⟨n - 1, by omega⟩
  conv => lhs; unfold sevF
  rw [if_neg (by omega), sevF_fuel k ((k + 1) / 128) ((k + 1) / 128) (by omega) (Nat.le_refl _)]
theorem sevL_len : ∀ (k n : Nat), n < 2 ^ (7 * k + 7) → (sevL n).length ≤ k + 1
  | 0, n, h => by rw [sevL_small n (by omega)]; exact Nat.le_refl _
  | k + 1, n, h => by
    by_cases h1 : n < 128
    · rw [sevL_small n h1]; simp
    · rw [sevL_big n (by omega), List.length_cons]
      have := sevL_len k (n / 128) (by
        rw [show 7 * (k + 1) + 7 = (7 * k + 7) + 7 by omega, Nat.pow_add] at h
        exact Nat.div_lt_of_lt_mul (by omega))
      omega
theorem u8_cell (n : Nat) (h : n < 256) : Value.int .u8 ((UInt8.ofNat n).toNat : Int) = .int .u8 n := by
  rw [UInt8.toNat_ofNat', Nat.mod_eq_of_lt h]
theorem and_127 (n : Nat) (h : n < 18446744073709551616) : bits BinOp.and IntKind.u64 (n : Int) 127 = ((n % 128 : Nat) : Int) := by
  have h1 := bits_and_u64_nat n 127 h (by omega)
  have h2 : n &&& 127 = n % 128 := Nat.and_two_pow_sub_one_eq_mod n 7
  rw [h2] at h1
  exact h1
theorem or_128 (n : Nat) (h : n < 128) : bits BinOp.or IntKind.u64 (n : Int) 128 = ((128 + n : Nat) : Int) := by
  have h1 := u64_orv7 (y := (n : Int)) (x := 128) (by omega) (by omega) (by omega) (by omega) (by omega)
  rw [h1]; omega
theorem and_or (n : Nat) (h : n < 18446744073709551616) : bits BinOp.or IntKind.u64 (bits BinOp.and IntKind.u64 (n : Int) 127) 128 = ((128 + n % 128 : Nat) : Int) := by
  rw [and_127 n h, or_128 (n % 128) (Nat.mod_lt _ (by decide))]

set_option maxHeartbeats 4000000 in
set_option maxRecDepth 100000 in
theorem wlong_any (B b : Nat) (l : List UInt8) (n : Nat) (w : World) (h : WriterAt B b (Lib.byteCells l) w) (hn : n < 9223372036854775808) (hlen : l.length + 20 ≤ 140737488355328) (hBw : B ≤ w.heap.size) :
    Calls Try.prog 27 #[.pointer (some ⟨b, 0, none⟩), .int .u64 n] w fun e w' => e = .returned (.tuple #[]) ∧ WriterAt B b (Lib.byteCells (l ++ sevL n)) w' ∧ Below B w w' := by
  have HS : Hid ((sevL n).length ≤ 9) := sevL_len 8 n (by omega)
  have hn' : (n : Int) < 9223372036854775808 := by omega
  go_enter Try.func27, Try.ntmps27
  go_wp2_with fail
  go_loopw [1] (fun i wr => ∃ (m : Nat) (acc : List UInt8), i = .int .u64 m ∧ m < 9223372036854775808 ∧ WriterAt B b (Lib.byteCells (l ++ acc)) wr ∧ Below B w wr ∧ Hid (acc ++ sevL m = sevL n)) (fun i _ => (intOf i).toNat)
  case atStart => exact ⟨n, [], rfl, hn, by simpa using h, Below.refl _ _, rfl⟩
  case round =>
    obtain ⟨m, acc, rfl, hm, hwr, hbr, HE⟩ := hrel
    have hm' : (m : Int) < 9223372036854775808 := by omega
    have hal : acc.length ≤ 9 := by have h1 := congrArg List.length HE.out; rw [List.length_append] at h1; have := HS.out; omega
    have hlw : (Lib.byteCells (l ++ acc)).length ≤ l.length + 9 := by rw [Lib.byteCells_length, List.length_append]; omega
    have hBr : B ≤ wr.heap.size := by have := hwr.lt; have := hwr.1; omega
    have WR := Lib.hid hwr
    clear hwr
    by_cases h1 : m < 128
    · have h1' : ¬ (128 : Int) ≤ m := by omega
      have HV : Hid (Lib.byteCells (l ++ acc) ++ [.int .u8 m] = Lib.byteCells (l ++ sevL n)) := by
        show _ = _
        rw [← HE.out, sevL_small m h1, ← List.append_assoc, Lib.byteCells_append (l ++ acc)]
        simp only [Lib.byteCells, List.map_cons, List.map_nil]
        rw [u8_cell m (by omega)]
      go_wp2_with fail
      refine (wsmall_any B b _ m _ WR.out (by omega) (by omega) hBr).mono ?_
      rintro e w1 ⟨rfl, hw1, hb1⟩
      rw [HV.out] at hw1
      go_wp2
      go_end0
      exact ⟨rfl, hw1, hbr.trans hb1⟩
    · have h1' : (128 : Int) ≤ m := by omega
      have HB := and_or m (by omega)
      have hq : m % 128 < 128 := Nat.mod_lt _ (by decide)
      have HV : Hid (Lib.byteCells (l ++ acc) ++ [.int .u8 ((128 + m % 128 : Nat) : Int)] = Lib.byteCells (l ++ (acc ++ [UInt8.ofNat (128 + m % 128)]))) := by
        show _ = _
        rw [← List.append_assoc, Lib.byteCells_append (l ++ acc)]
        simp only [Lib.byteCells, List.map_cons, List.map_nil]
        rw [u8_cell (128 + m % 128) (by omega)]
      have HE' : Hid ((acc ++ [UInt8.ofNat (128 + m % 128)]) ++ sevL (m / 128) = sevL n) := by
        show _ = _
        rw [← HE.out, sevL_big m (by omega)]; simp
      have HC : Hid (∀ wx, WriterAt B b (Lib.byteCells (l ++ acc)) wx → B ≤ wx.heap.size → Calls Try.prog 26 #[.pointer (some ⟨b, 0, none⟩), .int .i64 ((128 + m % 128 : Nat) : Int)] wx fun e w' => e = .returned (.tuple #[]) ∧ WriterAt B b (Lib.byteCells (l ++ (acc ++ [UInt8.ofNat (128 + m % 128)]))) w' ∧ Below B wx w') := fun wx hw hB => by
        rw [← HV.out]; exact wsmall_any B b _ (128 + m % 128) wx hw (by omega) (by omega) hB
      clear HE HV
      generalize hqq : m % 128 = q at HB hq HC HE'
      clear hqq
      go_wp2_with fail
      refine (HC.out _ WR.out hBr).mono ?_
      rintro e w1 ⟨rfl, hw1, hb1⟩
      go_wp2
      go_roundw
      case rel => exact ⟨m / 128, acc ++ [UInt8.ofNat (128 + q)], by go_num, by omega, hw1, hbr.trans hb1, HE'⟩
      case measure => simp [intOf]; omega
end Go.Proofs.Ytciomaeieggbiaa
