/-
  The walks of lex and its reference, third part: numbers and texts.
-/
import Derived.Test.YtenchgdlkbdpdaaDoorLexX
namespace Go.Proofs.YtenchgdlkbdpdaaDoor
open Go.RowKit
set_option linter.unusedVariables false
set_option linter.unusedSimpArgs false

def isDig (c : UInt8) : Bool := inB (c.toNat : Int) 48 57
def isLet (c : UInt8) : Bool := inB (c.toNat : Int) 97 122
/-- How many bytes of a kind stand at a list's beginning. -/
def run (p : UInt8 → Bool) (l : List UInt8) : Nat := (l.takeWhile p).length
theorem run_le (p : UInt8 → Bool) (l : List UInt8) : run p l ≤ l.length := by
  unfold run
  induction l with
  | nil => simp
  | cons c l ih =>
    simp only [List.takeWhile_cons]
    split <;> simp <;> omega
theorem run_yes {p : UInt8 → Bool} {s : ByteArray} {k : Nat} (h : k < s.size) (hp : p s[k] = true) : run p (s.data.toList.drop k) = 1 + run p (s.data.toList.drop (k + 1)) := by
  rw [drop_byte s k h]; unfold run; rw [List.takeWhile_cons, if_pos hp]; simp; omega
theorem run_no {p : UInt8 → Bool} {s : ByteArray} {k : Nat} (h : k < s.size) (hp : p s[k] = false) : run p (s.data.toList.drop k) = 0 := by
  rw [drop_byte s k h]; unfold run; rw [List.takeWhile_cons, if_neg (by rw [hp]; exact Bool.false_ne_true)]; rfl
theorem run_end {p : UInt8 → Bool} {s : ByteArray} {k : Nat} (h : s.size ≤ k) : run p (s.data.toList.drop k) = 0 := by
  rw [List.drop_of_length_le (by simpa using h)]; rfl
/-- The number that the digits make, on top of one; none: it is too great. -/
def numA : Int → List UInt8 → Option Int
  | acc, [] => some acc
  | acc, c :: l => if isDig c = true then (if 1125899906842624 < 10 * acc + ((c.toNat : Int) - 48) then none else numA (10 * acc + ((c.toNat : Int) - 48)) l) else some acc
theorem numA_yes {s : ByteArray} {k : Nat} {acc : Int} (h : k < s.size) (hp : isDig s[k] = true) : numA acc (s.data.toList.drop k) = if 1125899906842624 < 10 * acc + ((s[k].toNat : Int) - 48) then none else numA (10 * acc + ((s[k].toNat : Int) - 48)) (s.data.toList.drop (k + 1)) := by
  rw [drop_byte s k h]; simp only [numA]; rw [if_pos hp]
theorem numA_no {s : ByteArray} {k : Nat} {acc : Int} (h : k < s.size) (hp : isDig s[k] = false) : numA acc (s.data.toList.drop k) = some acc := by
  rw [drop_byte s k h]; simp only [numA]; rw [if_neg (by rw [hp]; exact Bool.false_ne_true)]
theorem numA_end {s : ByteArray} {k : Nat} {acc : Int} (h : s.size ≤ k) : numA acc (s.data.toList.drop k) = some acc := by
  rw [List.drop_of_length_le (by simpa using h)]; rfl

/-- What lex.number answers. -/
def NumPost (s : ByteArray) (w : World) (e : Ending) (w' : World) : Prop :=
  w' = w ∧ ((∃ v, numA 0 s.data.toList = some v ∧ e = .returned (.tuple #[.int .i64 v, .int .i64 (run isDig s.data.toList), .bool true])) ∨ (numA 0 s.data.toList = none ∧ ∃ i : Int, e = .returned (.tuple #[.int .i64 0, .int .i64 i, .bool false])))
set_option maxHeartbeats 2000000 in
theorem number_any (s : ByteArray) (w : World) (hs : s.size ≤ maxLen) : Calls Tryd.prog 49 #[.string s] w (NumPost s w) := by
  unfold maxLen at hs
  go_enter Tryd.func49, Tryd.ntmps49
  go_wp2_with fail
  go_loop [5, 6] (fun n i => ∃ (k : Nat) (acc : Int), k ≤ s.size ∧ i = .int .i64 k ∧ n = .int .i64 acc ∧ 0 ≤ acc ∧ acc ≤ 1125899906842624 ∧ Hid (numA 0 s.data.toList = numA acc (s.data.toList.drop k)) ∧ Hid (run isDig s.data.toList = k + run isDig (s.data.toList.drop k))) (fun _ i => s.size - (intOf i).toNat)
  case atStart => exact ⟨0, 0, by omega, rfl, rfl, by omega, by omega, rfl, (by show _ = _; simp)⟩
  case round =>
    obtain ⟨k, acc, hk, rfl, rfl, ha0, ha1, HN, HR⟩ := hrel
    by_cases hlt : k < s.size
    · by_cases hd : isDig s[k] = true
      · have hd2 : 48 ≤ (s[k].toNat : Int) ∧ (s[k].toNat : Int) ≤ 57 := inB_true.1 hd
        obtain ⟨g1, g2⟩ := hd2
        have HD : Hid (∀ wx, Calls Tryd.prog 48 #[.int .u8 (s[k].toNat : Int)] wx fun e w' => e = .returned (.bool true) ∧ w' = wx) := fun wx => by rw [← hd]; exact digit_any _ wx
        have NY := Lib.hid (numA_yes (acc := acc) hlt hd)
        have RY := Lib.hid (run_yes hlt hd)
        clear hd
        by_cases hgt : (1125899906842624 - ((s[k].toNat : Int) - 48)) / 10 < acc
        · have HF : Hid (numA 0 s.data.toList = none) := by show _ = _; rw [HN.out, NY.out, if_pos (by omega)]
          go_wp2_with (go_at_call 48; refine (HD.out _).mono ?_; rintro e w' ⟨rfl, rfl⟩)
          go_ret3
          exact ⟨rfl, Or.inr ⟨HF.out, _, rfl⟩⟩
        · have hle : acc ≤ (1125899906842624 - ((s[k].toNat : Int) - 48)) / 10 := by omega
          have HF : Hid (numA 0 s.data.toList = numA (10 * acc + ((s[k].toNat : Int) - 48)) (s.data.toList.drop (k + 1))) := by show _ = _; rw [HN.out, NY.out, if_neg (by omega)]
          have HR' : Hid (run isDig s.data.toList = (k + 1 : Nat) + run isDig (s.data.toList.drop (k + 1))) := by show _ = _; rw [HR.out, RY.out]; omega
          have hm : 10 * acc + ((s[k].toNat : Int) - 48) ≤ 1125899906842624 := by omega
          clear hgt
          go_wp2_with (go_at_call 48; refine (HD.out _).mono ?_; rintro e w' ⟨rfl, rfl⟩)
          go_round
          case rel => exact ⟨k + 1, _, by omega, by go_num, rfl, by omega, hm, HF, HR'⟩
          case measure => simp [intOf]; omega
      · have hd' : isDig s[k] = false := by simpa using hd
        have HD : Hid (∀ wx, Calls Tryd.prog 48 #[.int .u8 (s[k].toNat : Int)] wx fun e w' => e = .returned (.bool false) ∧ w' = wx) := fun wx => by rw [← hd']; exact digit_any _ wx
        have HF : Hid (numA 0 s.data.toList = some acc) := by show _ = _; rw [HN.out, numA_no hlt hd']
        have HR' : Hid (run isDig s.data.toList = k) := by show _ = _; rw [HR.out, run_no hlt hd']; omega
        clear hd hd'
        go_wp2_with (go_at_call 48; refine (HD.out _).mono ?_; rintro e w' ⟨rfl, rfl⟩)
        go_ret3
        exact ⟨rfl, Or.inl ⟨acc, HF.out, by rw [HR'.out]; rfl⟩⟩
    · have HF : Hid (numA 0 s.data.toList = some acc) := by show _ = _; rw [HN.out, numA_end (by omega)]
      have HR' : Hid (run isDig s.data.toList = k) := by show _ = _; rw [HR.out, run_end (by omega)]; omega
      go_wp2
      go_ret3
      exact ⟨rfl, Or.inl ⟨acc, HF.out, by rw [HR'.out]; rfl⟩⟩

/-- What lex.text answers. -/
def TxtPost (s : ByteArray) (w : World) (e : Ending) (w' : World) : Prop :=
  w' = w ∧ ((∃ n : Nat, Lib.indexByte s.data.toList 34 = n ∧ e = .returned (.tuple #[.string (s.extract 0 n), .int .i64 (n + 1 : Nat), .bool true])) ∨ (Lib.indexByte s.data.toList 34 = -1 ∧ e = .returned (.tuple #[.string ByteArray.empty, .int .i64 0, .bool false])))
set_option maxHeartbeats 1000000 in
theorem text_any (s : ByteArray) (w : World) (hs : s.size ≤ maxLen) : Calls Tryd.prog 50 #[.string s] w (TxtPost s w) := by
  unfold maxLen at hs
  have HQ : Hid (∀ wx, Calls Tryd.prog 23 #[.string s, .int .u8 34] wx fun e w' => e = .returned (.int .i64 (Lib.indexByte s.data.toList 34)) ∧ w' = wx) := fun wx => Tryd.strings_IndexByte s 34 wx
  have hge := Lib.indexByte_ge s.data.toList 34
  by_cases hn : Lib.indexByte s.data.toList 34 < 0
  · have HN : Hid (Lib.indexByte s.data.toList 34 = -1) := by show _ = _; omega
    go_enter Tryd.func50, Tryd.ntmps50
    go_wp2_with (go_at_call 23; refine (HQ.out _).mono ?_; rintro e w' ⟨rfl, rfl⟩)
    go_ret3
    exact ⟨rfl, Or.inr ⟨HN.out, rfl⟩⟩
  · obtain ⟨n, hnn⟩ : ∃ n : Nat, Lib.indexByte s.data.toList 34 = n := ⟨(Lib.indexByte s.data.toList 34).toNat, by omega⟩
    have hlt : n < s.size := by
      have := (List.getElem?_eq_some_iff.1 (Lib.indexByte_some hnn).1).1
      simpa using this
    have HN := Lib.hid hnn
    rw [hnn] at HQ
    clear hn hge hnn
    go_enter Tryd.func50, Tryd.ntmps50
    go_wp2_with (go_at_call 23; refine (HQ.out _).mono ?_; rintro e w' ⟨rfl, rfl⟩)
    go_ret3
    exact ⟨rfl, Or.inl ⟨n, HN.out, rfl⟩⟩
end Go.Proofs.YtenchgdlkbdpdaaDoor
