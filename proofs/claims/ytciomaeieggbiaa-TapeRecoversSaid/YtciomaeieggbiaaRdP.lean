/-
  Bytes that are read as an operation: what is read, in plain Lean.
-/
import Derived.Test.YtciomaeieggbiaaOpnW
namespace Go.Proofs.Ytciomaeieggbiaa
open Go.RowKit
set_option linter.unusedVariables false
set_option linter.unusedSimpArgs false

/-- Bytes that are read: those that are still there, or what was wrong. -/
inductive Sc where
  | on (l : List UInt8)
  | bad (e : Int)
def Sc.rest : Sc → List UInt8 | .on l => l | .bad _ => []
def Sc.code : Sc → Int | .on _ => 0 | .bad e => e
def Sc.stop (e : Int) : Sc → Sc | .on _ => .bad e | .bad f => .bad f
def Sc.small : Sc → Nat × Sc
  | .on [] => (0, .bad 5)
  | .on (c :: l) => (c.toNat, .on l)
  | .bad e => (0, .bad e)
def longF : Nat → Nat → Nat → Sc → Nat × Sc
  | 0, _, n, s => (n, s)
  | k + 1, i, n, s => match s.small with
    | (_, .bad e) => (0, .bad e)
    | (c, .on l) => if (0 < i ∧ c = 0) ∨ (i = 8 ∧ 127 < c) then (0, .bad 4) else if c < 128 then (n + c * 128 ^ i, .on l) else longF k (i + 1) (n + (c % 128) * 128 ^ i) (.on l)
def Sc.long (s : Sc) : Nat × Sc := longF 9 0 0 s
def Sc.text (s : Sc) : ByteArray × Sc := match s.small with
  | (_, .bad e) => (ByteArray.empty, .bad e)
  | (n, .on l) => if l.length < n then (ByteArray.empty, .bad 5) else (⟨(l.take n).toArray⟩, .on (l.drop n))
def signedI (m : Nat) : Int := if m % 2 = 1 then -((m / 2 : Nat) : Int) - 1 else ((m / 2 : Nat) : Int)
def Sc.val (s : Sc) : Val × Sc :=
  if s.small.1 = 1 then (⟨1, signedI s.small.2.long.1, ByteArray.empty⟩, s.small.2.long.2)
  else if s.small.1 = 2 then (⟨2, 0, s.small.2.text.1⟩, s.small.2.text.2)
  else (⟨s.small.1, 0, ByteArray.empty⟩, s.small.2.stop 4)
def Sc.vals : Nat → Sc → List Val × Sc
  | 0, s => ([], s)
  | _ + 1, .bad e => ([], .bad e)
  | n + 1, .on l => ((Sc.on l).val.1 :: (Sc.vals n (Sc.on l).val.2).1, (Sc.vals n (Sc.on l).val.2).2)
def Sc.list (s : Sc) : List Val × Sc := s.small.2.vals s.small.1
def Sc.op (s : Sc) : (Opn × List Val) × Sc :=
  let k := s.small.1
  let t := s.small.2
  if k = 2 then
    ((⟨2, ByteArray.empty, 0, 0, t.long.1, decide (t.long.2.small.1 = 1)⟩, []), if t.long.2.small.1 ≤ 1 then t.long.2.small.2 else t.long.2.small.2.stop 4)
  else if k = 1 then
    ((⟨1, t.text.1, t.text.2.long.1, t.text.2.long.2.long.1, 0, false⟩, t.text.2.long.2.long.2.list.1), t.text.2.long.2.long.2.list.2)
  else if k = 3 then ((⟨3, t.text.1, 0, 0, 0, false⟩, []), t.text.2)
  else ((⟨k, ByteArray.empty, 0, 0, 0, false⟩, []), t.stop 3)
def noOpn : Opn := ⟨0, ByteArray.empty, 0, 0, 0, false⟩
/-- What bytes are read as; what they are refused for (0: nothing). -/
def decE (l : List UInt8) : Int :=
  if 20000 < l.length then 1 else match (Sc.on l).op with
  | (_, .bad e) => e
  | (ov, .on r) => if 0 < r.length then 4 else wireE ov.1 ov.2
def decO (l : List UInt8) : Opn := if decE l = 0 then (Sc.on l).op.1.1 else noOpn
def decV (l : List UInt8) : List Val := if decE l = 0 then (Sc.on l).op.1.2 else []

/-- What was wrong is not 0. -/
def Sc.fine : Sc → Prop | .on _ => True | .bad e => e ≠ 0
theorem Sc.stop_fine {s : Sc} {e : Int} (h : s.fine) (he : e ≠ 0) : (s.stop e).fine := by cases s; exact he; exact h
theorem Sc.small_fine {s : Sc} (h : s.fine) : s.small.2.fine := by
  match s, h with
  | .on [], _ => exact (by decide : (5 : Int) ≠ 0)
  | .on (c :: l), _ => trivial
  | .bad e, h => exact h
theorem Sc.small_lt (s : Sc) : s.small.1 < 256 := by
  match s with
  | .on [] => decide
  | .on (c :: l) => exact c.toNat_lt
  | .bad e => show (0 : Nat) < 256; decide
theorem longF_fine : ∀ (k i n : Nat) (s : Sc), s.fine → (longF k i n s).2.fine
  | 0, _, _, _, h => h
  | k + 1, i, n, s, h => by
    have hs := Sc.small_fine h
    unfold longF
    match hm : s.small with
    | (c, .bad e) => rw [hm] at hs; exact hs
    | (c, .on l) =>
      simp only
      split
      · exact (by decide : (4 : Int) ≠ 0)
      · split
        · trivial
        · exact longF_fine k (i + 1) _ _ trivial
theorem Sc.long_fine {s : Sc} (h : s.fine) : s.long.2.fine := longF_fine 9 0 0 s h
theorem longF_lt : ∀ (k i n : Nat) (s : Sc), i + k = 9 → n < 128 ^ i → (longF k i n s).1 < 9223372036854775808
  | 0, i, n, s, hi, hn => by
    have : i = 9 := by omega
    subst this
    exact Nat.lt_of_lt_of_le hn (by decide)
  | k + 1, i, n, s, hi, hn => by
    have hp : 128 ^ (i + 1) ≤ 128 ^ 9 := Nat.pow_le_pow_right (by decide) (by omega)
    have h9 : (128 : Nat) ^ 9 = 9223372036854775808 := by decide
    have hs : 128 ^ (i + 1) = 128 ^ i * 128 := Nat.pow_succ ..
    unfold longF
    match hm : s.small with
    | (c, .bad e) => simp
    | (c, .on l) =>
      simp only
      split
      · simp
      · split
        · rename_i h1 h2
          have : c * 128 ^ i ≤ 127 * 128 ^ i := Nat.mul_le_mul_right _ (by omega)
          show n + c * 128 ^ i < _
          omega
        · refine longF_lt k (i + 1) _ _ (by omega) ?_
          have hc : c % 128 ≤ 127 := by omega
          have : (c % 128) * 128 ^ i ≤ 127 * 128 ^ i := Nat.mul_le_mul_right _ hc
          omega
theorem Sc.long_lt (s : Sc) : s.long.1 < 9223372036854775808 := longF_lt 9 0 0 s rfl (by decide)
theorem Sc.text_fine {s : Sc} (h : s.fine) : s.text.2.fine := by
  have hs := Sc.small_fine h
  unfold Sc.text
  match hm : s.small with
  | (c, .bad e) => rw [hm] at hs; exact hs
  | (c, .on l) =>
    simp only
    split
    · exact (by decide : (5 : Int) ≠ 0)
    · trivial
theorem Sc.text_len (s : Sc) : s.text.1.size ≤ 255 := by
  have hs := Sc.small_lt s
  unfold Sc.text
  match hm : s.small with
  | (c, .bad e) => show ByteArray.empty.size ≤ 255; decide
  | (c, .on l) =>
    simp only
    split
    · show ByteArray.empty.size ≤ 255; decide
    · rw [hm] at hs
      simp only at hs
      show (l.take c).toArray.size ≤ 255
      simp; omega
theorem Sc.val_fine {s : Sc} (h : s.fine) : s.val.2.fine := by
  unfold Sc.val
  split
  · exact Sc.long_fine (Sc.small_fine h)
  · split
    · exact Sc.text_fine (Sc.small_fine h)
    · exact Sc.stop_fine (Sc.small_fine h) (by decide)
theorem Sc.val_len (s : Sc) : s.val.1.text.size ≤ 255 := by
  unfold Sc.val
  split
  · show ByteArray.empty.size ≤ 255; decide
  · split
    · exact Sc.text_len _
    · show ByteArray.empty.size ≤ 255; decide
theorem Sc.vals_fine : ∀ (n : Nat) (s : Sc), s.fine → (s.vals n).2.fine
  | 0, _, h => h
  | n + 1, .bad e, h => h
  | n + 1, .on l, h => Sc.vals_fine n _ (Sc.val_fine (s := .on l) trivial)
theorem Sc.vals_len : ∀ (n : Nat) (s : Sc), (s.vals n).1.length ≤ n
  | 0, _ => Nat.le_refl _
  | n + 1, .bad e => Nat.zero_le _
  | n + 1, .on l => by simp only [Sc.vals, List.length_cons]; exact Nat.succ_le_succ (Sc.vals_len n _)
theorem Sc.op_len (s : Sc) : s.op.1.1.type.size ≤ 255 := by
  unfold Sc.op
  simp only
  split
  · show ByteArray.empty.size ≤ 255; decide
  · split
    · exact Sc.text_len _
    · split
      · exact Sc.text_len _
      · show ByteArray.empty.size ≤ 255; decide
theorem Sc.list_fine {s : Sc} (h : s.fine) : s.list.2.fine := Sc.vals_fine _ _ (Sc.small_fine h)
theorem Sc.op_fine {s : Sc} (h : s.fine) : s.op.2.fine := by
  unfold Sc.op
  simp only
  split
  · split
    · exact Sc.small_fine (Sc.long_fine (Sc.small_fine h))
    · exact Sc.stop_fine (Sc.small_fine (Sc.long_fine (Sc.small_fine h))) (by decide)
  · split
    · exact Sc.list_fine (Sc.long_fine (Sc.long_fine (Sc.text_fine (Sc.small_fine h))))
    · split
      · exact Sc.text_fine (Sc.small_fine h)
      · exact Sc.stop_fine (Sc.small_fine h) (by decide)
theorem decO_len (l : List UInt8) : (decO l).type.size ≤ 255 := by
  unfold decO
  split
  · exact Sc.op_len _
  · show ByteArray.empty.size ≤ 255; decide
end Go.Proofs.Ytciomaeieggbiaa
