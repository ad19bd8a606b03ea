/-
  What an operation's bytes are, plain.
-/
import Derived.Test.YtciomaeieggbiaaWriX
import Derived.Test.YtciomaeieggbiaaOpnW
namespace Go.Proofs.Ytciomaeieggbiaa
open Go.RowKit
set_option linter.unusedVariables false
set_option linter.unusedSimpArgs false

theorem firstN_some {f : Nat → Int} {n : Nat} : firstN f n ≠ 0 ↔ ∃ j, j < n ∧ f j ≠ 0 := by
  constructor
  · intro h
    apply Classical.byContradiction
    intro hn
    exact h (firstN_zero fun j hj => Classical.byContradiction fun hf => hn ⟨j, hj, hf⟩)
  · intro ⟨j, hj, hf⟩ h
    have key : ∀ m, firstN f m = 0 → AllZ f m := fun m => by
      induction m with
      | zero => intro _; exact allZ_zero f
      | succ m ih =>
        intro h
        simp only [firstN] at h
        by_cases h0 : firstN f m = 0
        · rw [if_pos h0] at h
          exact allZ_succ (ih h0) h
        · rw [if_neg h0] at h
          exact absurd h h0
    exact hf (key n h j hj)
def valL (v : Val) : List UInt8 := [UInt8.ofNat v.kind.toNat] ++ (if v.kind = 1 then sevL (foldN v.int) else textL v.text)
def opL (o : Opn) (vs : List Val) : List UInt8 :=
  if o.kind = 2 then [2] ++ sevL o.delta.toNat ++ [if o.collect then 1 else 0]
  else if o.kind = 3 then [3] ++ textL o.type
  else [1] ++ textL o.type ++ sevL o.start.toNat ++ sevL o.stop.toNat ++ [UInt8.ofNat vs.length] ++ vs.flatMap valL
/-- The bytes that an operation is told as; none where it is refused. -/
def encL (o : Opn) (vs : List Val) : List UInt8 := if wireE o vs = 0 then opL o vs else []
def valMay (v : Val) : Prop := (v.kind = 1 ∧ -1125899906842624 ≤ v.int ∧ v.int ≤ 1125899906842624) ∨ (v.kind = 2 ∧ v.text.size ≤ 20)
theorem valE_may {v : Val} (h : valE v = 0) : valMay v := by
  unfold valE at h
  by_cases k1 : v.kind = 1
  · rw [if_pos k1] at h
    by_cases h1 : v.text.size = 0
    · rw [if_pos h1] at h
      by_cases h2 : -1125899906842624 ≤ v.int ∧ v.int ≤ 1125899906842624
      · exact Or.inl ⟨k1, h2⟩
      · rw [if_neg h2] at h; omega
    · rw [if_neg h1] at h; omega
  · rw [if_neg k1] at h
    by_cases k2 : v.kind = 2
    · rw [if_pos k2] at h
      by_cases h1 : v.int = 0
      · rw [if_pos h1] at h
        by_cases h2 : v.text.size ≤ 20
        · exact Or.inr ⟨k2, h2⟩
        · rw [if_neg h2] at h; omega
      · rw [if_neg h1] at h; omega
    · rw [if_neg k2] at h; omega
theorem nameE_len {s : ByteArray} (h : nameE s = 0) : s.size ≤ 10 := by
  unfold nameE at h
  by_cases h1 : 1 ≤ s.size ∧ s.size ≤ 10
  · exact h1.2
  · rw [if_neg h1] at h; omega
theorem spanE_may {a b : Int} (h : spanE a b = 0) : (0 ≤ a ∧ a ≤ 1099511627776) ∧ (0 ≤ b ∧ b ≤ 1099511627776) := by
  unfold spanE at h
  by_cases h1 : (0 ≤ a ∧ a ≤ 1099511627776) ∧ (0 ≤ b ∧ b ≤ 1099511627776)
  · exact h1
  · rw [if_neg h1] at h; omega
/-- What holds of an operation that may be told. -/
theorem wireE_may {o : Opn} {vs : List Val} (h : wireE o vs = 0) :
    (o.kind = 2 ∧ 0 ≤ o.delta ∧ o.delta ≤ 1099511627776) ∨ (o.kind = 3 ∧ o.type.size ≤ 10) ∨
    (o.kind = 1 ∧ o.type.size ≤ 10 ∧ ((0 ≤ o.start ∧ o.start ≤ 1099511627776) ∧ (0 ≤ o.stop ∧ o.stop ≤ 1099511627776)) ∧ vs.length ≤ 4 ∧ ∀ v ∈ vs, valMay v) := by
  unfold wireE at h
  by_cases hb : bareE o vs.length = 0
  · rw [if_pos hb] at h
    have hk : o.kind = 1 ∨ o.kind = 2 ∨ o.kind = 3 := by
      unfold bareE at hb; split at hb
      · omega
      · omega
    by_cases k2 : o.kind = 2
    · rw [if_pos k2] at h
      by_cases h1 : 0 ≤ o.delta ∧ o.delta ≤ 1099511627776
      · exact Or.inl ⟨k2, h1⟩
      · rw [if_neg h1] at h; omega
    · rw [if_neg k2] at h
      by_cases k1 : o.kind = 1
      · rw [if_pos k1] at h
        by_cases hs : spanE o.start o.stop = 0
        · rw [if_pos hs] at h
          by_cases h4 : vs.length ≤ 4
          · rw [if_pos h4] at h
            by_cases hf : firstN (valsE vs) vs.length = 0
            · rw [if_pos hf] at h
              refine Or.inr (Or.inr ⟨k1, nameE_len h, spanE_may hs, h4, fun v hv => ?_⟩)
              obtain ⟨j, hj, rfl⟩ := List.mem_iff_getElem.1 hv
              have h2 : valsE vs j = 0 := Classical.byContradiction fun hne => (firstN_some (f := valsE vs) (n := vs.length)).2 ⟨j, hj, hne⟩ hf
              unfold valsE at h2
              rw [vals_getD vs j hj] at h2
              exact valE_may h2
            · rw [if_neg hf] at h; omega
          · rw [if_neg h4] at h; omega
        · rw [if_neg hs] at h; omega
      · rw [if_neg k1] at h
        exact Or.inr (Or.inl ⟨by omega, nameE_len h⟩)
  · rw [if_neg hb] at h; omega
end Go.Proofs.Ytciomaeieggbiaa
