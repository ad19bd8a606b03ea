/-
  Tokens joined: what the text is, and how long. Plain.
-/
import Derived.Test.YtenchgdlkbdpdaaDoorDigW
import Derived.Test.YtenchgdlkbdpdaaDoorLexV
import Derived.Test.YtenchgdlkbdpdaaDoorLexT
namespace Go.Proofs.YtenchgdlkbdpdaaDoor
set_option linter.unusedVariables false

/-- A number's digits are no more than the powers of ten allow. -/
theorem decV_len : ∀ (k n : Nat), n < 10 ^ (k + 1) → (decV n).size ≤ k + 1
  | 0, n, h => by
    rw [decV_small n (by omega)]
    exact Nat.le_refl _
  | k + 1, n, h => by
    by_cases h10 : n < 10
    · rw [decV_small n h10]
      show 1 ≤ _; omega
    · rw [decV_big n (by omega), ByteArray.size_append]
      have := decV_len k (n / 10) (by rw [Nat.pow_succ] at h; omega)
      have h1 : (dig1 (n % 10)).size = 1 := rfl
      omega
theorem decV_16 (n : Nat) (h : n ≤ 1125899906842624) : (decV n).size ≤ 16 := decV_len 15 n (by omega)

/-- What a token adds to the text. -/
def pieceL (t : Tok) : List UInt8 :=
  (if t.kind = 2 then (decV t.int.toNat).data.toList else if t.kind = 3 then [34] ++ t.text.data.toList ++ [34] else t.text.data.toList) ++ [32]
/-- Tokens as a text, on top of one: what they are refused for, and the text. -/
def joinF : List Tok → List UInt8 → Int × List UInt8
  | [], acc => if 3000 < acc.length then (1, []) else (0, acc)
  | t :: l, acc => if tokE t.kind t.text t.int = 0 then joinF l (acc ++ pieceL t) else (tokE t.kind t.text t.int, [])
def joinV (l : List Tok) : Int × List UInt8 := if 700 < l.length then (8, []) else joinF l []
theorem joinF_at {l : List Tok} {k : Nat} (h : k < l.length) (acc : List UInt8) : joinF (l.drop k) acc = if tokE l[k].kind l[k].text l[k].int = 0 then joinF (l.drop (k + 1)) (acc ++ pieceL l[k]) else (tokE l[k].kind l[k].text l[k].int, []) := by
  rw [List.drop_eq_getElem_cons h]; rfl
theorem joinF_end {l : List Tok} {k : Nat} (h : l.length ≤ k) (acc : List UInt8) : joinF (l.drop k) acc = if 3000 < acc.length then (1, []) else (0, acc) := by
  rw [List.drop_of_length_le h]; rfl
theorem nameE_len {s : ByteArray} (h : nameE s = 0) : s.size ≤ 10 := by
  unfold nameE at h
  by_cases h1 : 1 ≤ s.size ∧ s.size ≤ 10
  · exact h1.2
  · rw [if_neg h1] at h; omega
theorem hasW_len {s : ByteArray} (h : hasW marksL s = true) : s.size ≤ 2 := by
  obtain ⟨j, hj, hs⟩ := hasW_iff.1 h
  have hm := marks_size' j hj
  have h1 : s.toList = (marksL.getD j ByteArray.empty).toList := by simpa [sameS] using hs
  rw [ByteArray.toList_eq, ByteArray.toList_eq] at h1
  have h2 := congrArg List.length h1
  rw [ba_len, ba_len] at h2
  omega
theorem pieceL_len {t : Tok} (h : tokE t.kind t.text t.int = 0) : (pieceL t).length ≤ 23 := by
  unfold tokE at h
  unfold pieceL
  by_cases k1 : t.kind = 1
  · rw [if_pos k1] at h
    rw [if_neg (by omega), if_neg (by omega)]
    by_cases hi : t.int = 0
    · rw [if_pos hi] at h
      have := nameE_len h
      rw [List.length_append, ba_len]; simp; omega
    · rw [if_neg hi] at h; omega
  · rw [if_neg k1] at h
    by_cases k2 : t.kind = 2
    · rw [if_pos k2] at h
      rw [if_pos k2]
      have hr : t.int ≤ 1125899906842624 := by
        by_cases hz : t.text.toList = []
        · rw [if_pos hz] at h
          by_cases hr : 0 ≤ t.int ∧ t.int ≤ 1125899906842624
          · exact hr.2
          · rw [if_neg hr] at h; omega
        · rw [if_neg hz] at h; omega
      have := decV_16 t.int.toNat (by omega)
      rw [List.length_append, ba_len]; simp; omega
    · rw [if_neg k2] at h
      rw [if_neg k2]
      by_cases k3 : t.kind = 3
      · rw [if_pos k3] at h
        rw [if_pos k3]
        have hr : t.text.size ≤ 20 := by
          by_cases hz : t.int = 0 ∧ quoB t.text = false
          · rw [if_pos hz] at h
            by_cases hr : t.text.size ≤ 20
            · exact hr
            · rw [if_neg hr] at h; omega
          · rw [if_neg hz] at h; omega
        rw [List.length_append, List.length_append, List.length_append, ba_len]; simp; omega
      · rw [if_neg k3] at h
        rw [if_neg k3]
        by_cases k4 : t.kind = 4
        · rw [if_pos k4] at h
          have hr : t.text.size ≤ 2 := by
            by_cases hz : t.int = 0 ∧ hasW marksL t.text = true
            · exact hasW_len hz.2
            · rw [if_neg hz] at h; omega
          rw [List.length_append, ba_len]; simp; omega
        · rw [if_neg k4] at h; omega
end Go.Proofs.YtenchgdlkbdpdaaDoor
