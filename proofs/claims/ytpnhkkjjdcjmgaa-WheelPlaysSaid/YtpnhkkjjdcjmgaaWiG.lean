/-
  Deeds in memory; what is told, what is due; wheel.Play.
-/
import Derived.Test.YtpnhkkjjdcjmgaaWiF
namespace Go.Proofs.Ytpnhkkjjdcjmgaa
open Go.RowKit
set_option linter.unusedVariables false
set_option linter.unusedSimpArgs false

abbrev dedC (d : Ded) : List Value := [.int .i64 d.kind, .int .i64 d.id, .int .i64 d.at_]
def dedF (F : Nat → Prop) (w : World) (row : List Value) (d : Ded) : Prop := row = dedC d ∧ wfI d.id
theorem dedF_firm : Firm dedF := fun _ _ _ _ _ _ _ h => h
/-- A slice of numbers in one cell. -/
def intsF (F : Nat → Prop) (w : World) (row : List Value) (xs : List Int) : Prop := ∃ ao n cap, row = [.slice ao n cap] ∧ SlF F w 1 numF ao n cap xs
theorem intsF_firm : Firm intsF := fun F G w w' row xs hs ⟨ao, n, cap, e, h⟩ => ⟨ao, n, cap, e, h.same (plainF_firm _) hs⟩
/-- What the first k deeds are told; what is due by them. -/
def codesL (now : Nat) (l : List Ded) (k : Nat) : List Int := (List.range k).map fun j => match l[j]? with | some d => codeW (atW now l j) d | none => 0
def duesL (now : Nat) (l : List Ded) (k : Nat) : List (List Int) := (List.range k).map fun j => match l[j]? with | some d => dueW (atW now l j) d | none => []
theorem codesL_next {now : Nat} {l : List Ded} {k : Nat} (h : k < l.length) : codesL now l (k + 1) = codesL now l k ++ [codeW (atW now l k) l[k]] := by
  unfold codesL
  rw [List.range_succ, List.map_append, List.map_singleton, List.getElem?_eq_getElem h]
theorem duesL_next {now : Nat} {l : List Ded} {k : Nat} (h : k < l.length) : duesL now l (k + 1) = duesL now l k ++ [dueW (atW now l k) l[k]] := by
  unfold duesL
  rw [List.range_succ, List.map_append, List.map_singleton, List.getElem?_eq_getElem h]
theorem codesL_len (now : Nat) (l : List Ded) (k : Nat) : (codesL now l k).length = k := by simp [codesL]
theorem duesL_len (now : Nat) (l : List Ded) (k : Nat) : (duesL now l k).length = k := by simp [duesL]
theorem atW_next_le {now : Nat} {l : List Ded} : ∀ k, k ≤ l.length → (atW now l k).next ≤ k
  | 0, _ => Nat.le_refl _
  | k + 1, h => by
    have ih := atW_next_le (now := now) (l := l) k (by omega)
    rw [atW_next (by omega)]
    unfold stepW
    split
    · unfold setW; split
      · show _ + 1 ≤ _; omega
      · omega
    · split
      · show (atW now l k).next ≤ _; omega
      · split
        · unfold passW; split
          · show (atW now l k).next ≤ _; omega
          · omega
        · omega
/-- What Play gives: what each deed is told, what is due by it, an error. -/
def playR (now : Int) (l : List Ded) : List Int × List (List Int) × Int := if now < 0 ∨ 1099511627776 < now then ([], [], 2) else if 2000 < l.length then ([], [], 1) else (codesL now.toNat l l.length, duesL now.toNat l l.length, 0)
def PlayP (r : List Int × List (List Int) × Int) (w : World) (e : Ending) (w' : World) : Prop :=
  ∃ a1 n1 c1 a2 n2 c2, e = .returned (.tuple #[.slice a1 n1 c1, .slice a2 n2 c2, .int .i64 r.2.2]) ∧ Below w.heap.size w w' ∧ SlF (from_ w.heap.size) w' 1 numF a1 n1 c1 r.1 ∧ SlF (from_ w.heap.size) w' 1 intsF a2 n2 c2 r.2.1
theorem build_clk (n : Int) (w : World) : (Instr.build 38 #[(0, .int .i64 n)]).run Try.prog w = .ok (.agg (.int .i64 n :: .int .i64 0 :: slotC (fun _ => .slice none 0 0) (.map none)).toArray) w := by kernel_rfl
end Go.Proofs.Ytpnhkkjjdcjmgaa
