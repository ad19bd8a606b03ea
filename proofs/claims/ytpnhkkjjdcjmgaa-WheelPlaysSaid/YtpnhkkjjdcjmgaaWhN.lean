/-
  Maps by numbers, as parts of a function's own memory: what they have, and how many.
-/
import Derived.Test.YtpnhkkjjdcjmgaaMmM
import Derived.Test.YtpnhkkjjdcjmgaaMmW
import Derived.Maps.OwnSet
namespace Go.Proofs.Ytpnhkkjjdcjmgaa
open Go.RowKit Go.ChangeMaps
set_option linter.unusedVariables false
set_option linter.unusedSimpArgs false

abbrev MapI64 := Int → Option Value
def wfI (i : Int) : Prop := (Lit.int .i64 i).wf = true
def putJ (f : MapI64) (i : Int) (v : Value) : MapI64 := fun x => if x = i then some v else f x
def delJ (f : MapI64) (i : Int) : MapI64 := fun x => if x = i then none else f x
/-- Block z is a map of n entries, which has f. -/
def MapJ (P : Program) (k : TypeId) (w : World) (z n : Nat) (f : MapI64) : Prop :=
  ∃ D : DataW Value, w.ownsMap P k RV z n D ∧ Go.Maps.Tidy D ∧ Go.Maps.size D = n ∧ ∀ i : Int, wfI i → ∀ zd, D.atKey (.int .i64 i) zd = (match f i with | none => zd | some v => .held v)
section
variable {P : Program} {k t e : TypeId} {w w' : World} {z n : Nat} {f : MapI64}
theorem MapJ.lt (h : MapJ P k w z n f) : z < w.heap.size := by
  obtain ⟨D, h1, _⟩ := h
  exact h1.lt
theorem MapJ.same (h : MapJ P k w z n f) (hb : w'.heap[z]? = w.heap[z]?) : MapJ P k w' z n f := by
  obtain ⟨D, ⟨es, c, h1, h2, h3, h4⟩, h5⟩ := h
  exact ⟨D, ⟨es, c, hb.trans h1, h2, h3, h4⟩, h5⟩
theorem MapJ.made : MapJ P k (w.alloc (.map #[] 0)) w.heap.size 0 (fun _ => none) :=
  ⟨.map [], World.ownsMap_made w P k RV, Go.Maps.tidy_empty, rfl, fun i _ zd => rfl⟩
theorem MapJ.has (h : MapJ P k w z n f) {D : DataW Value} (hat : ∀ i : Int, wfI i → ∀ zd, D.atKey (.int .i64 i) zd = (match f i with | none => zd | some v => .held v)) {i : Int} (hi : wfI i) : Go.Maps.has D (.int .i64 i) = (f i).isSome := by
  cases hq : f i with
  | none => exact Go.Maps.has_false_of_atKey fun zd => by rw [hat i hi zd, hq]
  | some v => exact Go.Maps.has_true_of_atKey (y := .held v) fun zd => by rw [hat i hi zd, hq]
theorem tight_map {D : DataW Value} {m : Nat} (h : w.ownsMap P k RV z m D) : w.ownsMap P k RV z (Go.Maps.size D) D := by
  obtain ⟨es, c, h1, h2, h3, rfl⟩ := h
  refine ⟨es, c, h1, h2, ?_, rfl⟩
  simp [Go.Maps.size, length_sorted]
theorem MapJ.look (h : MapJ P k w z n f) (hk : P.underlying k = some (.int .i64)) (ht : P.underlying t = some (.map k e)) (c : Bool) {v0 : Value} (hz : (zeroValue e).run P w = .ok v0 w) (i : Int) (hi : wfI i) :
    (Instr.lookup t (.map (some z)) (.int .i64 i) c).run P w = .ok (if c then .tuple #[(f i).getD v0, .bool (f i).isSome] else (f i).getD v0) w := by
  obtain ⟨D, ⟨es, cl, h1, h2, h3, rfl⟩, h5, h6, h7⟩ := h
  have hat := h7 i hi
  rcases Go.Maps.fit_look c (Go.Maps.int_keyed hk) ht hz h1 h2 (Go.Maps.keyOf_int_mk hk hi) with ⟨hrun, -, h7⟩ | ⟨e0, y, -, -, hrun, hy, h7, -⟩
  · have hf : f i = none := by
      have b := (hat (.map [])).symm.trans (h7 (.map []))
      cases hq : f i with
      | none => rfl
      | some v => rw [hq] at b; cases b
    rw [hrun, hf]
    cases c <;> rfl
  · have hy' : y = (.held e0.val, []) := by
      have := hy
      unfold RV at this
      injection this with this
      exact this.symm
    have hf : f i = some e0.val := by
      have b := (hat (.map [])).symm.trans (h7 (.map []))
      rw [hy'] at b
      cases hq : f i with
      | none => rw [hq] at b; cases b
      | some v => rw [hq] at b; injection b with b; rw [b]
    rw [hrun, hf]
    cases c <;> rfl
theorem MapJ.len (h : MapJ P k w z n f) (ht : P.underlying t = some (.map k e)) (ty : TypeId) : (Builtin.len_ #[t] ty #[.map (some z)]).run P w = .ok (.int .i64 n) w := by
  obtain ⟨D, h1, _, h3, _⟩ := h
  rw [← h3]
  exact h1.len ht ty
theorem MapJ.put (h : MapJ P k w z n f) (hk : P.underlying k = some (.int .i64)) (ht : P.underlying t = some (.map k e)) (hn : n < maxLen) (i : Int) (hi : wfI i) (v : Value) :
    ∃ w', (Instr.mapUpdate t (.map (some z)) (.int .i64 i) v).run P w = .ok () w' ∧ MapJ P k w' z (if (f i).isSome = true then n else n + 1) (putJ f i v) ∧ w.grownBy w' (some z) := by
  have hh := h
  obtain ⟨D, h1, h2, h3, h4⟩ := h
  have hhas := hh.has h4 hi
  obtain ⟨w', hrun, ho, hg⟩ := h1.update (Go.Maps.int_keyed hk) ht hn (Go.Maps.keyOf_int_mk hk hi) (val := v) (d := .held v) (ps := []) rfl
  have hsz := Go.Maps.size_put (k := .int .i64 i) h2 (.held v)
  rw [hhas, h3] at hsz
  refine ⟨w', hrun, ⟨_, by rw [← hsz]; exact tight_map ho, h2.put (by trivial) _, hsz, fun x hx zd => ?_⟩, hg⟩
  unfold putJ
  by_cases he : x = i
  · subst he
    rw [if_pos rfl]
    exact Go.Maps.atKey_put_same h2.isMap (by trivial) _ _
  · rw [if_neg he]
    rw [Go.Maps.atKey_put_other (fun e => he (by injection e))]
    exact h4 x hx zd
theorem MapJ.del (h : MapJ P k w z n f) (hk : P.underlying k = some (.int .i64)) (ht : P.underlying t = some (.map k e)) (i : Int) (hi : wfI i) (ty : TypeId) :
    ∃ w', (Builtin.delete_ #[t, k] ty #[.map (some z), .int .i64 i]).run P w = .ok (.tuple #[]) w' ∧ MapJ P k w' z (if (f i).isSome = true then n - 1 else n) (delJ f i) ∧ w.mapTurned w' z := by
  have hh := h
  obtain ⟨D, h1, h2, h3, h4⟩ := h
  have hhas := hh.has h4 hi
  obtain ⟨w', hrun, ho, hg⟩ := h1.drop (Go.Maps.int_keyed hk) ht (Go.Maps.keyOf_int_mk hk hi) ty
  have hsz := Go.Maps.size_del (k := .int .i64 i) h2
  rw [hhas, h3] at hsz
  have hsz2 : Go.Maps.size (D.del (.int .i64 i)) = if (f i).isSome = true then n - 1 else n := by
    by_cases e : (f i).isSome = true
    · rw [if_pos e] at hsz ⊢; omega
    · rw [if_neg e] at hsz ⊢; omega
  refine ⟨w', hrun, ⟨_, by rw [← hsz2]; exact tight_map ho, h2.del _, hsz2, fun x hx zd => ?_⟩, hg⟩
  unfold delJ
  by_cases he : x = i
  · subst he
    rw [if_pos rfl]
    exact Go.Maps.atKey_del_same _
  · rw [if_neg he]
    rw [Go.Maps.atKey_del_other (fun e => he (by injection e))]
    exact h4 x hx zd
end
end Go.Proofs.Ytpnhkkjjdcjmgaa
