/-
  Steps of a walk over own memory, in terms alone. Printed by mklib.py out of the texts of src9.
-/
import Derived.Test.YtpnhkkjjdcjmgaaMmA
import Derived.Deep.RegionLaw
namespace Go.Proofs.Ytpnhkkjjdcjmgaa
open Go.RowKit
set_option linter.unusedVariables false
set_option linter.unusedSimpArgs false


theorem getd_tmp {l : List Value} {i : Nat} {v : Value} (h : l[i]? = some v) : l.toArray.getD i undef = v := by simp [h]
theorem eval_tmp {l : List Value} {ds : List Deferred} {i : Nat} {v : Value} (h : l[i]? = some v) : Act.eval ⟨l.toArray, ds⟩ (.tmp i) = v := by simp [Act.eval, h]
theorem wanted_none {o : Oper} {y : Nat → Option Bool} (hg : o.guard = none) : Region.wanted o y = true := by simp [Region.wanted, hg]
theorem get_l {l : List Oper} {i : Nat} {o : Oper} (h : l[i]? = some o) : l.toArray[i]? = some o := by simpa using h
/-- An operation's walk, shut: nothing reckons it by chance. -/
@[irreducible] def OWP (P : Program) (o : Oper) (a : Act) (w : World) (K : Act → World → Prop) (Q : Exit → Act → World → Prop) : Prop := o.wp P a w K Q
theorem owp_eq {P : Program} {o : Oper} {a : Act} {w : World} {K : Act → World → Prop} {Q : Exit → Act → World → Prop} : OWP P o a w K Q = o.wp P a w K Q := by unfold OWP; rfl
theorem owp_of {P : Program} {o : Oper} {a : Act} {w : World} {K : Act → World → Prop} {Q : Exit → Act → World → Prop} (h : o.wp P a w K Q) : OWP P o a w K Q := owp_eq ▸ h
theorem owp_out {P : Program} {o : Oper} {a : Act} {w : World} {K : Act → World → Prop} {Q : Exit → Act → World → Prop} (h : OWP P o a w K Q) : o.wp P a w K Q := owp_eq ▸ h
theorem o_dst {P : Program} {a : Act} {w : World} {K : Act → World → Prop} {Q : Exit → Act → World → Prop} (d : Option Tmp) {op : Op} {t : TypeId} {pos : String} {after : Array Edge} {g : Option (Nat × Bool)} (h : OWP P ⟨d, op, t, pos, after, g⟩ a w K Q) : OWP P ⟨d, op, t, pos, after, g⟩ a w K Q := h
theorem ready_cons {P : Program} {ops : Array Oper} {md : Region.Mode} {Q : Exit → Act → World → Prop} {fuel : Nat} {listed : Array Bool} {a : Act} {w : World} {i : Nat} {o : Oper} {rs : List Nat} (ho : ops[i]? = some o) (hg : o.guard = none)
    (h : ∀ K' : Act → World → Prop, (∀ a w, wpAny P md ops Q fuel (listed.setIfInBounds i true) a w → K' a w) → OWP P o a w K' Q)
    (hs : AllReady P md ops Q fuel listed a w rs) : AllReady P md ops Q fuel listed a w (i :: rs) :=
  AllReady.cons ho (fun K' hK => by rw [if_pos (wanted_none hg)]; exact owp_out (h K' hK)) hs
theorem o_list {P : Program} {ops : Array Oper} {o : Oper} {a : Act} {w : World} {rest : List Oper} {Q : Exit → Act → World → Prop} (hg : o.guard = none) (h : ∀ K : Act → World → Prop, (∀ a w, wpList P ops Q rest a w → K a w) → OWP P o a w K Q) : wpList P ops Q (o :: rest) a w :=
  wpList_plain hg fun K hK => owp_out (h K hK)
theorem want_d {P : Program} {ops : Array Oper} {o : Oper} {a : Act} {w : World} {K : Act → World → Prop} {Q : Exit → Act → World → Prop} {E : Prop} (d : Option Tmp) (hd : o.dst = d) (hg : o.guard = none) (h : o.wp P a w K Q) :
    if Region.wanted o (yielded ops a.tmps) = true then o.wp P a w K Q else E := by
  rw [if_pos (wanted_none hg)]; exact h

/-- Where a block stands among what is owned; types, by their sizes. -/
class Has (L : List Ent) (z : Nat) (i : outParam Nat) (cs : outParam (List Value)) (t : outParam TypeId) : Prop where
  at_ : L[i]? = some (own z cs t)
instance {e : Ent} {L : List Ent} {z i : Nat} {cs : List Value} {t : TypeId} [h : Has L z i cs t] : Has (e :: L) z (i + 1) cs t := ⟨h.at_⟩
instance {L : List Ent} {z : Nat} {cs : List Value} {t : TypeId} : Has (own z cs t :: L) z 0 cs t := ⟨rfl⟩
/-- What stands at a place of a list. -/
class Nth (l : List Value) (j : Nat) (v : outParam Value) : Prop where
  nth : l[j]? = some v
instance {a0 : Value} {l : List Value} : Nth (a0 :: l) 0 a0 := ⟨rfl⟩
instance {a0 a1 : Value} {l : List Value} : Nth (a0 :: a1 :: l) 1 a1 := ⟨rfl⟩
instance {a0 a1 a2 : Value} {l : List Value} : Nth (a0 :: a1 :: a2 :: l) 2 a2 := ⟨rfl⟩
instance {a0 a1 a2 a3 : Value} {l : List Value} : Nth (a0 :: a1 :: a2 :: a3 :: l) 3 a3 := ⟨rfl⟩
instance {a0 a1 a2 a3 a4 : Value} {l : List Value} : Nth (a0 :: a1 :: a2 :: a3 :: a4 :: l) 4 a4 := ⟨rfl⟩
instance {a0 a1 a2 a3 a4 a5 : Value} {l : List Value} : Nth (a0 :: a1 :: a2 :: a3 :: a4 :: a5 :: l) 5 a5 := ⟨rfl⟩
instance {a0 a1 a2 a3 a4 a5 a6 : Value} {l : List Value} : Nth (a0 :: a1 :: a2 :: a3 :: a4 :: a5 :: a6 :: l) 6 a6 := ⟨rfl⟩
instance {a0 a1 a2 a3 a4 a5 a6 a7 : Value} {l : List Value} : Nth (a0 :: a1 :: a2 :: a3 :: a4 :: a5 :: a6 :: a7 :: l) 7 a7 := ⟨rfl⟩
instance {a0 a1 a2 a3 a4 a5 a6 a7 a8 : Value} {l : List Value} : Nth (a0 :: a1 :: a2 :: a3 :: a4 :: a5 :: a6 :: a7 :: a8 :: l) 8 a8 := ⟨rfl⟩
instance {a0 a1 a2 a3 a4 a5 a6 a7 a8 a9 : Value} {l : List Value} : Nth (a0 :: a1 :: a2 :: a3 :: a4 :: a5 :: a6 :: a7 :: a8 :: a9 :: l) 9 a9 := ⟨rfl⟩
instance {a0 a1 a2 a3 a4 a5 a6 a7 a8 a9 a10 : Value} {l : List Value} : Nth (a0 :: a1 :: a2 :: a3 :: a4 :: a5 :: a6 :: a7 :: a8 :: a9 :: a10 :: l) 10 a10 := ⟨rfl⟩
instance {a0 a1 a2 a3 a4 a5 a6 a7 a8 a9 a10 a11 : Value} {l : List Value} : Nth (a0 :: a1 :: a2 :: a3 :: a4 :: a5 :: a6 :: a7 :: a8 :: a9 :: a10 :: a11 :: l) 11 a11 := ⟨rfl⟩
instance {a0 a1 a2 a3 a4 a5 a6 a7 a8 a9 a10 a11 a12 : Value} {l : List Value} : Nth (a0 :: a1 :: a2 :: a3 :: a4 :: a5 :: a6 :: a7 :: a8 :: a9 :: a10 :: a11 :: a12 :: l) 12 a12 := ⟨rfl⟩
instance {a0 a1 a2 a3 a4 a5 a6 a7 a8 a9 a10 a11 a12 a13 : Value} {l : List Value} : Nth (a0 :: a1 :: a2 :: a3 :: a4 :: a5 :: a6 :: a7 :: a8 :: a9 :: a10 :: a11 :: a12 :: a13 :: l) 13 a13 := ⟨rfl⟩
instance {a0 a1 a2 a3 a4 a5 a6 a7 a8 a9 a10 a11 a12 a13 a14 : Value} {l : List Value} : Nth (a0 :: a1 :: a2 :: a3 :: a4 :: a5 :: a6 :: a7 :: a8 :: a9 :: a10 :: a11 :: a12 :: a13 :: a14 :: l) 14 a14 := ⟨rfl⟩
instance {a0 a1 a2 a3 a4 a5 a6 a7 a8 a9 a10 a11 a12 a13 a14 a15 : Value} {l : List Value} : Nth (a0 :: a1 :: a2 :: a3 :: a4 :: a5 :: a6 :: a7 :: a8 :: a9 :: a10 :: a11 :: a12 :: a13 :: a14 :: a15 :: l) 15 a15 := ⟨rfl⟩
instance {a0 a1 a2 a3 a4 a5 a6 a7 a8 a9 a10 a11 a12 a13 a14 a15 a16 : Value} {l : List Value} : Nth (a0 :: a1 :: a2 :: a3 :: a4 :: a5 :: a6 :: a7 :: a8 :: a9 :: a10 :: a11 :: a12 :: a13 :: a14 :: a15 :: a16 :: l) 16 a16 := ⟨rfl⟩
instance {a0 a1 a2 a3 a4 a5 a6 a7 a8 a9 a10 a11 a12 a13 a14 a15 a16 a17 : Value} {l : List Value} : Nth (a0 :: a1 :: a2 :: a3 :: a4 :: a5 :: a6 :: a7 :: a8 :: a9 :: a10 :: a11 :: a12 :: a13 :: a14 :: a15 :: a16 :: a17 :: l) 17 a17 := ⟨rfl⟩
instance {a0 a1 a2 a3 a4 a5 a6 a7 a8 a9 a10 a11 a12 a13 a14 a15 a16 a17 a18 : Value} {l : List Value} : Nth (a0 :: a1 :: a2 :: a3 :: a4 :: a5 :: a6 :: a7 :: a8 :: a9 :: a10 :: a11 :: a12 :: a13 :: a14 :: a15 :: a16 :: a17 :: a18 :: l) 18 a18 := ⟨rfl⟩
instance {a0 a1 a2 a3 a4 a5 a6 a7 a8 a9 a10 a11 a12 a13 a14 a15 a16 a17 a18 a19 : Value} {l : List Value} : Nth (a0 :: a1 :: a2 :: a3 :: a4 :: a5 :: a6 :: a7 :: a8 :: a9 :: a10 :: a11 :: a12 :: a13 :: a14 :: a15 :: a16 :: a17 :: a18 :: a19 :: l) 19 a19 := ⟨rfl⟩
instance {a0 a1 a2 a3 a4 a5 a6 a7 a8 a9 a10 a11 a12 a13 a14 a15 a16 a17 a18 a19 a20 : Value} {l : List Value} : Nth (a0 :: a1 :: a2 :: a3 :: a4 :: a5 :: a6 :: a7 :: a8 :: a9 :: a10 :: a11 :: a12 :: a13 :: a14 :: a15 :: a16 :: a17 :: a18 :: a19 :: a20 :: l) 20 a20 := ⟨rfl⟩
instance {a0 a1 a2 a3 a4 a5 a6 a7 a8 a9 a10 a11 a12 a13 a14 a15 a16 a17 a18 a19 a20 a21 : Value} {l : List Value} : Nth (a0 :: a1 :: a2 :: a3 :: a4 :: a5 :: a6 :: a7 :: a8 :: a9 :: a10 :: a11 :: a12 :: a13 :: a14 :: a15 :: a16 :: a17 :: a18 :: a19 :: a20 :: a21 :: l) 21 a21 := ⟨rfl⟩
instance {a0 a1 a2 a3 a4 a5 a6 a7 a8 a9 a10 a11 a12 a13 a14 a15 a16 a17 a18 a19 a20 a21 a22 : Value} {l : List Value} : Nth (a0 :: a1 :: a2 :: a3 :: a4 :: a5 :: a6 :: a7 :: a8 :: a9 :: a10 :: a11 :: a12 :: a13 :: a14 :: a15 :: a16 :: a17 :: a18 :: a19 :: a20 :: a21 :: a22 :: l) 22 a22 := ⟨rfl⟩
instance {a0 a1 a2 a3 a4 a5 a6 a7 a8 a9 a10 a11 a12 a13 a14 a15 a16 a17 a18 a19 a20 a21 a22 a23 : Value} {l : List Value} : Nth (a0 :: a1 :: a2 :: a3 :: a4 :: a5 :: a6 :: a7 :: a8 :: a9 :: a10 :: a11 :: a12 :: a13 :: a14 :: a15 :: a16 :: a17 :: a18 :: a19 :: a20 :: a21 :: a22 :: a23 :: l) 23 a23 := ⟨rfl⟩
instance {a0 a1 a2 a3 a4 a5 a6 a7 a8 a9 a10 a11 a12 a13 a14 a15 a16 a17 a18 a19 a20 a21 a22 a23 a24 : Value} {l : List Value} : Nth (a0 :: a1 :: a2 :: a3 :: a4 :: a5 :: a6 :: a7 :: a8 :: a9 :: a10 :: a11 :: a12 :: a13 :: a14 :: a15 :: a16 :: a17 :: a18 :: a19 :: a20 :: a21 :: a22 :: a23 :: a24 :: l) 24 a24 := ⟨rfl⟩
instance {a0 a1 a2 a3 a4 a5 a6 a7 a8 a9 a10 a11 a12 a13 a14 a15 a16 a17 a18 a19 a20 a21 a22 a23 a24 a25 : Value} {l : List Value} : Nth (a0 :: a1 :: a2 :: a3 :: a4 :: a5 :: a6 :: a7 :: a8 :: a9 :: a10 :: a11 :: a12 :: a13 :: a14 :: a15 :: a16 :: a17 :: a18 :: a19 :: a20 :: a21 :: a22 :: a23 :: a24 :: a25 :: l) 25 a25 := ⟨rfl⟩
instance {a0 a1 a2 a3 a4 a5 a6 a7 a8 a9 a10 a11 a12 a13 a14 a15 a16 a17 a18 a19 a20 a21 a22 a23 a24 a25 a26 : Value} {l : List Value} : Nth (a0 :: a1 :: a2 :: a3 :: a4 :: a5 :: a6 :: a7 :: a8 :: a9 :: a10 :: a11 :: a12 :: a13 :: a14 :: a15 :: a16 :: a17 :: a18 :: a19 :: a20 :: a21 :: a22 :: a23 :: a24 :: a25 :: a26 :: l) 26 a26 := ⟨rfl⟩
instance {a0 a1 a2 a3 a4 a5 a6 a7 a8 a9 a10 a11 a12 a13 a14 a15 a16 a17 a18 a19 a20 a21 a22 a23 a24 a25 a26 a27 : Value} {l : List Value} : Nth (a0 :: a1 :: a2 :: a3 :: a4 :: a5 :: a6 :: a7 :: a8 :: a9 :: a10 :: a11 :: a12 :: a13 :: a14 :: a15 :: a16 :: a17 :: a18 :: a19 :: a20 :: a21 :: a22 :: a23 :: a24 :: a25 :: a26 :: a27 :: l) 27 a27 := ⟨rfl⟩
instance {a0 a1 a2 a3 a4 a5 a6 a7 a8 a9 a10 a11 a12 a13 a14 a15 a16 a17 a18 a19 a20 a21 a22 a23 a24 a25 a26 a27 a28 : Value} {l : List Value} : Nth (a0 :: a1 :: a2 :: a3 :: a4 :: a5 :: a6 :: a7 :: a8 :: a9 :: a10 :: a11 :: a12 :: a13 :: a14 :: a15 :: a16 :: a17 :: a18 :: a19 :: a20 :: a21 :: a22 :: a23 :: a24 :: a25 :: a26 :: a27 :: a28 :: l) 28 a28 := ⟨rfl⟩
instance {a0 a1 a2 a3 a4 a5 a6 a7 a8 a9 a10 a11 a12 a13 a14 a15 a16 a17 a18 a19 a20 a21 a22 a23 a24 a25 a26 a27 a28 a29 : Value} {l : List Value} : Nth (a0 :: a1 :: a2 :: a3 :: a4 :: a5 :: a6 :: a7 :: a8 :: a9 :: a10 :: a11 :: a12 :: a13 :: a14 :: a15 :: a16 :: a17 :: a18 :: a19 :: a20 :: a21 :: a22 :: a23 :: a24 :: a25 :: a26 :: a27 :: a28 :: a29 :: l) 29 a29 := ⟨rfl⟩
instance {a0 a1 a2 a3 a4 a5 a6 a7 a8 a9 a10 a11 a12 a13 a14 a15 a16 a17 a18 a19 a20 a21 a22 a23 a24 a25 a26 a27 a28 a29 a30 : Value} {l : List Value} : Nth (a0 :: a1 :: a2 :: a3 :: a4 :: a5 :: a6 :: a7 :: a8 :: a9 :: a10 :: a11 :: a12 :: a13 :: a14 :: a15 :: a16 :: a17 :: a18 :: a19 :: a20 :: a21 :: a22 :: a23 :: a24 :: a25 :: a26 :: a27 :: a28 :: a29 :: a30 :: l) 30 a30 := ⟨rfl⟩
instance {a0 a1 a2 a3 a4 a5 a6 a7 a8 a9 a10 a11 a12 a13 a14 a15 a16 a17 a18 a19 a20 a21 a22 a23 a24 a25 a26 a27 a28 a29 a30 a31 : Value} {l : List Value} : Nth (a0 :: a1 :: a2 :: a3 :: a4 :: a5 :: a6 :: a7 :: a8 :: a9 :: a10 :: a11 :: a12 :: a13 :: a14 :: a15 :: a16 :: a17 :: a18 :: a19 :: a20 :: a21 :: a22 :: a23 :: a24 :: a25 :: a26 :: a27 :: a28 :: a29 :: a30 :: a31 :: l) 31 a31 := ⟨rfl⟩
instance (priority := 100) {a0 a1 a2 a3 a4 a5 a6 a7 a8 a9 a10 a11 a12 a13 a14 a15 a16 a17 a18 a19 a20 a21 a22 a23 a24 a25 a26 a27 a28 a29 a30 a31 v : Value} {i : Nat} {l : List Value} [h : Nth l i v] : Nth (a0 :: a1 :: a2 :: a3 :: a4 :: a5 :: a6 :: a7 :: a8 :: a9 :: a10 :: a11 :: a12 :: a13 :: a14 :: a15 :: a16 :: a17 :: a18 :: a19 :: a20 :: a21 :: a22 :: a23 :: a24 :: a25 :: a26 :: a27 :: a28 :: a29 :: a30 :: a31 :: l) (i + 32) v := ⟨h.nth⟩
/-- A list with one place set. -/
class PutI (l : List Value) (d : Option Tmp) (v : Value) (l' : outParam (List Value)) : Prop where
  put : ∀ ds, Act.put ⟨l.toArray, ds⟩ d v = ⟨l'.toArray, ds⟩
instance {l : List Value} {v : Value} : PutI l none v l := ⟨fun _ => rfl⟩
theorem put_set (l : List Value) (d : Nat) (v : Value) (ds : List Deferred) : Act.put ⟨l.toArray, ds⟩ (some d) v = ⟨(l.set d v).toArray, ds⟩ := by simp [Act.put]
instance {a0 v : Value} {l : List Value} : PutI (a0 :: l) (some 0) v (v :: l) := ⟨fun ds => put_set _ _ _ ds⟩
instance {a0 a1 v : Value} {l : List Value} : PutI (a0 :: a1 :: l) (some 1) v (a0 :: v :: l) := ⟨fun ds => put_set _ _ _ ds⟩
instance {a0 a1 a2 v : Value} {l : List Value} : PutI (a0 :: a1 :: a2 :: l) (some 2) v (a0 :: a1 :: v :: l) := ⟨fun ds => put_set _ _ _ ds⟩
instance {a0 a1 a2 a3 v : Value} {l : List Value} : PutI (a0 :: a1 :: a2 :: a3 :: l) (some 3) v (a0 :: a1 :: a2 :: v :: l) := ⟨fun ds => put_set _ _ _ ds⟩
instance {a0 a1 a2 a3 a4 v : Value} {l : List Value} : PutI (a0 :: a1 :: a2 :: a3 :: a4 :: l) (some 4) v (a0 :: a1 :: a2 :: a3 :: v :: l) := ⟨fun ds => put_set _ _ _ ds⟩
instance {a0 a1 a2 a3 a4 a5 v : Value} {l : List Value} : PutI (a0 :: a1 :: a2 :: a3 :: a4 :: a5 :: l) (some 5) v (a0 :: a1 :: a2 :: a3 :: a4 :: v :: l) := ⟨fun ds => put_set _ _ _ ds⟩
instance {a0 a1 a2 a3 a4 a5 a6 v : Value} {l : List Value} : PutI (a0 :: a1 :: a2 :: a3 :: a4 :: a5 :: a6 :: l) (some 6) v (a0 :: a1 :: a2 :: a3 :: a4 :: a5 :: v :: l) := ⟨fun ds => put_set _ _ _ ds⟩
instance {a0 a1 a2 a3 a4 a5 a6 a7 v : Value} {l : List Value} : PutI (a0 :: a1 :: a2 :: a3 :: a4 :: a5 :: a6 :: a7 :: l) (some 7) v (a0 :: a1 :: a2 :: a3 :: a4 :: a5 :: a6 :: v :: l) := ⟨fun ds => put_set _ _ _ ds⟩
instance {a0 a1 a2 a3 a4 a5 a6 a7 a8 v : Value} {l : List Value} : PutI (a0 :: a1 :: a2 :: a3 :: a4 :: a5 :: a6 :: a7 :: a8 :: l) (some 8) v (a0 :: a1 :: a2 :: a3 :: a4 :: a5 :: a6 :: a7 :: v :: l) := ⟨fun ds => put_set _ _ _ ds⟩
instance {a0 a1 a2 a3 a4 a5 a6 a7 a8 a9 v : Value} {l : List Value} : PutI (a0 :: a1 :: a2 :: a3 :: a4 :: a5 :: a6 :: a7 :: a8 :: a9 :: l) (some 9) v (a0 :: a1 :: a2 :: a3 :: a4 :: a5 :: a6 :: a7 :: a8 :: v :: l) := ⟨fun ds => put_set _ _ _ ds⟩
instance {a0 a1 a2 a3 a4 a5 a6 a7 a8 a9 a10 v : Value} {l : List Value} : PutI (a0 :: a1 :: a2 :: a3 :: a4 :: a5 :: a6 :: a7 :: a8 :: a9 :: a10 :: l) (some 10) v (a0 :: a1 :: a2 :: a3 :: a4 :: a5 :: a6 :: a7 :: a8 :: a9 :: v :: l) := ⟨fun ds => put_set _ _ _ ds⟩
instance {a0 a1 a2 a3 a4 a5 a6 a7 a8 a9 a10 a11 v : Value} {l : List Value} : PutI (a0 :: a1 :: a2 :: a3 :: a4 :: a5 :: a6 :: a7 :: a8 :: a9 :: a10 :: a11 :: l) (some 11) v (a0 :: a1 :: a2 :: a3 :: a4 :: a5 :: a6 :: a7 :: a8 :: a9 :: a10 :: v :: l) := ⟨fun ds => put_set _ _ _ ds⟩
instance {a0 a1 a2 a3 a4 a5 a6 a7 a8 a9 a10 a11 a12 v : Value} {l : List Value} : PutI (a0 :: a1 :: a2 :: a3 :: a4 :: a5 :: a6 :: a7 :: a8 :: a9 :: a10 :: a11 :: a12 :: l) (some 12) v (a0 :: a1 :: a2 :: a3 :: a4 :: a5 :: a6 :: a7 :: a8 :: a9 :: a10 :: a11 :: v :: l) := ⟨fun ds => put_set _ _ _ ds⟩
instance {a0 a1 a2 a3 a4 a5 a6 a7 a8 a9 a10 a11 a12 a13 v : Value} {l : List Value} : PutI (a0 :: a1 :: a2 :: a3 :: a4 :: a5 :: a6 :: a7 :: a8 :: a9 :: a10 :: a11 :: a12 :: a13 :: l) (some 13) v (a0 :: a1 :: a2 :: a3 :: a4 :: a5 :: a6 :: a7 :: a8 :: a9 :: a10 :: a11 :: a12 :: v :: l) := ⟨fun ds => put_set _ _ _ ds⟩
instance {a0 a1 a2 a3 a4 a5 a6 a7 a8 a9 a10 a11 a12 a13 a14 v : Value} {l : List Value} : PutI (a0 :: a1 :: a2 :: a3 :: a4 :: a5 :: a6 :: a7 :: a8 :: a9 :: a10 :: a11 :: a12 :: a13 :: a14 :: l) (some 14) v (a0 :: a1 :: a2 :: a3 :: a4 :: a5 :: a6 :: a7 :: a8 :: a9 :: a10 :: a11 :: a12 :: a13 :: v :: l) := ⟨fun ds => put_set _ _ _ ds⟩
instance {a0 a1 a2 a3 a4 a5 a6 a7 a8 a9 a10 a11 a12 a13 a14 a15 v : Value} {l : List Value} : PutI (a0 :: a1 :: a2 :: a3 :: a4 :: a5 :: a6 :: a7 :: a8 :: a9 :: a10 :: a11 :: a12 :: a13 :: a14 :: a15 :: l) (some 15) v (a0 :: a1 :: a2 :: a3 :: a4 :: a5 :: a6 :: a7 :: a8 :: a9 :: a10 :: a11 :: a12 :: a13 :: a14 :: v :: l) := ⟨fun ds => put_set _ _ _ ds⟩
instance {a0 a1 a2 a3 a4 a5 a6 a7 a8 a9 a10 a11 a12 a13 a14 a15 a16 v : Value} {l : List Value} : PutI (a0 :: a1 :: a2 :: a3 :: a4 :: a5 :: a6 :: a7 :: a8 :: a9 :: a10 :: a11 :: a12 :: a13 :: a14 :: a15 :: a16 :: l) (some 16) v (a0 :: a1 :: a2 :: a3 :: a4 :: a5 :: a6 :: a7 :: a8 :: a9 :: a10 :: a11 :: a12 :: a13 :: a14 :: a15 :: v :: l) := ⟨fun ds => put_set _ _ _ ds⟩
instance {a0 a1 a2 a3 a4 a5 a6 a7 a8 a9 a10 a11 a12 a13 a14 a15 a16 a17 v : Value} {l : List Value} : PutI (a0 :: a1 :: a2 :: a3 :: a4 :: a5 :: a6 :: a7 :: a8 :: a9 :: a10 :: a11 :: a12 :: a13 :: a14 :: a15 :: a16 :: a17 :: l) (some 17) v (a0 :: a1 :: a2 :: a3 :: a4 :: a5 :: a6 :: a7 :: a8 :: a9 :: a10 :: a11 :: a12 :: a13 :: a14 :: a15 :: a16 :: v :: l) := ⟨fun ds => put_set _ _ _ ds⟩
instance {a0 a1 a2 a3 a4 a5 a6 a7 a8 a9 a10 a11 a12 a13 a14 a15 a16 a17 a18 v : Value} {l : List Value} : PutI (a0 :: a1 :: a2 :: a3 :: a4 :: a5 :: a6 :: a7 :: a8 :: a9 :: a10 :: a11 :: a12 :: a13 :: a14 :: a15 :: a16 :: a17 :: a18 :: l) (some 18) v (a0 :: a1 :: a2 :: a3 :: a4 :: a5 :: a6 :: a7 :: a8 :: a9 :: a10 :: a11 :: a12 :: a13 :: a14 :: a15 :: a16 :: a17 :: v :: l) := ⟨fun ds => put_set _ _ _ ds⟩
instance {a0 a1 a2 a3 a4 a5 a6 a7 a8 a9 a10 a11 a12 a13 a14 a15 a16 a17 a18 a19 v : Value} {l : List Value} : PutI (a0 :: a1 :: a2 :: a3 :: a4 :: a5 :: a6 :: a7 :: a8 :: a9 :: a10 :: a11 :: a12 :: a13 :: a14 :: a15 :: a16 :: a17 :: a18 :: a19 :: l) (some 19) v (a0 :: a1 :: a2 :: a3 :: a4 :: a5 :: a6 :: a7 :: a8 :: a9 :: a10 :: a11 :: a12 :: a13 :: a14 :: a15 :: a16 :: a17 :: a18 :: v :: l) := ⟨fun ds => put_set _ _ _ ds⟩
instance {a0 a1 a2 a3 a4 a5 a6 a7 a8 a9 a10 a11 a12 a13 a14 a15 a16 a17 a18 a19 a20 v : Value} {l : List Value} : PutI (a0 :: a1 :: a2 :: a3 :: a4 :: a5 :: a6 :: a7 :: a8 :: a9 :: a10 :: a11 :: a12 :: a13 :: a14 :: a15 :: a16 :: a17 :: a18 :: a19 :: a20 :: l) (some 20) v (a0 :: a1 :: a2 :: a3 :: a4 :: a5 :: a6 :: a7 :: a8 :: a9 :: a10 :: a11 :: a12 :: a13 :: a14 :: a15 :: a16 :: a17 :: a18 :: a19 :: v :: l) := ⟨fun ds => put_set _ _ _ ds⟩
instance {a0 a1 a2 a3 a4 a5 a6 a7 a8 a9 a10 a11 a12 a13 a14 a15 a16 a17 a18 a19 a20 a21 v : Value} {l : List Value} : PutI (a0 :: a1 :: a2 :: a3 :: a4 :: a5 :: a6 :: a7 :: a8 :: a9 :: a10 :: a11 :: a12 :: a13 :: a14 :: a15 :: a16 :: a17 :: a18 :: a19 :: a20 :: a21 :: l) (some 21) v (a0 :: a1 :: a2 :: a3 :: a4 :: a5 :: a6 :: a7 :: a8 :: a9 :: a10 :: a11 :: a12 :: a13 :: a14 :: a15 :: a16 :: a17 :: a18 :: a19 :: a20 :: v :: l) := ⟨fun ds => put_set _ _ _ ds⟩
instance {a0 a1 a2 a3 a4 a5 a6 a7 a8 a9 a10 a11 a12 a13 a14 a15 a16 a17 a18 a19 a20 a21 a22 v : Value} {l : List Value} : PutI (a0 :: a1 :: a2 :: a3 :: a4 :: a5 :: a6 :: a7 :: a8 :: a9 :: a10 :: a11 :: a12 :: a13 :: a14 :: a15 :: a16 :: a17 :: a18 :: a19 :: a20 :: a21 :: a22 :: l) (some 22) v (a0 :: a1 :: a2 :: a3 :: a4 :: a5 :: a6 :: a7 :: a8 :: a9 :: a10 :: a11 :: a12 :: a13 :: a14 :: a15 :: a16 :: a17 :: a18 :: a19 :: a20 :: a21 :: v :: l) := ⟨fun ds => put_set _ _ _ ds⟩
instance {a0 a1 a2 a3 a4 a5 a6 a7 a8 a9 a10 a11 a12 a13 a14 a15 a16 a17 a18 a19 a20 a21 a22 a23 v : Value} {l : List Value} : PutI (a0 :: a1 :: a2 :: a3 :: a4 :: a5 :: a6 :: a7 :: a8 :: a9 :: a10 :: a11 :: a12 :: a13 :: a14 :: a15 :: a16 :: a17 :: a18 :: a19 :: a20 :: a21 :: a22 :: a23 :: l) (some 23) v (a0 :: a1 :: a2 :: a3 :: a4 :: a5 :: a6 :: a7 :: a8 :: a9 :: a10 :: a11 :: a12 :: a13 :: a14 :: a15 :: a16 :: a17 :: a18 :: a19 :: a20 :: a21 :: a22 :: v :: l) := ⟨fun ds => put_set _ _ _ ds⟩
instance {a0 a1 a2 a3 a4 a5 a6 a7 a8 a9 a10 a11 a12 a13 a14 a15 a16 a17 a18 a19 a20 a21 a22 a23 a24 v : Value} {l : List Value} : PutI (a0 :: a1 :: a2 :: a3 :: a4 :: a5 :: a6 :: a7 :: a8 :: a9 :: a10 :: a11 :: a12 :: a13 :: a14 :: a15 :: a16 :: a17 :: a18 :: a19 :: a20 :: a21 :: a22 :: a23 :: a24 :: l) (some 24) v (a0 :: a1 :: a2 :: a3 :: a4 :: a5 :: a6 :: a7 :: a8 :: a9 :: a10 :: a11 :: a12 :: a13 :: a14 :: a15 :: a16 :: a17 :: a18 :: a19 :: a20 :: a21 :: a22 :: a23 :: v :: l) := ⟨fun ds => put_set _ _ _ ds⟩
instance {a0 a1 a2 a3 a4 a5 a6 a7 a8 a9 a10 a11 a12 a13 a14 a15 a16 a17 a18 a19 a20 a21 a22 a23 a24 a25 v : Value} {l : List Value} : PutI (a0 :: a1 :: a2 :: a3 :: a4 :: a5 :: a6 :: a7 :: a8 :: a9 :: a10 :: a11 :: a12 :: a13 :: a14 :: a15 :: a16 :: a17 :: a18 :: a19 :: a20 :: a21 :: a22 :: a23 :: a24 :: a25 :: l) (some 25) v (a0 :: a1 :: a2 :: a3 :: a4 :: a5 :: a6 :: a7 :: a8 :: a9 :: a10 :: a11 :: a12 :: a13 :: a14 :: a15 :: a16 :: a17 :: a18 :: a19 :: a20 :: a21 :: a22 :: a23 :: a24 :: v :: l) := ⟨fun ds => put_set _ _ _ ds⟩
instance {a0 a1 a2 a3 a4 a5 a6 a7 a8 a9 a10 a11 a12 a13 a14 a15 a16 a17 a18 a19 a20 a21 a22 a23 a24 a25 a26 v : Value} {l : List Value} : PutI (a0 :: a1 :: a2 :: a3 :: a4 :: a5 :: a6 :: a7 :: a8 :: a9 :: a10 :: a11 :: a12 :: a13 :: a14 :: a15 :: a16 :: a17 :: a18 :: a19 :: a20 :: a21 :: a22 :: a23 :: a24 :: a25 :: a26 :: l) (some 26) v (a0 :: a1 :: a2 :: a3 :: a4 :: a5 :: a6 :: a7 :: a8 :: a9 :: a10 :: a11 :: a12 :: a13 :: a14 :: a15 :: a16 :: a17 :: a18 :: a19 :: a20 :: a21 :: a22 :: a23 :: a24 :: a25 :: v :: l) := ⟨fun ds => put_set _ _ _ ds⟩
instance {a0 a1 a2 a3 a4 a5 a6 a7 a8 a9 a10 a11 a12 a13 a14 a15 a16 a17 a18 a19 a20 a21 a22 a23 a24 a25 a26 a27 v : Value} {l : List Value} : PutI (a0 :: a1 :: a2 :: a3 :: a4 :: a5 :: a6 :: a7 :: a8 :: a9 :: a10 :: a11 :: a12 :: a13 :: a14 :: a15 :: a16 :: a17 :: a18 :: a19 :: a20 :: a21 :: a22 :: a23 :: a24 :: a25 :: a26 :: a27 :: l) (some 27) v (a0 :: a1 :: a2 :: a3 :: a4 :: a5 :: a6 :: a7 :: a8 :: a9 :: a10 :: a11 :: a12 :: a13 :: a14 :: a15 :: a16 :: a17 :: a18 :: a19 :: a20 :: a21 :: a22 :: a23 :: a24 :: a25 :: a26 :: v :: l) := ⟨fun ds => put_set _ _ _ ds⟩
instance {a0 a1 a2 a3 a4 a5 a6 a7 a8 a9 a10 a11 a12 a13 a14 a15 a16 a17 a18 a19 a20 a21 a22 a23 a24 a25 a26 a27 a28 v : Value} {l : List Value} : PutI (a0 :: a1 :: a2 :: a3 :: a4 :: a5 :: a6 :: a7 :: a8 :: a9 :: a10 :: a11 :: a12 :: a13 :: a14 :: a15 :: a16 :: a17 :: a18 :: a19 :: a20 :: a21 :: a22 :: a23 :: a24 :: a25 :: a26 :: a27 :: a28 :: l) (some 28) v (a0 :: a1 :: a2 :: a3 :: a4 :: a5 :: a6 :: a7 :: a8 :: a9 :: a10 :: a11 :: a12 :: a13 :: a14 :: a15 :: a16 :: a17 :: a18 :: a19 :: a20 :: a21 :: a22 :: a23 :: a24 :: a25 :: a26 :: a27 :: v :: l) := ⟨fun ds => put_set _ _ _ ds⟩
instance {a0 a1 a2 a3 a4 a5 a6 a7 a8 a9 a10 a11 a12 a13 a14 a15 a16 a17 a18 a19 a20 a21 a22 a23 a24 a25 a26 a27 a28 a29 v : Value} {l : List Value} : PutI (a0 :: a1 :: a2 :: a3 :: a4 :: a5 :: a6 :: a7 :: a8 :: a9 :: a10 :: a11 :: a12 :: a13 :: a14 :: a15 :: a16 :: a17 :: a18 :: a19 :: a20 :: a21 :: a22 :: a23 :: a24 :: a25 :: a26 :: a27 :: a28 :: a29 :: l) (some 29) v (a0 :: a1 :: a2 :: a3 :: a4 :: a5 :: a6 :: a7 :: a8 :: a9 :: a10 :: a11 :: a12 :: a13 :: a14 :: a15 :: a16 :: a17 :: a18 :: a19 :: a20 :: a21 :: a22 :: a23 :: a24 :: a25 :: a26 :: a27 :: a28 :: v :: l) := ⟨fun ds => put_set _ _ _ ds⟩
instance {a0 a1 a2 a3 a4 a5 a6 a7 a8 a9 a10 a11 a12 a13 a14 a15 a16 a17 a18 a19 a20 a21 a22 a23 a24 a25 a26 a27 a28 a29 a30 v : Value} {l : List Value} : PutI (a0 :: a1 :: a2 :: a3 :: a4 :: a5 :: a6 :: a7 :: a8 :: a9 :: a10 :: a11 :: a12 :: a13 :: a14 :: a15 :: a16 :: a17 :: a18 :: a19 :: a20 :: a21 :: a22 :: a23 :: a24 :: a25 :: a26 :: a27 :: a28 :: a29 :: a30 :: l) (some 30) v (a0 :: a1 :: a2 :: a3 :: a4 :: a5 :: a6 :: a7 :: a8 :: a9 :: a10 :: a11 :: a12 :: a13 :: a14 :: a15 :: a16 :: a17 :: a18 :: a19 :: a20 :: a21 :: a22 :: a23 :: a24 :: a25 :: a26 :: a27 :: a28 :: a29 :: v :: l) := ⟨fun ds => put_set _ _ _ ds⟩
instance {a0 a1 a2 a3 a4 a5 a6 a7 a8 a9 a10 a11 a12 a13 a14 a15 a16 a17 a18 a19 a20 a21 a22 a23 a24 a25 a26 a27 a28 a29 a30 a31 v : Value} {l : List Value} : PutI (a0 :: a1 :: a2 :: a3 :: a4 :: a5 :: a6 :: a7 :: a8 :: a9 :: a10 :: a11 :: a12 :: a13 :: a14 :: a15 :: a16 :: a17 :: a18 :: a19 :: a20 :: a21 :: a22 :: a23 :: a24 :: a25 :: a26 :: a27 :: a28 :: a29 :: a30 :: a31 :: l) (some 31) v (a0 :: a1 :: a2 :: a3 :: a4 :: a5 :: a6 :: a7 :: a8 :: a9 :: a10 :: a11 :: a12 :: a13 :: a14 :: a15 :: a16 :: a17 :: a18 :: a19 :: a20 :: a21 :: a22 :: a23 :: a24 :: a25 :: a26 :: a27 :: a28 :: a29 :: a30 :: v :: l) := ⟨fun ds => put_set _ _ _ ds⟩
theorem put_jump {E l l' : List Value} {i : Nat} {v : Value} (h : ∀ ds, Act.put ⟨l.toArray, ds⟩ (some i) v = ⟨l'.toArray, ds⟩) (ds : List Deferred) : Act.put ⟨(E ++ l).toArray, ds⟩ (some (i + E.length)) v = ⟨(E ++ l').toArray, ds⟩ := by
  have h1 := h []
  rw [put_set] at h1
  have h2 : l.set i v = l' := by
    have h3 := congrArg (fun a => a.tmps.toList) h1
    simpa using h3
  rw [put_set, ← h2, List.set_append_right _ _ (by omega : E.length ≤ i + E.length), Nat.add_sub_cancel]
instance (priority := 100) {a0 a1 a2 a3 a4 a5 a6 a7 a8 a9 a10 a11 a12 a13 a14 a15 a16 a17 a18 a19 a20 a21 a22 a23 a24 a25 a26 a27 a28 a29 a30 a31 v : Value} {i : Nat} {l l' : List Value} [h : PutI l (some i) v l'] : PutI (a0 :: a1 :: a2 :: a3 :: a4 :: a5 :: a6 :: a7 :: a8 :: a9 :: a10 :: a11 :: a12 :: a13 :: a14 :: a15 :: a16 :: a17 :: a18 :: a19 :: a20 :: a21 :: a22 :: a23 :: a24 :: a25 :: a26 :: a27 :: a28 :: a29 :: a30 :: a31 :: l) (some (i + 32)) v (a0 :: a1 :: a2 :: a3 :: a4 :: a5 :: a6 :: a7 :: a8 :: a9 :: a10 :: a11 :: a12 :: a13 :: a14 :: a15 :: a16 :: a17 :: a18 :: a19 :: a20 :: a21 :: a22 :: a23 :: a24 :: a25 :: a26 :: a27 :: a28 :: a29 :: a30 :: a31 :: l') := ⟨fun ds => put_jump (E := [a0, a1, a2, a3, a4, a5, a6, a7, a8, a9, a10, a11, a12, a13, a14, a15, a16, a17, a18, a19, a20, a21, a22, a23, a24, a25, a26, a27, a28, a29, a30, a31]) h.put ds⟩
class StI (P : Program) (ty : TypeId) (m : outParam Nat) : Prop where
  st : StT P ty m
class OneI (P : Program) (ty : TypeId) : Prop where
  one : OneT P ty
class ZeI (P : Program) (ty : TypeId) (cs : outParam (List Value)) : Prop where
  ze : ZeroT P ty cs
class RowI (P : Program) (t : TypeId) (e : outParam TypeId) (k : outParam Nat) : Prop where
  row : RowT P t e k
instance : OneI Try.prog 3 := ⟨oneInt⟩
instance : OneI Try.prog 9 := ⟨oneStr⟩
instance : OneI Try.prog 25 := ⟨oneErr⟩
section
variable {P : Program} {dst : Option Tmp} {oty : TypeId} {pos : String} {after : Array Edge} {g : Option (Nat × Bool)} {l l' : List Value} {ds : List Deferred} {Q : Exit → Act → World → Prop} {K : Act → World → Prop}
variable {At : PS → World → Prop} {b : Nat} {u w : World} {s : PS} {L : List Ent} {ty t : TypeId} {j j' z p m i : Nat} {cs vs : List Value} {v : Value}
theorem ones_of (h : vs.all Value.oneCell' = true) : ∀ v ∈ vs, v.oneCell' = true := fun v hv => List.all_eq_true.1 h v hv
theorem q_all (M : Mem At b u w s L) [hx : Nth l j (.pointer (some ⟨z, 0, none⟩))] [hz : Has L z i cs t] [hT : StI P ty m] (hl : Nat.beq cs.length m = true) [hd : PutI l dst (.agg cs.toArray) l'] (h : K ⟨l'.toArray, ds⟩ w) : OWP P ⟨dst, .load ty (.tmp j), oty, pos, after, g⟩ ⟨l.toArray, ds⟩ w K Q :=
  owp_of (op_allT M ty _ rfl z (eval_tmp hx.nth) hz.at_ hT.st (Nat.eq_of_beq_eq_true hl) (by rw [hd.put]; exact h))
theorem q_get (M : Mem At b u w s L) [hx : Nth l j (.pointer (some ⟨z, p, none⟩))] [hz : Has L z i cs t] [hT : OneI P ty] (hv : cs[p]? = some v) [hd : PutI l dst v l'] (h : K ⟨l'.toArray, ds⟩ w) : OWP P ⟨dst, .load ty (.tmp j), oty, pos, after, g⟩ ⟨l.toArray, ds⟩ w K Q :=
  owp_of (op_getT M ty _ rfl z p (eval_tmp hx.nth) hz.at_ hT.one v hv (by rw [hd.put]; exact h))
theorem q_part (M : Mem At b u w s L) [hx : Nth l j (.pointer (some ⟨z, p, none⟩))] [hz : Has L z i cs t] [hT : StI P ty m] (hl : Nat.ble (p + m) cs.length = true) (hv : (cs.drop p).take m = vs) [hd : PutI l dst (.agg vs.toArray) l'] (h : K ⟨l'.toArray, ds⟩ w) : OWP P ⟨dst, .load ty (.tmp j), oty, pos, after, g⟩ ⟨l.toArray, ds⟩ w K Q :=
  owp_of (op_partT M ty _ rfl z p (eval_tmp hx.nth) hz.at_ hT.st vs (by have := Nat.le_of_ble_eq_true hl; rw [← hv, List.length_take, List.length_drop]; omega) hv (by rw [hd.put]; exact h))
theorem q_put (M : Mem At b u w s L) [hx : Nth l j (.pointer (some ⟨z, 0, none⟩))] [hy : Nth l j' (.agg vs.toArray)] [hz : Has L z i cs t] [hT : StI P ty m] (hm : Nat.beq vs.length m = true) (hl : Nat.beq cs.length m = true) (h1 : vs.all Value.oneCell' = true) [hd : PutI l dst undef l'] (h : ∀ w', Mem At b u w' s (L.set i (own z vs t)) → K ⟨l'.toArray, ds⟩ w') : OWP P ⟨dst, .store ty (.tmp j) (.tmp j'), oty, pos, after, g⟩ ⟨l.toArray, ds⟩ w K Q :=
  owp_of (op_putT M ty _ _ rfl z vs (eval_tmp hx.nth) (eval_tmp hy.nth) hz.at_ hT.st (Nat.eq_of_beq_eq_true hm) (Nat.eq_of_beq_eq_true hl) (ones_of h1) (fun w' M' => by rw [hd.put]; exact h w' M'))
theorem q_in (M : Mem At b u w s L) [hx : Nth l j (.pointer (some ⟨z, p, none⟩))] [hy : Nth l j' (.agg vs.toArray)] [hz : Has L z i cs t] [hT : StI P ty m] (hm : Nat.beq vs.length m = true) (hl : Nat.ble (p + m) cs.length = true) (h1 : vs.all Value.oneCell' = true) [hd : PutI l dst undef l'] (h : ∀ w', Mem At b u w' s (L.set i (own z (laid cs p vs) t)) → K ⟨l'.toArray, ds⟩ w') : OWP P ⟨dst, .store ty (.tmp j) (.tmp j'), oty, pos, after, g⟩ ⟨l.toArray, ds⟩ w K Q :=
  owp_of (op_inT M ty _ _ rfl z p vs (eval_tmp hx.nth) (eval_tmp hy.nth) hz.at_ hT.st (Nat.eq_of_beq_eq_true hm) (Nat.le_of_ble_eq_true hl) (ones_of h1) _ rfl (fun w' M' => by rw [hd.put]; exact h w' M'))
theorem q_set (M : Mem At b u w s L) [hx : Nth l j (.pointer (some ⟨z, p, none⟩))] [hy : Nth l j' v] [hz : Has L z i cs t] [hT : OneI P ty] (hl : Nat.blt p cs.length = true) (h1 : v.oneCell' = true) [hd : PutI l dst undef l'] (h : ∀ w', Mem At b u w' s (L.set i (own z (cs.set p v) t)) → K ⟨l'.toArray, ds⟩ w') : OWP P ⟨dst, .store ty (.tmp j) (.tmp j'), oty, pos, after, g⟩ ⟨l.toArray, ds⟩ w K Q :=
  owp_of (op_setT M ty _ _ rfl z p v (eval_tmp hx.nth) (eval_tmp hy.nth) hz.at_ hT.one (Nat.le_of_ble_eq_true hl) h1 (fun w' M' => by rw [hd.put]; exact h w' M'))
theorem q_setc (M : Mem At b u w s L) [hx : Nth l j (.pointer (some ⟨z, p, none⟩))] [hz : Has L z i cs t] [hT : OneI P ty] (hl : Nat.blt p cs.length = true) (h1 : v.oneCell' = true) [hd : PutI l dst undef l'] (h : ∀ w', Mem At b u w' s (L.set i (own z (cs.set p v) t)) → K ⟨l'.toArray, ds⟩ w') : OWP P ⟨dst, .store ty (.tmp j) (.const v), oty, pos, after, g⟩ ⟨l.toArray, ds⟩ w K Q :=
  owp_of (op_setT M ty _ _ rfl z p v (eval_tmp hx.nth) rfl hz.at_ hT.one (Nat.le_of_ble_eq_true hl) h1 (fun w' M' => by rw [hd.put]; exact h w' M'))
theorem q_var (M : Mem At b u w s L) [hT : ZeI P ty cs] {F : Nat → List Value} [hd : ∀ z, PutI l dst (.pointer (some ⟨z, 0, none⟩)) (F z)] (h : ∀ z w', Mem At b u w' s (own z cs ty :: L) → K ⟨(F z).toArray, ds⟩ w') : OWP P ⟨dst, .alloc ty, oty, pos, after, g⟩ ⟨l.toArray, ds⟩ w K Q :=
  owp_of (op_varZ M ty rfl hT.ze (fun z w' M' => by rw [(hd z).put]; exact h z w' M'))
theorem q_row (M : Mem At b u w s L) {e k : Nat} [hy : Nth l j (.agg vs.toArray)] [hT : RowI P ty e k] (hl : Nat.beq vs.length k = true) {F : Nat → List Value} [hd : ∀ q, PutI l dst (.slice (some ⟨q, 0, none⟩) 1 1) (F q)] (h : ∀ q w', Mem At b u w' s (own q vs e :: L) → K ⟨(F q).toArray, ds⟩ w') : OWP P ⟨dst, .buildSlice ty 1 #[(0, .tmp j)], oty, pos, after, g⟩ ⟨l.toArray, ds⟩ w K Q :=
  owp_of (op_build1 M hT.row _ rfl vs (eval_tmp hy.nth) (Nat.eq_of_beq_eq_true hl) (fun q w' M' => by rw [(hd q).put]; exact h q w' M'))
/-- One row appended to a slice of one's own. -/
theorem q_app {α : Type} {R : (Nat → Prop) → World → List Value → α → Prop} (hR : Firm R) {e k q iq : Nat} {row : List Value} {te : TypeId} (M : Mem At b u w s L) [hT : RowI P ty e k] [hs : Nth l j v] [hx : Nth l j' (.slice (some ⟨q, 0, none⟩) 1 1)] [hq : Has L q iq row te]
    (i : Nat) {xs : List α} (hi : L[i]? = some (slc u.heap.size e k R v xs)) (y : α) (hy : R (free_ u w L) w row y) (hl : Nat.beq row.length k = true) (h1 : row.all Value.oneCell' = true) (hn : xs.length ≤ 100000000) {F : Option Addr → Nat → List Value}
    [hd : ∀ ra rc, PutI l dst (.slice ra (xs.length + 1) rc) (F ra rc)] (h : ∀ ra rc w', Mem At b u w' s (L.set i (slc u.heap.size e k R (.slice ra (xs.length + 1) rc) (xs ++ [y]))) → K ⟨(F ra rc).toArray, ds⟩ w') :
    OWP P ⟨dst, .call { callee := .builtin .append, args := #[.tmp j, .tmp j'], argTypes := #[ty, ty] }, ty, pos, after, g⟩ ⟨l.toArray, ds⟩ w K Q :=
  owp_of (op_append hR M hT.row _ _ rfl rfl v (eval_tmp hs.nth) q (eval_tmp hx.nth) (Mem.of_get hq.at_) hi y hy (Nat.eq_of_beq_eq_true hl) (ones_of h1) hn (fun ra rc w' M' => by rw [(hd ra rc).put]; exact h ra rc w' M'))
/-- A struct loaded from where it is known to lie. -/
theorem q_at [hx : Nth l j (.pointer (some ⟨z, p, none⟩))] [hT : StI P ty m] (hr : w.rangeAt z p cs) (hl : Nat.beq cs.length m = true) [hd : PutI l dst (.agg cs.toArray) l'] (h : K ⟨l'.toArray, ds⟩ w) : OWP P ⟨dst, .load ty (.tmp j), oty, pos, after, g⟩ ⟨l.toArray, ds⟩ w K Q := by
  obtain ⟨hi, d, hu, hd'⟩ := hT.st
  exact owp_of (wp_load_mid ty _ rfl z p (eval_tmp hx.nth) cs d hr hu hd' (by rw [Nat.eq_of_beq_eq_true hl]; exact hi) (by rw [hd.put]; exact h))
end
section
variable {P : Program} {dst : Option Tmp} {oty : TypeId} {pos : String} {after : Array Edge} {g : Option (Nat × Bool)} {l l' : List Value} {ds : List Deferred} {Q : Exit → Act → World → Prop} {K : Act → World → Prop}
variable {b : Nat} {ao : Option Addr} {n cap j j' : Nat} {s : PS} {u w : World} {L : List Ent} {ty : TypeId}
end
/-- The return of what lies in an own block. -/
theorem q_ret {P : Program} {l : List Value} {At : PS → World → Prop} {b : Nat} {u w : World} {s : PS} {L : List Ent} {fn : Func} {R : Ending → World → Prop} {j : Tmp} {ty : TypeId} {z : Nat} {cs : List Value} {t : TypeId} {i m : Nat} (M : Mem At b u w s L) (hres : fn.results = #[.cell j ty]) [hp : Nth l j (.pointer (some ⟨z, 0, none⟩))]
    [hz : Has L z i cs t] [hT : StI P ty m] (hl : Nat.beq cs.length m = true) (hR : R (.returned (.agg cs.toArray)) w) : bodyPost P fn R .ret ⟨l.toArray, []⟩ w :=
  mem_ret M hres (getd_tmp hp.nth) hz.at_ hT.st (Nat.eq_of_beq_eq_true hl) rfl hR
section
variable {At : PS → World → Prop} {b : Nat} {u w : World} {s : PS} {L : List Ent}
/-- Data known of a row. -/
theorem Mem.dat_ {G : (Nat → Prop) → World → Prop} (M : Mem At b u w s L) {i : Nat} (hi : L[i]? = some (dat G)) : G (free_ u w L) w := M.say _ (Mem.of_get hi)
/-- The one row of a slice: where it lies, and its data. -/
theorem Mem.first {α : Type} {R : (Nat → Prop) → World → List Value → α → Prop} (hR : Firm R) {e k : Nat} (hk : 0 < k) {ra : Option Addr} {n rc : Nat} {y : α} (M : Mem At b u w s (slc u.heap.size e k R (.slice ra n rc) [y] :: L)) :
    ∃ q p row, ra = some ⟨q, p, none⟩ ∧ row.length = k ∧ w.rangeAt q p row ∧ Mem At b u w s (dat (fun F w => R F w row y) :: L) := by
  obtain ⟨ao, cap, e1, M1⟩ := M.done hR hk
  injection e1 with e1 e2 e3
  subst e1 e2 e3
  have h1 := M1.dat_ (i := 0) rfl
  obtain ⟨q, p, row, e4, hF, hlt, hrow, hRr⟩ := h1.2.2.2.2 0 (by simp)
  refine ⟨q, p, row, e4, hrow.1, fun j v hj => ?_, ?_⟩
  · have hjl : j < row.length := (List.getElem?_eq_some_iff.1 hj).1
    have := hrow.2 j (by rw [← hrow.1]; exact hjl)
    simp only [Nat.zero_mul, Nat.add_zero] at this
    rw [this, List.getD_eq_getElem?_getD, hj]
    rfl
  · refine M1.turn _ (dat_firm fun F F' w w' hs h => hR _ _ _ _ _ _ hs h) (fun z hz => by cases hz) (fun F G h1 _ hF => ?_)
    have hF' : SlF F w k R ra 1 rc [y] := hF
    obtain ⟨q2, p2, row2, e5, hF2, hlt2, hrow2, hR2⟩ := hF'.2.2.2.2 0 (by simp)
    rw [e4] at e5
    injection e5 with e5; injection e5 with e5 e6
    subst e5 e6
    have e7 : row2 = row := List.ext_getElem (by rw [hrow.1, hrow2.1]) (fun i h3 h4 => by
      have a1 := hrow.2 i (by rw [← hrow.1]; exact h4)
      have a2 := hrow2.2 i (by rw [← hrow2.1]; exact h3)
      rw [a1] at a2
      injection a2 with a2
      simpa [List.getD_eq_getElem?_getD, List.getElem?_eq_getElem h3, List.getElem?_eq_getElem h4] using a2.symm)
    subst e7
    exact hR _ _ _ _ _ _ (Same.wide fun k hk _ => h1 k hk) hR2
theorem Mem.skip {e f : Ent} (M : Mem At b u w s (e :: f :: L)) : Mem At b u w s (e :: L) := (M.perm (List.Perm.swap f e L)).drop
end


/-- A condition's cells. -/
def cndC (c : Cond) (ao : Option Addr) (n cap : Nat) : List Value := .int .i64 c.kind :: .slice ao n cap :: (opdC c.left ++ opdC c.right)
section
variable {b : Nat} {ao : Option Addr} {n cap : Nat} {s : PS} {u w : World} {L : List Ent} {At : PS → World → Prop}
end
theorem cndF_of {F : Nat → Prop} {w : World} {c : Cond} {ao : Option Addr} {n cap : Nat} (h : SlF F w 14 CondF ao n cap c.subs) : CondF F w (cndC c ao n cap) c := by
  cases c with
  | mk k subs l r => exact CondF.make k l r h
theorem CondF.sub {F : Nat → Prop} {w : World} {k : Value} {ao : Option Addr} {n cap : Nat} {rest : List Value} {c : Cond} (h : CondF F w (k :: .slice ao n cap :: rest) c) : SlF F w 14 CondF ao n cap c.subs := by
  obtain ⟨ao2, n2, cap2, e, hs⟩ := h.open
  injection e with e1 e2
  injection e2 with e2 e3
  injection e2 with e4 e5 e6
  subst e4 e5 e6
  exact hs
section
variable {b : Nat} {ao : Option Addr} {n cap : Nat} {s : PS} {u w : World} {L : List Ent} {At : PS → World → Prop}
end

/-- A pattern's cells. -/
def patC (p : Pat) (ao : Option Addr) (n cap : Nat) : List Value := .string p.var :: .string p.type :: (cndC p.wher ao n cap ++ [.int .i64 p.window, .int .i64 p.n])
section
variable {b : Nat} {ao : Option Addr} {n cap : Nat} {s : PS} {u w : World} {L : List Ent} {At : PS → World → Prop}
end

def optC (o : Opt) : List Value := [.int .i64 o.rel, .int .i64 o.lo, .int .i64 o.hi]
section
variable {b : Nat} {ao : Option Addr} {n cap : Nat} {s : PS} {u w : World} {L : List Ent} {At : PS → World → Prop}
end

def lnkC (k : Lnk) (ao : Option Addr) (n cap : Nat) : List Value := [.string k.left, .slice ao n cap, .string k.right]
section
variable {b : Nat} {ao : Option Addr} {n cap : Nat} {s : PS} {u w : World} {L : List Ent} {At : PS → World → Prop}
theorem Mem.swap {e f : Ent} (M : Mem At b u w s (e :: f :: L)) : Mem At b u w s (f :: e :: L) := M.perm (List.Perm.swap f e L)
end

def emiC (nm : ByteArray) (ao : Option Addr) (n cap : Nat) : List Value := [.string nm, .slice ao n cap]
section
variable {b : Nat} {ao : Option Addr} {n cap : Nat} {s : PS} {u w : World} {L : List Ent} {At : PS → World → Prop}
end

def manC (m : Many) (ao : Option Addr) (n cap : Nat) : List Value := .int .i64 m.count :: .string m.field :: patC m.pat ao n cap
def patF (F : Nat → Prop) (w : World) (row : List Value) (p : Pat) : Prop := ∃ ao n cap, row = patC p ao n cap ∧ SlF F w 14 CondF ao n cap p.wher.subs
def manF (F : Nat → Prop) (w : World) (row : List Value) (m : Many) : Prop := ∃ ao n cap, row = manC m ao n cap ∧ SlF F w 14 CondF ao n cap m.pat.wher.subs
def lnkF (F : Nat → Prop) (w : World) (row : List Value) (k : Lnk) : Prop := ∃ ao n cap, row = lnkC k ao n cap ∧ SlF F w 3 (plainF optC) ao n cap k.opts
theorem patF_firm : Firm patF := fun F G w w' row x hs ⟨ao, n, cap, h1, h2⟩ => ⟨ao, n, cap, h1, h2.same condF_firm hs⟩
theorem manF_firm : Firm manF := fun F G w w' row x hs ⟨ao, n, cap, h1, h2⟩ => ⟨ao, n, cap, h1, h2.same condF_firm hs⟩
theorem lnkF_firm : Firm lnkF := fun F G w w' row x hs ⟨ao, n, cap, h1, h2⟩ => ⟨ao, n, cap, h1, h2.same (plainF_firm _) hs⟩
/-- A rule that is being read: its cells, its slices. -/
def rulC (x : Rul) (v1 v2 v3 v4 v6 : Value) : List Value := [.string x.name, v1, v2, v3, v4, .string x.etype, v6]
section
variable {b : Nat} {ao : Option Addr} {n cap : Nat} {s : PS} {u w : World} {L : List Ent} {At : PS → World → Prop} {x : Rul} {zx : Nat} {v1 v2 v3 v4 v6 : Value}
end
section
variable {b : Nat} {ao : Option Addr} {n cap : Nat} {s : PS} {u w : World} {L : List Ent} {At : PS → World → Prop} {x : Rul} {zx : Nat} {v1 v2 v3 v4 v6 : Value}
theorem nonempty_list {y : ByteArray} (h : y ≠ ByteArray.empty) : y.toList.isEmpty = false := by
  cases hl : y.toList with
  | nil =>
    rw [ByteArray.toList_eq] at hl
    refine absurd ?_ h
    cases y with
    | mk d =>
      have : d = #[] := Array.toList_eq_nil_iff.1 hl
      rw [this]; rfl
  | cons a l => rfl
theorem Mem.cut (A : List Ent) {e : Ent} {K : List Ent} (M : Mem At b u w s (A ++ e :: K)) : Mem At b u w s (A ++ K) := (M.perm List.perm_middle).drop
end

def typC (t : Typ) (ao : Option Addr) (n cap : Nat) : List Value := [.string t.name, .slice ao n cap]
def typF (F : Nat → Prop) (w : World) (row : List Value) (t : Typ) : Prop := ∃ ao n cap, row = typC t ao n cap ∧ SlF F w 2 (plainF fldC) ao n cap t.fields
theorem typF_firm : Firm typF := fun F G w w' row x hs ⟨ao, n, cap, h1, h2⟩ => ⟨ao, n, cap, h1, h2.same (plainF_firm _) hs⟩
def rulF (F : Nat → Prop) (w : World) (row : List Value) (x : Rul) : Prop :=
  ∃ a1 n1 c1 a2 n2 c2 a3 n3 c3 a4 n4 c4 a6 n6 c6, row = rulC x (.slice a1 n1 c1) (.slice a2 n2 c2) (.slice a3 n3 c3) (.slice a4 n4 c4) (.slice a6 n6 c6) ∧
    SlF F w 18 patF a1 n1 c1 x.whens ∧ SlF F w 18 patF a2 n2 c2 x.nots ∧ SlF F w 20 manF a3 n3 c3 x.manies ∧ SlF F w 3 lnkF a4 n4 c4 x.links ∧ SlF F w 6 opdF a6 n6 c6 x.evals
theorem rulF_firm : Firm rulF := fun F G w w' row x hs ⟨a1, n1, c1, a2, n2, c2, a3, n3, c3, a4, n4, c4, a6, n6, c6, h, h1, h2, h3, h4, h6⟩ =>
  ⟨a1, n1, c1, a2, n2, c2, a3, n3, c3, a4, n4, c4, a6, n6, c6, h, h1.same patF_firm hs, h2.same patF_firm hs, h3.same manF_firm hs, h4.same lnkF_firm hs, h6.same opdF_firm hs⟩
section
variable {At : PS → World → Prop} {b : Nat} {u w : World} {s : PS} {L K : List Ent}
theorem Mem.both {G1 G2 : (Nat → Prop) → World → Prop} (f1 : FirmD G1) (f2 : FirmD G2) (M : Mem At b u w s (dat G1 :: dat G2 :: L)) : Mem At b u w s (dat (fun F w => G1 F w ∧ G2 F w) :: L) := by
  have M2 : Mem At b u w s ([dat (fun F w => G1 F w ∧ G2 F w)] ++ L) := Mem.frame (A := [dat G1, dat G2]) M M.at_ M.but (Nat.le_refl _) (fun _ _ _ _ => rfl)
    (fun f hf => by rw [List.mem_singleton.1 hf]; exact dat_firm fun F F' w w' hs h => ⟨f1 F F' w w' hs h.1, f2 F F' w w' hs h.2⟩)
    (fun f hf z hz => by rw [List.mem_singleton.1 hf] at hz; cases hz) (fun f hf z hz => by rw [List.mem_singleton.1 hf] at hz; cases hz) (List.pairwise_singleton _ _)
    (fun G hG _ _ f hf => by
      rw [List.mem_singleton.1 hf]
      have h1 := M.dat_ (i := 0) rfl
      have h2 := M.dat_ (i := 1) rfl
      exact ⟨f1 _ _ _ _ (Same.wide fun k hk _ => hG k hk) h1, f2 _ _ _ _ (Same.wide fun k hk _ => hG k hk) h2⟩)
  exact M2
theorem Mem.doneA (A : List Ent) {α : Type} {R : (Nat → Prop) → World → List Value → α → Prop} (hR : Firm R) {e k : Nat} (hk : 0 < k) {o : Value} {xs : List α} (M : Mem At b u w s (A ++ slc u.heap.size e k R o xs :: K)) :
    ∃ ao cap, o = .slice ao xs.length cap ∧ Mem At b u w s (A ++ dat (fun F w => SlF F w k R ao xs.length cap xs) :: K) := by
  obtain ⟨ao, cap, e1, M1⟩ := (M.perm List.perm_middle).done hR hk
  exact ⟨ao, cap, e1, M1.perm List.perm_middle.symm⟩
theorem fnd {α : Type} {R : (Nat → Prop) → World → List Value → α → Prop} (hR : Firm R) {k : Nat} {ao : Option Addr} {n cap : Nat} {xs : List α} : FirmD (fun F w => SlF F w k R ao n cap xs) := fun F F' w w' hs h => SlF.same h hR hs
theorem fnd_and {G1 G2 : (Nat → Prop) → World → Prop} (f1 : FirmD G1) (f2 : FirmD G2) : FirmD (fun F w => G1 F w ∧ G2 F w) := fun F F' w w' hs h => ⟨f1 F F' w w' hs h.1, f2 F F' w w' hs h.2⟩
theorem fnd_ev {v : Value} {vs : List Opd} : FirmD (fun F w => ∃ ao n cap, v = .slice ao n cap ∧ SlF F w 6 opdF ao n cap vs) := fun F F' w w' hs ⟨ao, n, cap, h1, h2⟩ => ⟨ao, n, cap, h1, h2.same opdF_firm hs⟩
theorem Mem.turnD {G G' : (Nat → Prop) → World → Prop} (f : FirmD G) (f' : FirmD G') (h : ∀ F, G F w → G' F w) (M : Mem At b u w s (dat G :: L)) : Mem At b u w s (dat G' :: L) :=
  M.turn _ (dat_firm f') (fun z hz => by cases hz) (fun F F' h1 _ hF => f' _ _ _ _ (Same.wide fun k hk _ => h1 k hk) (h F hF))
end
/-- The block b stays as it was. -/
def StaysB (b : Nat) (u : World) : PS → World → Prop := fun _ w' => w'.heap[b]? = u.heap[b]?
section
variable {At : PS → World → Prop} {b z : Nat} {u w w' : World} {s : PS} {L : List Ent} {cs cs' : List Value} {t : TypeId}
theorem Mem.begin (h : b < u.heap.size) (s : PS) : Mem (StaysB b u) b u u s [] := Mem.empty rfl (fun s w w' h h' => h.trans h') h
theorem Mem.new (M : Mem (StaysB b u) b u w s L) : Below u.heap.size u w := M.but.new M.at_
/-- A block of one's own turned by a call, and nothing else that there was. -/
theorem Mem.turned (M : Mem At b u w s (own z cs t :: L)) (hb : But z w w') (ho : Own z cs' t w') : Mem At b u w' s (own z cs' t :: L) := by
  have h1 := M.ne (List.mem_cons_self ..)
  have hbl : b < w.heap.size := Nat.lt_of_lt_of_le M.lt M.size
  refine M.setAt (i := 0) (e := own z cs t) (e' := own z cs' t) rfl (M.stay s w w' (hb.rest b hbl (Ne.symm h1.2.1)) M.at_) ?_ hb.size (fun k hk hkb hkz => hb.rest k hk (fun e => hkz (by rw [e]; rfl))) (own_firm _ _ _) (fun y hy => ?_) (fun y hy => .inr hy) (fun G _ _ => ho)
  · exact ⟨M.but.below.trans (hb.below.mono (by have := M.lt; omega)), fun k hk hkb => (hb.rest k (Nat.lt_of_lt_of_le hk M.size) (by omega)).trans (M.but.rest k hk hkb)⟩
  · have e : z = y := by injection hy
    subst e
    exact ⟨h1.1, Nat.lt_of_lt_of_le h1.2.2 hb.size⟩
/-- Data that lie in blocks that nobody owns. -/
theorem Mem.adopt (M : Mem At b u w s L) {G : (Nat → Prop) → World → Prop} (f : FirmD G) {F : Nat → Prop} (h : G F w) (hF : ∀ k, F k → k < w.heap.size → free_ u w L k) : Mem At b u w s (dat G :: L) := by
  have M2 : Mem At b u w s ([dat G] ++ L) := Mem.frame (A := []) (by simpa using M) M.at_ M.but (Nat.le_refl _) (fun _ _ _ _ => rfl)
    (fun f' hf => by rw [List.mem_singleton.1 hf]; exact dat_firm f) (fun f hf z hz => by rw [List.mem_singleton.1 hf] at hz; cases hz) (fun f hf z hz => by rw [List.mem_singleton.1 hf] at hz; cases hz) (List.pairwise_singleton _ _)
    (fun G' hG _ _ e he => by
      rw [List.mem_singleton.1 he]
      exact f _ _ _ _ (Same.wide fun k hk hlt => hG k (by simpa using hF k hk hlt)) h)
  exact M2
end
section
variable {P : Program} {dst : Option Tmp} {oty : TypeId} {pos : String} {after : Array Edge} {g : Option (Nat × Bool)} {l : List Value} {ds : List Deferred} {Q : Exit → Act → World → Prop} {K : Act → World → Prop}
variable {At : PS → World → Prop} {b : Nat} {u w : World} {s : PS} {L : List Ent} {ty : TypeId} {j : Nat} {vs : List Value}
/-- A struct laid into a block of its own. -/
theorem q_box (M : Mem At b u w s L) [hy : Nth l j (.agg vs.toArray)] {F : Nat → List Value} [hd : ∀ z, PutI l dst (.pointer (some ⟨z, 0, none⟩)) (F z)] (h : ∀ z w', z = w.heap.size → w' = w.alloc (.cells vs.toArray ty) → Mem At b u w' s (own z vs ty :: L) → K ⟨(F z).toArray, ds⟩ w') :
    OWP P ⟨dst, .box ty (.tmp j), oty, pos, after, g⟩ ⟨l.toArray, ds⟩ w K Q := by
  refine owp_of ?_
  have hy' := eval_tmp (ds := ds) hy.nth
  unfold Oper.wp execOp
  simp only [Instr.box, hy', Sem.run_bind, newVar, newRow, newObj, Value.cells]
  have hlow : ∀ y, (own w.heap.size vs ty).blk y → w.heap.size ≤ y ∧ y < (w.alloc (.cells vs.toArray ty)).heap.size := fun y hy => by
    have e : w.heap.size = y := by injection hy
    subst e
    simp
  have key := h w.heap.size (w.alloc (.cells vs.toArray ty)) rfl rfl (M.push (Joins.below_alloc1 w _) (own_firm _ _ _) hlow (fun G _ => heap_alloc_new w _))
  rw [← (hd w.heap.size).put] at key
  exact key
theorem q_ret3 {fn : Func} {R : Ending → World → Prop} {j t1 t2 : Tmp} {ty : TypeId} {z : Nat} {cs : List Value} {t : TypeId} {i m : Nat} {r1 r2 : Value} (M : Mem At b u w s L) (hres : fn.results = #[.cell j ty, .tmp t1, .tmp t2]) [hp : Nth l j (.pointer (some ⟨z, 0, none⟩))] [h1 : Nth l t1 r1] [h2 : Nth l t2 r2]
    [hz : Has L z i cs t] [hT : StI P ty m] (hl : Nat.beq cs.length m = true) (hk : ∃ d, P.underlying ty = some d ∧ (match d with | .struct _ | .array _ _ => true | _ => false) = true) (hR : R (.returned (.tuple #[.agg cs.toArray, r1, r2])) w) : bodyPost P fn R .ret ⟨l.toArray, []⟩ w := by
  obtain ⟨d, hu, hd⟩ := hk
  have hO := M.own_ (Mem.of_get hz.at_)
  have hp' : (l.toArray)[j]?.getD undef = .pointer (some ⟨z, 0, none⟩) := by simp [hp.nth]
  have h1' : (l.toArray)[t1]?.getD undef = r1 := by simp [h1.nth]
  have h2' : (l.toArray)[t2]?.getD undef = r2 := by simp [h2.nth]
  refine bodyPost_ret ?_ rfl hR
  have hi : (P.info? ty).map (·.size) = some cs.toArray.size := by rw [List.size_toArray, Nat.eq_of_beq_eq_true hl]; exact hT.st.1
  have hL := run_loadVar_row w z t ty cs.toArray (0, 0) d hO hu (by cases d <;> simp_all) hi
  simp only [List.getElem?_toArray] at hp' h1' h2'
  simp [results, hres, hp', h1', h2', asAddr, hL]
end


theorem RowAt.range {w : World} {b o k : Nat} {row : List Value} (h : RowAt w b o k row) : w.rangeAt b o row := fun j v hj => by
  have hjl : j < row.length := (List.getElem?_eq_some_iff.1 hj).1
  rw [h.2 j (by rw [← h.1]; exact hjl), List.getD_eq_getElem?_getD, hj]; rfl

/-- The slot of an operation of a region. -/
class NthO (l : List Oper) (i : Nat) (t : outParam Tmp) : Prop where
  at_ : ∃ o, l[i]? = some o ∧ o.dst = some t
instance {t : Tmp} {op : Op} {ty : TypeId} {pos : String} {after : Array Edge} {g : Option (Nat × Bool)} {l : List Oper} : NthO (⟨some t, op, ty, pos, after, g⟩ :: l) 0 t := ⟨⟨_, rfl, rfl⟩⟩
instance {o0 : Oper} {t : Tmp} {op : Op} {ty : TypeId} {pos : String} {after : Array Edge} {g : Option (Nat × Bool)} {l : List Oper} : NthO (o0 :: ⟨some t, op, ty, pos, after, g⟩ :: l) 1 t := ⟨⟨_, rfl, rfl⟩⟩
instance {o0 o1 : Oper} {t : Tmp} {op : Op} {ty : TypeId} {pos : String} {after : Array Edge} {g : Option (Nat × Bool)} {l : List Oper} : NthO (o0 :: o1 :: ⟨some t, op, ty, pos, after, g⟩ :: l) 2 t := ⟨⟨_, rfl, rfl⟩⟩
instance {o0 o1 o2 : Oper} {t : Tmp} {op : Op} {ty : TypeId} {pos : String} {after : Array Edge} {g : Option (Nat × Bool)} {l : List Oper} : NthO (o0 :: o1 :: o2 :: ⟨some t, op, ty, pos, after, g⟩ :: l) 3 t := ⟨⟨_, rfl, rfl⟩⟩
instance {o0 o1 o2 o3 : Oper} {t : Tmp} {op : Op} {ty : TypeId} {pos : String} {after : Array Edge} {g : Option (Nat × Bool)} {l : List Oper} : NthO (o0 :: o1 :: o2 :: o3 :: ⟨some t, op, ty, pos, after, g⟩ :: l) 4 t := ⟨⟨_, rfl, rfl⟩⟩
instance {o0 o1 o2 o3 o4 : Oper} {t : Tmp} {op : Op} {ty : TypeId} {pos : String} {after : Array Edge} {g : Option (Nat × Bool)} {l : List Oper} : NthO (o0 :: o1 :: o2 :: o3 :: o4 :: ⟨some t, op, ty, pos, after, g⟩ :: l) 5 t := ⟨⟨_, rfl, rfl⟩⟩
instance {o0 o1 o2 o3 o4 o5 : Oper} {t : Tmp} {op : Op} {ty : TypeId} {pos : String} {after : Array Edge} {g : Option (Nat × Bool)} {l : List Oper} : NthO (o0 :: o1 :: o2 :: o3 :: o4 :: o5 :: ⟨some t, op, ty, pos, after, g⟩ :: l) 6 t := ⟨⟨_, rfl, rfl⟩⟩
instance {o0 o1 o2 o3 o4 o5 o6 : Oper} {t : Tmp} {op : Op} {ty : TypeId} {pos : String} {after : Array Edge} {g : Option (Nat × Bool)} {l : List Oper} : NthO (o0 :: o1 :: o2 :: o3 :: o4 :: o5 :: o6 :: ⟨some t, op, ty, pos, after, g⟩ :: l) 7 t := ⟨⟨_, rfl, rfl⟩⟩
instance (priority := 100) {o0 o1 o2 o3 o4 o5 o6 o7 : Oper} {i : Nat} {t : Tmp} {l : List Oper} [h : NthO l i t] : NthO (o0 :: o1 :: o2 :: o3 :: o4 :: o5 :: o6 :: o7 :: l) (i + 8) t := ⟨h.at_⟩
theorem o_listg {P : Program} {opsl : List Oper} {dst : Option Tmp} {op : Op} {oty : TypeId} {pos : String} {after : Array Edge} {gi : Nat} {want : Bool} {t : Tmp} {l : List Value} {ds : List Deferred} {w : World} {rest : List Oper} {Q : Exit → Act → World → Prop}
    [ho : NthO opsl gi t] [hv : Nth l t (.bool want)] (h : ∀ K : Act → World → Prop, (∀ a w, wpList P opsl.toArray Q rest a w → K a w) → OWP P ⟨dst, op, oty, pos, after, some (gi, want)⟩ ⟨l.toArray, ds⟩ w K Q) : wpList P opsl.toArray Q (⟨dst, op, oty, pos, after, some (gi, want)⟩ :: rest) ⟨l.toArray, ds⟩ w := by
  have hw : Region.wanted (⟨dst, op, oty, pos, after, some (gi, want)⟩ : Oper) (yielded opsl.toArray l.toArray) = true := by
    have h1 := hv.nth
    obtain ⟨o', h2, h3⟩ := ho.at_
    simp only [Region.wanted, yielded, List.getElem?_toArray, h2, Option.bind_some, h3, h1]
    simp
  exact wpList_step fun K hK => by rw [if_pos hw]; exact owp_out (h K hK)
theorem o_skipT {P : Program} {opsl : List Oper} {dst : Option Tmp} {op : Op} {oty : TypeId} {pos : String} {after : Array Edge} {gi : Nat} {t : Tmp} {l l' : List Value} {ds : List Deferred} {w : World} {rest : List Oper} {Q : Exit → Act → World → Prop}
    [ho : NthO opsl gi t] [hv : Nth l t (.bool false)] [hp : PutI l dst undef l'] (h : wpList P opsl.toArray Q rest ⟨l'.toArray, ds⟩ w) : wpList P opsl.toArray Q (⟨dst, op, oty, pos, after, some (gi, true)⟩ :: rest) ⟨l.toArray, ds⟩ w := by
  have hw : Region.wanted (⟨dst, op, oty, pos, after, some (gi, true)⟩ : Oper) (yielded opsl.toArray l.toArray) = false := by
    have h1 := hv.nth
    obtain ⟨o', h2, h3⟩ := ho.at_
    simp only [Region.wanted, yielded, List.getElem?_toArray, h2, Option.bind_some, h3, h1]
    simp
  exact wpList_step fun K hK => by
    rw [if_neg (by rw [hw]; simp)]
    refine hK _ _ ?_
    rw [hp.put]
    exact h
theorem o_skipF {P : Program} {opsl : List Oper} {dst : Option Tmp} {op : Op} {oty : TypeId} {pos : String} {after : Array Edge} {gi : Nat} {t : Tmp} {l l' : List Value} {ds : List Deferred} {w : World} {rest : List Oper} {Q : Exit → Act → World → Prop}
    [ho : NthO opsl gi t] [hv : Nth l t (.bool true)] [hp : PutI l dst undef l'] (h : wpList P opsl.toArray Q rest ⟨l'.toArray, ds⟩ w) : wpList P opsl.toArray Q (⟨dst, op, oty, pos, after, some (gi, false)⟩ :: rest) ⟨l.toArray, ds⟩ w := by
  have hw : Region.wanted (⟨dst, op, oty, pos, after, some (gi, false)⟩ : Oper) (yielded opsl.toArray l.toArray) = false := by
    have h1 := hv.nth
    obtain ⟨o', h2, h3⟩ := ho.at_
    simp only [Region.wanted, yielded, List.getElem?_toArray, h2, Option.bind_some, h3, h1]
    simp
  exact wpList_step fun K hK => by
    rw [if_neg (by rw [hw]; simp)]
    refine hK _ _ ?_
    rw [hp.put]
    exact h
section
variable {P : Program} {dst : Option Tmp} {oty : TypeId} {pos : String} {after : Array Edge} {g : Option (Nat × Bool)} {l l' : List Value} {ds : List Deferred} {Q : Exit → Act → World → Prop} {K : Act → World → Prop}
variable {b : Nat} {ao : Option Addr} {n cap j j' : Nat} {s : PS} {u w : World} {L : List Ent} {ty : TypeId} {At : PS → World → Prop}
theorem eval_const {a : Act} {v : Value} : a.eval (.const v) = v := rfl
theorem q_eo {v : Value} {c o : Nat} (M : Mem At b u w s L) [hx : Nth l j (.pointer (some ⟨c, o, none⟩))] [hT : OneI P ty] (hlt : c < u.heap.size) (hne : c ≠ b) (hc : u.cell? ⟨c, o, none⟩ = some v) [hd : PutI l dst v l'] (h : K ⟨l'.toArray, ds⟩ w) : OWP P ⟨dst, .load ty (.tmp j), oty, pos, after, g⟩ ⟨l.toArray, ds⟩ w K Q :=
  owp_of (op_cell rfl (eval_tmp hx.nth) hT.one ((M.but.cell hlt hne o).trans hc) (by rw [hd.put]; exact h))
theorem run_store_one {P : Program} {ty : TypeId} {p : Nat} {v : Value} (hT : OneT P ty) (hc : (w.cell? ⟨b, p, none⟩).isSome = true) (hf : w.frozen? ⟨b, p, none⟩ = false) (h1 : v.oneCell' = true) : (storeVar ty ⟨b, p, none⟩ v).run P w = .ok () (w.setCell ⟨b, p, none⟩ v) := by
  have hh := run_storeCells_cells (P := P) b p [v] 0 w (fun j hj => by
    have e0 : j = 0 := by simpa using hj
    subst e0
    simpa using hc) (fun j hj => by
    have e0 : j = 0 := by simpa using hj
    subst e0
    simpa using hf) (fun u hu => by rw [List.mem_singleton.1 hu]; exact h1)
  have hcl : v.cells = #[v] := by cases v <;> first | rfl | (simp [Value.oneCell'] at h1)
  obtain ⟨hT1, _⟩ := hT
  cases hq : P.info? ty with
  | none => simp [hq] at hT1
  | some i =>
    have hs : i.size = 1 := by simpa [hq] using hT1
    simp only [Nat.add_zero] at hh
    simp [storeVar, sizeOf, typeInfo, hq, hcl, hs, hh]
    rfl
end
section
variable {b : Nat} {ao : Option Addr} {n cap : Nat} {s : PS} {u w : World} {L : List Ent} {At : PS → World → Prop}
theorem Mem.oldr (M : Mem At b u w s L) {c o : Nat} {cs : List Value} (hlt : c < u.heap.size) (hne : c ≠ b) (h : u.rangeAt c o cs) : w.rangeAt c o cs := fun j v hj => (M.but.cell hlt hne _).trans (h j v hj)
theorem range3 {u : World} {c o : Nat} {x y z : Value} (h0 : u.cell? ⟨c, o, none⟩ = some x) (h1 : u.cell? ⟨c, o + 1, none⟩ = some y) (h2 : u.cell? ⟨c, o + 1 + 1, none⟩ = some z) : u.rangeAt c o [x, y, z] := fun j v hj => by
  match j, hj with
  | 0, hj => simp at hj; subst hj; exact h0
  | 1, hj => simp at hj; subst hj; exact h1
  | 2, hj => simp at hj; subst hj; exact h2
end
section
variable {b : Nat} {ao : Option Addr} {n cap : Nat} {s : PS} {u w : World} {L : List Ent} {At : PS → World → Prop}
theorem body_id {P : Program} {fn : Func} {R : Ending → World → Prop} {a : Act} {w : World} (h : bodyPost P fn R .ret a w) : bodyPost P fn R .ret a w := h
end
section
variable {b : Nat} {ao : Option Addr} {n cap : Nat} {s : PS} {u w : World} {L : List Ent} {At : PS → World → Prop} {x : Rul} {v1 v2 v3 v4 v6 : Value}
theorem slc_slice {α : Type} {B e k i : Nat} {R : (Nat → Prop) → World → List Value → α → Prop} {v : Value} {xs : List α} (M : Mem At b u w s L) (hi : L[i]? = some (slc B e k R v xs)) : ∃ ra rc, v = .slice ra xs.length rc :=
  OwnF.slice (show OwnF (free_ u w L) B w e k R v xs from M.say _ (Mem.of_get hi))
end
section
variable {b : Nat} {ao : Option Addr} {n cap : Nat} {s : PS} {u w : World} {L : List Ent} {At : PS → World → Prop} {x : Rul} {v1 v2 v3 v4 v6 : Value}
theorem Mem.tailed {e : Ent} (M : Mem At b u w s (e :: L)) : ∃ L2, Hid (L2 = L) ∧ Mem At b u w s (e :: L2) := ⟨L, Lib.hid rfl, M⟩
end
section
variable {b : Nat} {ao : Option Addr} {n cap : Nat} {s : PS} {u w : World} {L : List Ent} {At : PS → World → Prop} {x : Rul}

/-- A block that is older than the eye, turned there and here. -/
theorem Mem.under {u' w' : World} {z : Nat} (M : Mem At b u w s L) (hz : z < u.heap.size) (hzb : z ≠ b) (hu : Put z u u') (hw : Put z w w') (hzz : w'.heap[z]? = u'.heap[z]?) : Mem At b u' w' s L := by
  have hne : ∀ k, u.heap.size ≤ k → w'.heap[k]? = w.heap[k]? := fun k hk => hw.rest k (by omega)
  have hf : ∀ k, free_ u w L k → free_ u' w' L k := fun k ⟨h1, h2, h3⟩ => ⟨by rw [hu.size]; exact h1, by rw [hw.size]; exact h2, h3⟩
  refine ⟨M.stay s w w' (hw.rest b (Ne.symm hzb)) M.at_, M.stay, ⟨?_, fun k hk hkb => ?_⟩, by rw [hu.size]; exact M.lt, fun e he => ?_, M.firm, fun e he y hy => ?_, M.apart⟩
  · exact ⟨by rw [hw.os, hu.os]; exact M.but.below.os, by rw [hw.tape, hu.tape]; exact M.but.below.tape, by rw [hw.output, hu.output]; exact M.but.below.output, by rw [hw.size, hu.size]; exact M.but.size, fun k hk => (by
      by_cases hkz : k = z
      · subst hkz; exact hzz
      · rw [hw.rest k hkz, hu.rest k hkz]
        exact M.but.below.block k hk)⟩
  · by_cases hkz : k = z
    · subst hkz; exact hzz
    · rw [hw.rest k hkz, hu.rest k hkz]
      exact M.but.rest k (by rw [← hu.size]; exact hk) hkb
  · refine M.firm e he _ _ _ _ (Nat.le_of_eq hw.size.symm) (fun k _ hk => ⟨hf k hk, hne k hk.1⟩) (fun y hy _ => hne y (M.low e he y hy).1) (fun y hy => (M.low e he y hy).2) (M.say e he)
  · rw [hu.size, hw.size]; exact M.low e he y hy
section
variable {G z2 z7 : Nat} {W : World} {v1 v2 : Value}
end
section
variable {P : Program} {dst : Option Tmp} {oty : TypeId} {pos : String} {after : Array Edge} {g : Option (Nat × Bool)} {l l' : List Value} {ds : List Deferred} {Q : Exit → Act → World → Prop} {K : Act → World → Prop}
variable {j j' p : Nat} {ty : TypeId} {v : Value} {G z2 z7 : Nat} {W : World} {v1 v2 : Value}
end
end
end Go.Proofs.Ytpnhkkjjdcjmgaa
