/-
  DERIVED: THE SHELF's CONTRACTS AT THIS DUMP, IN PLAIN WORDS (tools/lay-plain.mjs out of 'TrydShelf.lean', which tools/lay-shelf.mjs wrote): THE SAME DECLARATIONS UNDER THE SAME NAMES: 'import', 'namespace', 'open', 'def', 'theorem' AND NOTHING ELSE: no command of the shelf's: FOR A HAND-IN. Each laying: the table of numbers ('.._ren') and one theorem, a field a fact of the dump's own or the kernel's comparison; each contract: ONE APPLICATION.
-/
import Derived.Shelf.Small.Strs
import Derived.Ground.Names2Prog
import Derived.Shelf.Slices.SearchI
import Derived.Test.YthlnheckaoeooaaDoorProg
import Derived.Test.YthlnheckaoeooaaDoorValW
import Derived.RegionTactic
import Derived.Deep.RegionWith
import Derived.StillTailTactics
import Derived.Test.YthlnheckaoeooaaDoorValF
import Derived.Test.YthlnheckaoeooaaDoorChkB
import Derived.Test.YthlnheckaoeooaaDoorMmC
import Derived.Test.YthlnheckaoeooaaDoorChkP
import Derived.Test.YthlnheckaoeooaaDoorPgC
import Derived.Test.YthlnheckaoeooaaDoorValX
import Derived.Test.YthlnheckaoeooaaDoorValZ
import Derived.Test.YthlnheckaoeooaaDoorChkO
import Derived.Test.YthlnheckaoeooaaDoorPgI
namespace Go.Proofs
open Go.Shelf
def Tryd.lays106_ren : Go.Shelf.Ren := ⟨fun | 106 => 63 | 213 => 94 | 265 => 107 | n => n, fun | 9 => 9 | 3 => 3 | n => n, fun | n => n⟩
theorem Tryd.lays106 : Go.Proofs.Lays.n106 Tryd.prog Tryd.lays106_ren := {
  mixed := by kernel_rfl
  f106 := Tryd.func63.trans (congrArg some (by kernel_rfl))
  f213 := Tryd.func94.trans (congrArg some (by kernel_rfl))
  f265 := Tryd.func107.trans (congrArg some (by kernel_rfl))
  t3 := Tryd.underlying3
  a3 := Tryd.isAgg3
  z3 := Tryd.sizeOf3
  v3 := Tryd.zeroValue3
  t9 := Tryd.underlying9
  a9 := Tryd.isAgg9
  z9 := Tryd.sizeOf9
  v9 := Tryd.zeroValue9 }
open Go.RowKit in
/-- strings.Compare: "Compare returns an integer comparing two strings lexicographically. The result will be 0 if a == b, -1 if a < b, and +1 if a > b.": IT RETURNS 'Lib.compareBytes a b'; the world is as it was. (LAID: no walk: one application.) -/
theorem Tryd.strings_Compare (a b : ByteArray) (w : World) :
    Calls Tryd.prog 63 #[.string a, .string b] w fun e w' => e = .returned (.int .i64 (Lib.compareBytes a.data.toList b.data.toList)) ∧ w' = w := Any.strings_Compare Tryd.lays106 a b w
end Go.Proofs
/-
  The walks of value.Compare and of its reference.
-/
namespace Go.Proofs.YthlnheckaoeooaaDoor
open Go.RowKit
set_option linter.unusedVariables false
set_option linter.unusedSimpArgs false

/-- The sign of a difference. -/
def sg (x y : Int) : Int := if x < y then -1 else if y < x then 1 else 0
set_option maxHeartbeats 400000 in
theorem sign_any (a b : Int) (w : World) :
    Calls Tryd.prog 101 #[.int .i64 a, .int .i64 b] w fun e w' => e = .returned (.int .i64 (sg a b)) ∧ w' = w := by
  go_enter Tryd.func101, Tryd.ntmps101
  go_wp2
  all_goals (go_ret; refine ⟨?_, rfl⟩; exact ret_int (by go_light; unfold sg; (try simp only [Bool.not_eq_true', Bool.not_eq_false', decide_eq_true_eq, decide_eq_false_iff_not] at *); (repeat' split) <;> omega))
set_option maxHeartbeats 400000 in
theorem cmpInt_any (a b : Int) (w : World) :
    Calls Tryd.prog 62 #[.int .i64 a, .int .i64 b] w fun e w' => e = .returned (.int .i64 (sg a b)) ∧ w' = w := by
  go_enter Tryd.func62, Tryd.ntmps62
  go_wp2
  all_goals (go_ret; refine ⟨?_, rfl⟩; exact ret_int (by go_light; unfold sg; (try simp only [Bool.not_eq_true', Bool.not_eq_false', decide_eq_true_eq, decide_eq_false_iff_not] at *); (repeat' split) <;> omega))
/-- The first of two numbers that is not 0. -/
def orI (x y : Int) : Int := if x = 0 then y else x
def ZeroI (x : Int) : Prop := x = 0
theorem ZeroI.out {x : Int} (h : ZeroI x) : x = 0 := h
set_option maxHeartbeats 400000 in
theorem or_any (x y : Int) (b : Nat) (w : World) (c0 : w.cell? ⟨b, 0, none⟩ = some (.int .i64 x)) (c1 : w.cell? ⟨b, 1, none⟩ = some (.int .i64 y)) :
    Calls Tryd.prog 61 #[.slice (some ⟨b, 0, none⟩) 2 2] w fun e w' => e = .returned (.int .i64 (orI x y)) ∧ w' = w := by
  go_enter Tryd.func61, Tryd.ntmps61
  go_wp2_with fail
  go_loop [8] (fun i => (i = .int .i64 0) ∨ (i = .int .i64 1 ∧ ZeroI x) ∨ (i = .int .i64 2 ∧ ZeroI x ∧ ZeroI y)) (fun i => (2 - intOf i).toNat)
  case atStart => exact Or.inl rfl
  case round =>
    rcases hrel with rfl | ⟨rfl, hx⟩ | ⟨rfl, hx, hy⟩
    · by_cases hx : x = 0
      · have hx1 : (x != 0) = false := by simp [hx]
        have X : ZeroI x := hx
        clear hx
        go_wp2
        go_round
        case rel => exact Or.inr (Or.inl ⟨rfl, X⟩)
        case measure => simp [intOf]
      · have hx1 : (x != 0) = true := by simp [hx]
        have X : Hid (¬ x = 0) := hx
        clear hx
        go_wp2
        go_ret
        exact ⟨ret_int (by simp [orI, X.out]), rfl⟩
    · by_cases hy : y = 0
      · have hy1 : (y != 0) = false := by simp [hy]
        have Y : ZeroI y := hy
        clear hy
        go_wp2
        go_round
        case rel => exact Or.inr (Or.inr ⟨rfl, hx, Y⟩)
        case measure => simp [intOf]
      · have hy1 : (y != 0) = true := by simp [hy]
        clear hy
        go_wp2
        go_ret
        have := hx.out
        exact ⟨ret_int (by simp [orI, this]), rfl⟩
    · go_wp2
      go_ret
      have h1 := hx.out
      have h2 := hy.out
      exact ⟨ret_int (by simp [orI, h1, h2]), rfl⟩

theorem compare_bytes (a b : List UInt8) : Lib.compareBytes a b = if (a == b) = true then 0 else if Op.bytesLess a b = true then -1 else 1 := by
  induction a generalizing b with
  | nil => cases b <;> simp [Lib.compareBytes, Op.bytesLess]
  | cons x xs ih =>
    cases b with
    | nil => simp [Lib.compareBytes, Op.bytesLess]
    | cons y ys =>
      simp only [Lib.compareBytes, Op.bytesLess, ih ys]
      by_cases h1 : x < y
      · have hne : ¬ x = y := fun e => by subst e; exact absurd h1 (UInt8.lt_irrefl x)
        simp [h1, hne]
      · by_cases h2 : y < x
        · have hne : ¬ x = y := fun e => by subst e; exact absurd h2 (UInt8.lt_irrefl x)
          simp [h1, h2, hne]
        · have he : x = y := UInt8.le_antisymm (UInt8.not_lt.1 h2) (UInt8.not_lt.1 h1)
          subst he
          simp [h1]

/-- Two values, compared. -/
def cmpV (a b : Val) : Int := orI (sg a.int b.int) (Lib.compareBytes a.text.data.toList b.text.data.toList)
def cmpE (a b : Val) : Int := if valE a = 0 then (if valE b = 0 then (if a.kind = b.kind then 0 else 13) else valE b) else valE a
def cmpX (a b : Val) : Int := if cmpE a b = 0 then cmpV a b else 0
theorem cmpV_int {a b : Val} (ha : valE a = 0) (hb : valE b = 0) (hk : a.kind = b.kind) (h1 : a.kind = 1) : cmpV a b = sg a.int b.int := by
  have e1 : a.text.data.toList = [] := by
    unfold valE at ha; rw [if_pos h1] at ha
    have : a.text.size = 0 := by (repeat' split at ha) <;> omega
    have h := (size_toList a.text).2 this
    rwa [ByteArray.toList_eq] at h
  have e2 : b.text.data.toList = [] := by
    unfold valE at hb; rw [if_pos (hk ▸ h1)] at hb
    have : b.text.size = 0 := by (repeat' split at hb) <;> omega
    have h := (size_toList b.text).2 this
    rwa [ByteArray.toList_eq] at h
  unfold cmpV orI
  rw [e1, e2]
  simp only [Lib.compareBytes]
  split <;> simp_all
theorem cmpV_text {a b : Val} (ha : valE a = 0) (hb : valE b = 0) (hk : a.kind = b.kind) (h1 : ¬ a.kind = 1) : cmpV a b = Lib.compareBytes a.text.data.toList b.text.data.toList := by
  have e1 : a.int = 0 := by
    unfold valE at ha; rw [if_neg h1] at ha; (repeat' split at ha) <;> omega
  have e2 : b.int = 0 := by
    unfold valE at hb; rw [if_neg (hk ▸ h1)] at hb; (repeat' split at hb) <;> omega
  simp [cmpV, orI, e1, e2, sg]

set_option maxHeartbeats 1000000 in
theorem ordered_any (a b : Val) (w : World) (ha : valE a = 0) (hb : valE b = 0) (hk : a.kind = b.kind) :
    Calls Tryd.prog 75 #[.agg #[.int .i64 a.kind, .int .i64 a.int, .string a.text], .agg #[.int .i64 b.kind, .int .i64 b.int, .string b.text]] w fun e w' => e = .returned (.int .i64 (cmpV a b)) ∧ Below w.heap.size w w' := by
  by_cases h1 : a.kind = 1
  · have q1 : (a.kind == 1) = true := by simp [h1]
    have V : Hid (cmpV a b = sg a.int b.int) := cmpV_int ha hb hk h1
    clear ha hb hk h1
    go_enter Tryd.func75, Tryd.ntmps75
    go_wp2_with (go_at_call 101; refine (sign_any _ _ _).mono ?_; rintro e w' ⟨rfl, rfl⟩)
    go_ret
    exact ⟨ret_int V.out.symm, (by repeat (first | exact Below.refl _ _ | assumption | refine below_step ?_ (by assumption) | refine below_step ?_ (Joins.below_draws _ _ _) | (refine Below.alloc ?_ (by first | omega | (simp; done) | (simp; omega)) _) | (refine Below.setCell ?_ (by first | omega | (simp; done) | (simp; omega)) _) | refine Below.drew ?_))⟩
  · have q1 : (a.kind == 1) = false := by simp [h1]
    have V : Hid (cmpV a b = if (a.text.toList == b.text.toList) = true then 0 else if Op.bytesLess a.text.toList b.text.toList = true then -1 else 1) := by
      show _ = _
      rw [cmpV_text ha hb hk h1, compare_bytes, ByteArray.toList_eq, ByteArray.toList_eq]
    clear ha hb hk h1
    cases he : (a.text.toList == b.text.toList) <;> cases hl : Op.bytesLess a.text.toList b.text.toList
    all_goals
      go_enter Tryd.func75, Tryd.ntmps75
      go_wp2
      go_ret
      exact ⟨ret_int (by rw [V.out, he, hl]; simp), (by repeat (first | exact Below.refl _ _ | assumption | refine below_step ?_ (by assumption) | refine below_step ?_ (Joins.below_draws _ _ _) | (refine Below.alloc ?_ (by first | omega | (simp; done) | (simp; omega)) _) | (refine Below.setCell ?_ (by first | omega | (simp; done) | (simp; omega)) _) | refine Below.drew ?_))⟩

set_option maxRecDepth 8000 in
set_option maxHeartbeats 2000000 in
theorem compare_any (a b : Val) (w : World) (ha : a.text.size ≤ maxLen) (hb : b.text.size ≤ maxLen) :
    Calls Tryd.prog 29 #[.agg #[.int .i64 a.kind, .int .i64 a.int, .string a.text], .agg #[.int .i64 b.kind, .int .i64 b.int, .string b.text]] w fun e w' => e = .returned (.tuple #[.int .i64 (cmpX a b), .int .i64 (cmpE a b)]) ∧ Below w.heap.size w w' := by
  have i0 : ∀ w, (Instr.index 133 (.agg #[.int .i64 a.kind, .int .i64 a.int, .string a.text, .int .i64 b.kind, .int .i64 b.int, .string b.text]) (.int .i64 0)).run Tryd.prog w = .ok (.agg #[.int .i64 a.kind, .int .i64 a.int, .string a.text]) w := fun _ => by kernel_rfl
  have i1 : ∀ w, (Instr.index 133 (.agg #[.int .i64 a.kind, .int .i64 a.int, .string a.text, .int .i64 b.kind, .int .i64 b.int, .string b.text]) (.int .i64 1)).run Tryd.prog w = .ok (.agg #[.int .i64 b.kind, .int .i64 b.int, .string b.text]) w := fun _ => by kernel_rfl
  go_enter Tryd.func29, Tryd.ntmps29
  go_wp2_with fail
  go_loopw [12] (fun i wr => ((i = .int .i64 0) ∨ (i = .int .i64 1 ∧ ZeroI (valE a)) ∨ (i = .int .i64 2 ∧ ZeroI (valE a) ∧ ZeroI (valE b))) ∧ Below ((w.alloc (.cells #[.int .i64 a.kind, .int .i64 a.int, .string a.text] 44)).alloc (.cells #[.int .i64 b.kind, .int .i64 b.int, .string b.text] 44)).heap.size ((w.alloc (.cells #[.int .i64 a.kind, .int .i64 a.int, .string a.text] 44)).alloc (.cells #[.int .i64 b.kind, .int .i64 b.int, .string b.text] 44)) wr) (fun i _ => (2 - intOf i).toNat)
  case atStart => exact ⟨Or.inl rfl, Below.refl _ _⟩
  case round =>
    obtain ⟨hrel, hbr⟩ := hrel
    obtain ⟨hc_wr, hf_wr⟩ := bcell hbr; have hs_wr := hbr.size; (try simp only [World.size_alloc, World.size_drew, World.size_setCell] at hs_wr); (try simp only [World.size_drew, World.cell?_drew, World.frozen?_drew] at hc_wr hf_wr); have z0_wr : w.heap.size < wr.heap.size := (by omega); have z1_wr : w.heap.size + 1 < wr.heap.size := (by omega)
    rcases hrel with rfl | ⟨rfl, hx⟩ | ⟨rfl, hx, hy⟩
    · by_cases hx : valE a = 0
      · have hx1 : (valE a != 0) = false := by simp [hx]
        have X : ZeroI (valE a) := hx
        clear hx
        go_wp2_with fail
        refine (valCheck_any _ _ _ _ ha).mono ?_
        rintro e w1 ⟨rfl, hb1⟩
        go_wp2
        go_roundw
        case rel => exact ⟨Or.inr (Or.inl ⟨rfl, X⟩), (by repeat (first | exact Below.refl _ _ | assumption | refine below_step ?_ (by assumption) | refine below_step ?_ (Joins.below_draws _ _ _) | (refine Below.alloc ?_ (by first | omega | (simp; done) | (simp; omega)) _) | (refine Below.setCell ?_ (by first | omega | (simp; done) | (simp; omega)) _) | refine Below.drew ?_))⟩
        case measure => simp [intOf]
      · have hx1 : (valE a != 0) = true := by simp [hx]
        have X : Hid (¬ valE a = 0) := hx
        clear hx
        go_wp2_with fail
        refine (valCheck_any _ _ _ _ ha).mono ?_
        rintro e w1 ⟨rfl, hb1⟩
        go_wp2
        go_ret2
        have he : cmpE a b = valE a := by simp [cmpE, X.out]
        exact ⟨ret_ii (by simp [cmpX, he, X.out]) he.symm, (by repeat (first | exact Below.refl _ _ | assumption | refine below_step ?_ (by assumption) | refine below_step ?_ (Joins.below_draws _ _ _) | (refine Below.alloc ?_ (by first | omega | (simp; done) | (simp; omega)) _) | (refine Below.setCell ?_ (by first | omega | (simp; done) | (simp; omega)) _) | refine Below.drew ?_))⟩
    · by_cases hy : valE b = 0
      · have hx1 : (valE b != 0) = false := by simp [hy]
        have X : ZeroI (valE b) := hy
        clear hy
        go_wp2_with fail
        refine (valCheck_any _ _ _ _ hb).mono ?_
        rintro e w1 ⟨rfl, hb1⟩
        go_wp2
        go_roundw
        case rel => exact ⟨Or.inr (Or.inr ⟨rfl, hx, X⟩), (by repeat (first | exact Below.refl _ _ | assumption | refine below_step ?_ (by assumption) | refine below_step ?_ (Joins.below_draws _ _ _) | (refine Below.alloc ?_ (by first | omega | (simp; done) | (simp; omega)) _) | (refine Below.setCell ?_ (by first | omega | (simp; done) | (simp; omega)) _) | refine Below.drew ?_))⟩
        case measure => simp [intOf]
      · have hx1 : (valE b != 0) = true := by simp [hy]
        have X : Hid (¬ valE b = 0) := hy
        clear hy
        go_wp2_with fail
        refine (valCheck_any _ _ _ _ hb).mono ?_
        rintro e w1 ⟨rfl, hb1⟩
        go_wp2
        go_ret2
        have ha0 := hx.out
        have he : cmpE a b = valE b := by simp [cmpE, ha0, X.out]
        exact ⟨ret_ii (by simp [cmpX, he, X.out]) he.symm, (by repeat (first | exact Below.refl _ _ | assumption | refine below_step ?_ (by assumption) | refine below_step ?_ (Joins.below_draws _ _ _) | (refine Below.alloc ?_ (by first | omega | (simp; done) | (simp; omega)) _) | (refine Below.setCell ?_ (by first | omega | (simp; done) | (simp; omega)) _) | refine Below.drew ?_))⟩
    · by_cases hk : a.kind = b.kind
      · have k1 : (a.kind != b.kind) = false := by simp [hk]
        have K : Hid (a.kind = b.kind) := hk
        clear hk
        obtain ⟨wo, rfl⟩ : ∃ wo : World, wo = wr := ⟨_, rfl⟩
        have cA : ((wo.alloc (.cells #[.int .i64 (sg a.int b.int), .int .i64 (Lib.compareBytes a.text.data.toList b.text.data.toList)] 3)).drew).cell? ⟨wo.heap.size, 0, none⟩ = some (.int .i64 (sg a.int b.int)) := by simp
        have cB : ((wo.alloc (.cells #[.int .i64 (sg a.int b.int), .int .i64 (Lib.compareBytes a.text.data.toList b.text.data.toList)] 3)).drew).cell? ⟨wo.heap.size, 1, none⟩ = some (.int .i64 (Lib.compareBytes a.text.data.toList b.text.data.toList)) := by simp
        go_wp2_with fail
        go_still_tail 10, (by kernel_rfl)
        still_call (cmpInt_any _ _ _)
        repeat still_step
        still_call (Tryd.strings_Compare _ _ _)
        refine wpStill_nil ?_
        change wpList _ _ _ _ _ wo.drew
        go_wp2_with (go_at_call 61; refine (or_any _ _ _ _ cA cB).mono ?_; rintro e w' ⟨rfl, rfl⟩)
        go_ret2
        have ha0 := hx.out
        have hb0 := hy.out
        have he : cmpE a b = 0 := by simp [cmpE, ha0, hb0, K.out]
        exact ⟨ret_ii (by simp [cmpX, he, cmpV]) he.symm, (by repeat (first | exact Below.refl _ _ | assumption | refine below_step ?_ (by assumption) | refine below_step ?_ (Joins.below_draws _ _ _) | (refine Below.alloc ?_ (by first | omega | (simp; done) | (simp; omega)) _) | (refine Below.setCell ?_ (by first | omega | (simp; done) | (simp; omega)) _) | refine Below.drew ?_))⟩
      · have k1 : (a.kind != b.kind) = true := by simp [hk]
        have K : Hid (¬ a.kind = b.kind) := hk
        clear hk
        go_wp2
        go_ret2
        have ha0 := hx.out
        have hb0 := hy.out
        have he : cmpE a b = 13 := by simp [cmpE, ha0, hb0, K.out]
        exact ⟨ret_ii (by simp [cmpX, he]) he.symm, (by repeat (first | exact Below.refl _ _ | assumption | refine below_step ?_ (by assumption) | refine below_step ?_ (Joins.below_draws _ _ _) | (refine Below.alloc ?_ (by first | omega | (simp; done) | (simp; omega)) _) | (refine Below.setCell ?_ (by first | omega | (simp; done) | (simp; omega)) _) | refine Below.drew ?_))⟩
end Go.Proofs.YthlnheckaoeooaaDoor
/-
  The walks of a span's and a time's check.
-/
namespace Go.Proofs.YthlnheckaoeooaaDoor
open Go.RowKit
set_option linter.unusedVariables false
set_option linter.unusedSimpArgs false

/-- What a span is refused for (0: nothing). -/
def spanE (a b : Int) : Int := if (0 ≤ a ∧ a ≤ 1099511627776) ∧ (0 ≤ b ∧ b ≤ 1099511627776) then (if b < a then 11 else 0) else 2
set_option maxHeartbeats 400000 in
theorem span_any (a b : Int) (w : World) :
    Calls Tryd.prog 27 #[.agg #[.int .i64 a, .int .i64 b]] w fun e w' => e = .returned (.int .i64 (spanE a b)) ∧ Below w.heap.size w w' := by
  go_enter Tryd.func27, Tryd.ntmps27
  go_wp2
  all_goals (go_ret; refine ⟨?_, (by repeat (first | exact Below.refl _ _ | assumption | refine below_step ?_ (by assumption) | refine below_step ?_ (Joins.below_draws _ _ _) | (refine Below.alloc ?_ (by first | omega | (simp; done) | (simp; omega)) _) | (refine Below.setCell ?_ (by first | omega | (simp; done) | (simp; omega)) _) | refine Below.drew ?_))⟩; exact ret_int (by go_light; unfold spanE; (try simp only [Bool.not_eq_true', Bool.not_eq_false', decide_eq_true_eq, decide_eq_false_iff_not] at *); (repeat' split) <;> omega))
set_option maxHeartbeats 400000 in
theorem spanFault_any (a b : Int) (w : World) :
    Calls Tryd.prog 36 #[.agg #[.int .i64 a, .int .i64 b]] w fun e w' => e = .returned (.int .i64 (spanE a b)) ∧ Below w.heap.size w w' := by
  go_enter Tryd.func36, Tryd.ntmps36
  go_wp2
  all_goals (go_ret; refine ⟨?_, (by repeat (first | exact Below.refl _ _ | assumption | refine below_step ?_ (by assumption) | refine below_step ?_ (Joins.below_draws _ _ _) | (refine Below.alloc ?_ (by first | omega | (simp; done) | (simp; omega)) _) | (refine Below.setCell ?_ (by first | omega | (simp; done) | (simp; omega)) _) | refine Below.drew ?_))⟩; exact ret_int (by go_light; unfold spanE; (try simp only [Bool.not_eq_true', Bool.not_eq_false', decide_eq_true_eq, decide_eq_false_iff_not] at *); (repeat' split) <;> omega))
end Go.Proofs.YthlnheckaoeooaaDoor
/-
  The walks of value.CheckEvent and of its reference.
-/
namespace Go.Proofs.YthlnheckaoeooaaDoor
open Go.RowKit
set_option linter.unusedVariables false
set_option linter.unusedSimpArgs false

instance : Inhabited Typ := ⟨⟨ByteArray.empty, []⟩⟩
def typR : World → List Value → Typ → Prop := fun w row t => ∃ ao n cap, row = [.string t.name, .slice ao n cap] ∧ t.name.size ≤ maxLen ∧ SlR w 2 fldR ao n cap t.fields
theorem typR_stays : Stays typR := fun w w' row t hb ⟨ao, n, cap, e, h1, h2⟩ => ⟨ao, n, cap, e, h1, h2.mono fldR_stays hb⟩
theorem size_type : SizeIs Tryd.prog 68 2 := fun w => by kernel_rfl

/-- An event. -/
structure Evt where
  number : Int
  type : Int
  start : Int
  stop : Int
def Evt.val (x : Evt) (v : Value) : Value := .agg #[.int .i64 x.number, .int .i64 x.type, .int .i64 x.start, .int .i64 x.stop, v]
/-- What an event is refused for. -/
def eventE (ts : List Typ) (x : Evt) (vs : List Val) : Int :=
  if 1 ≤ x.number ∧ x.number ≤ 1048576 then
    (if 0 ≤ x.type ∧ x.type < ts.length then (if spanE x.start x.stop = 0 then fitE (ts.getD x.type.toNat default).name (ts.getD x.type.toNat default).fields vs else spanE x.start x.stop) else 6) else 2

set_option maxHeartbeats 2000000 in
theorem event_any (tq : Option Addr) (tn tcap : Nat) (ts : List Typ) (x : Evt) (vo : Option Addr) (m vcap : Nat) (vs : List Val) (w : World) (hT : SlR w 2 typR tq tn tcap ts) (hV : SlR w 3 valR vo m vcap vs) :
    Calls Tryd.prog 12 #[.slice tq tn tcap, x.val (.slice vo m vcap)] w fun e' w' => e' = .returned (.int .i64 (eventE ts x vs)) ∧ Below w.heap.size w w' := by
  have TL : Hid (tn = ts.length) := hT.len
  have hvle := hV.le
  have htle := hT.le
  have hd : Below w.heap.size w (w.alloc (.cells #[.int .i64 x.number, .int .i64 x.type, .int .i64 x.start, .int .i64 x.stop, .slice vo m vcap] 30)) := Joins.below_alloc1 _ _
  have hV1 := hV.mono valR_stays hd
  have hT1 := hT.mono typR_stays hd
  unfold Evt.val
  by_cases hn : 1 ≤ x.number ∧ x.number ≤ 1048576
  · have N1 : Hid (1 ≤ x.number ∧ x.number ≤ 1048576) := hn
    have n1 : decide (x.number < 1) = false := by simp; omega
    have n2 : decide ((1048576 : Int) < x.number) = false := by simp; omega
    have n3 : inB x.number 1 1048576 = true := inB_true.2 hn
    clear hn
    by_cases ht : 0 ≤ x.type ∧ x.type < tn
    · generalize hxt : x.type = xt at *
      obtain ⟨j, rfl⟩ := Int.eq_ofNat_of_zero_le ht.1
      have hjt : j < ts.length := by have := TL.out; omega
      have T1 : Hid (0 ≤ x.type ∧ x.type < ts.length) := by have := TL.out; rw [hxt]; exact ⟨ht.1, by omega⟩
      have TJ : Hid (ts.getD x.type.toNat default = ts[j]) := by show _ = _; rw [hxt]; simp [List.getD, List.getElem?_eq_getElem hjt]
      have t1 : decide ((j : Int) < 0) = false := by simp
      have t2 : decide ((tn : Int) ≤ (j : Int)) = false := by simp; omega
      have t3 : inB (j : Int) 0 ((tn : Int) - 1) = true := by rw [inB_true]; omega
      have hjn : j < tn := by omega
      obtain ⟨b, off, row, hix, hblt, hrow, ⟨ao, n, cap, rfl, hnm, hF⟩⟩ := hT1.index (P := Tryd.prog) Tryd.underlying22 size_type hjt
      obtain ⟨c0, c1⟩ := hrow.two
      clear hxt ht
      by_cases hs : spanE x.start x.stop = 0
      · have hs1 : (spanE x.start x.stop != 0) = false := by simp [hs]
        have hs2 : (spanE x.start x.stop == 0) = true := by simp [hs]
        have S0 : Hid (spanE x.start x.stop = 0) := hs
        clear hs
        go_enter Tryd.func12, Tryd.ntmps12
        go_wp2_with fail
        refine (span_any _ _ _).mono ?_
        rintro e w1 ⟨rfl, hb1⟩
        obtain ⟨hc_w1, hf_w1⟩ := bcell hb1; have hs_w1 := hb1.size; (try simp only [World.size_alloc, World.size_drew, World.size_setCell] at hs_w1); (try simp only [World.size_drew, World.cell?_drew, World.frozen?_drew] at hc_w1 hf_w1); have z0_w1 : w.heap.size < w1.heap.size := (by omega)
        have hF1 := hF.mono fldR_stays hb1
        have hV2 := hV1.mono valR_stays hb1
        have d0 : w1.cell? ⟨b, off + j * 2, none⟩ = some (.string ts[j].name) := (hb1.cell (p := ⟨b, off + j * 2, none⟩) hblt).trans c0
        have d1 : w1.cell? ⟨b, off + j * 2 + 1, none⟩ = some (.slice ao n cap) := (hb1.cell (p := ⟨b, off + j * 2 + 1, none⟩) hblt).trans c1
        go_wp2_with fail
        go_region_with (go_at_call 28; refine (fit_any ts[j].name ao n cap ts[j].fields vo m vcap vs _ hnm (hF1.mono fldR_stays ((Below.refl _ _).drew)) (hV2.mono valR_stays ((Below.refl _ _).drew))).mono ?_; rintro e w2 ⟨rfl, hb2⟩)
        all_goals
          go_wp2
          go_ret
          exact ⟨ret_int (by simp only [eventE, if_pos N1.out, if_pos T1.out, if_pos S0.out, TJ.out]), below_step (below_step hd hb1) (((Below.refl _ _).drew).trans hb2)⟩
      · have hs1 : (spanE x.start x.stop != 0) = true := by simp [hs]
        have hs2 : (spanE x.start x.stop == 0) = false := by simp [hs]
        have S0 : Hid (¬ spanE x.start x.stop = 0) := hs
        clear hs
        go_enter Tryd.func12, Tryd.ntmps12
        go_wp2_with fail
        refine (span_any _ _ _).mono ?_
        rintro e w1 ⟨rfl, hb1⟩
        go_wp2
        go_ret
        exact ⟨ret_int (by simp only [eventE, if_pos N1.out, if_pos T1.out, if_neg S0.out]), (by repeat (first | exact Below.refl _ _ | assumption | refine below_step ?_ (by assumption) | refine below_step ?_ (Joins.below_draws _ _ _) | (refine Below.alloc ?_ (by first | omega | (simp; done) | (simp; omega)) _) | (refine Below.setCell ?_ (by first | omega | (simp; done) | (simp; omega)) _) | refine Below.drew ?_))⟩
    · have T1 : Hid (¬ (0 ≤ x.type ∧ x.type < ts.length)) := by have := TL.out; intro h; exact ht ⟨h.1, by omega⟩
      by_cases ht0 : x.type < 0
      · have t1 : decide (x.type < 0) = true := by simp; omega
        have t3 : inB x.type 0 ((tn : Int) - 1) = false := by rw [inB_false]; omega
        clear ht
        go_enter Tryd.func12, Tryd.ntmps12
        go_wp2
        go_ret
        exact ⟨ret_int (by simp only [eventE, if_pos N1.out, if_neg T1.out]), (by repeat (first | exact Below.refl _ _ | assumption | refine below_step ?_ (by assumption) | refine below_step ?_ (Joins.below_draws _ _ _) | (refine Below.alloc ?_ (by first | omega | (simp; done) | (simp; omega)) _) | (refine Below.setCell ?_ (by first | omega | (simp; done) | (simp; omega)) _) | refine Below.drew ?_))⟩
      · have t1 : decide (x.type < 0) = false := by simp; omega
        have t2 : decide ((tn : Int) ≤ x.type) = true := by simp; omega
        have t3 : inB x.type 0 ((tn : Int) - 1) = false := by rw [inB_false]; omega
        clear ht
        go_enter Tryd.func12, Tryd.ntmps12
        go_wp2
        go_ret
        exact ⟨ret_int (by simp only [eventE, if_pos N1.out, if_neg T1.out]), (by repeat (first | exact Below.refl _ _ | assumption | refine below_step ?_ (by assumption) | refine below_step ?_ (Joins.below_draws _ _ _) | (refine Below.alloc ?_ (by first | omega | (simp; done) | (simp; omega)) _) | (refine Below.setCell ?_ (by first | omega | (simp; done) | (simp; omega)) _) | refine Below.drew ?_))⟩
  · have N1 : Hid (¬ (1 ≤ x.number ∧ x.number ≤ 1048576)) := hn
    have n3 : inB x.number 1 1048576 = false := inB_false.2 hn
    by_cases hn0 : x.number < 1
    · have n1 : decide (x.number < 1) = true := by simp; omega
      clear hn
      go_enter Tryd.func12, Tryd.ntmps12
      go_wp2
      go_ret
      exact ⟨ret_int (by simp only [eventE, if_neg N1.out]), (by repeat (first | exact Below.refl _ _ | assumption | refine below_step ?_ (by assumption) | refine below_step ?_ (Joins.below_draws _ _ _) | (refine Below.alloc ?_ (by first | omega | (simp; done) | (simp; omega)) _) | (refine Below.setCell ?_ (by first | omega | (simp; done) | (simp; omega)) _) | refine Below.drew ?_))⟩
    · have n1 : decide (x.number < 1) = false := by simp; omega
      have n2 : decide ((1048576 : Int) < x.number) = true := by simp; omega
      clear hn
      go_enter Tryd.func12, Tryd.ntmps12
      go_wp2
      go_ret
      exact ⟨ret_int (by simp only [eventE, if_neg N1.out]), (by repeat (first | exact Below.refl _ _ | assumption | refine below_step ?_ (by assumption) | refine below_step ?_ (Joins.below_draws _ _ _) | (refine Below.alloc ?_ (by first | omega | (simp; done) | (simp; omega)) _) | (refine Below.setCell ?_ (by first | omega | (simp; done) | (simp; omega)) _) | refine Below.drew ?_))⟩

set_option maxHeartbeats 2000000 in
theorem eventFault_any (tq : Option Addr) (tn tcap : Nat) (ts : List Typ) (x : Evt) (vo : Option Addr) (m vcap : Nat) (vs : List Val) (w : World) (hT : SlR w 2 typR tq tn tcap ts) (hV : SlR w 3 valR vo m vcap vs) :
    Calls Tryd.prog 16 #[.slice tq tn tcap, x.val (.slice vo m vcap)] w fun e' w' => e' = .returned (.int .i64 (eventE ts x vs)) ∧ Below w.heap.size w w' := by
  have TL : Hid (tn = ts.length) := hT.len
  have hvle := hV.le
  have htle := hT.le
  have hd : Below w.heap.size w (w.alloc (.cells #[.int .i64 x.number, .int .i64 x.type, .int .i64 x.start, .int .i64 x.stop, .slice vo m vcap] 30)) := Joins.below_alloc1 _ _
  have hV1 := hV.mono valR_stays hd
  have hT1 := hT.mono typR_stays hd
  unfold Evt.val
  by_cases hn : 1 ≤ x.number ∧ x.number ≤ 1048576
  · have N1 : Hid (1 ≤ x.number ∧ x.number ≤ 1048576) := hn
    have n1 : decide (x.number < 1) = false := by simp; omega
    have n2 : decide ((1048576 : Int) < x.number) = false := by simp; omega
    have n3 : inB x.number 1 1048576 = true := inB_true.2 hn
    clear hn
    by_cases ht : 0 ≤ x.type ∧ x.type < tn
    · generalize hxt : x.type = xt at *
      obtain ⟨j, rfl⟩ := Int.eq_ofNat_of_zero_le ht.1
      have hjt : j < ts.length := by have := TL.out; omega
      have T1 : Hid (0 ≤ x.type ∧ x.type < ts.length) := by have := TL.out; rw [hxt]; exact ⟨ht.1, by omega⟩
      have TJ : Hid (ts.getD x.type.toNat default = ts[j]) := by show _ = _; rw [hxt]; simp [List.getD, List.getElem?_eq_getElem hjt]
      have t1 : decide ((j : Int) < 0) = false := by simp
      have t2 : decide ((tn : Int) ≤ (j : Int)) = false := by simp; omega
      have t3 : inB (j : Int) 0 ((tn : Int) - 1) = true := by rw [inB_true]; omega
      have hjn : j < tn := by omega
      obtain ⟨b, off, row, hix, hblt, hrow, ⟨ao, n, cap, rfl, hnm, hF⟩⟩ := hT1.index (P := Tryd.prog) Tryd.underlying22 size_type hjt
      obtain ⟨c0, c1⟩ := hrow.two
      clear hxt ht
      by_cases hs : spanE x.start x.stop = 0
      · have hs1 : (spanE x.start x.stop != 0) = false := by simp [hs]
        have hs2 : (spanE x.start x.stop == 0) = true := by simp [hs]
        have S0 : Hid (spanE x.start x.stop = 0) := hs
        clear hs
        go_enter Tryd.func16, Tryd.ntmps16
        go_wp2_with (go_at_call 15; refine (in_any _ _ _ _).mono ?_; rintro e w' ⟨rfl, rfl⟩)
        refine (spanFault_any _ _ _).mono ?_
        rintro e w1 ⟨rfl, hb1⟩
        obtain ⟨hc_w1, hf_w1⟩ := bcell hb1; have hs_w1 := hb1.size; (try simp only [World.size_alloc, World.size_drew, World.size_setCell] at hs_w1); (try simp only [World.size_drew, World.cell?_drew, World.frozen?_drew] at hc_w1 hf_w1); have z0_w1 : w.heap.size < w1.heap.size := (by omega)
        have hF1 := hF.mono fldR_stays hb1
        have hV2 := hV1.mono valR_stays hb1
        have d0 : w1.cell? ⟨b, off + j * 2, none⟩ = some (.string ts[j].name) := (hb1.cell (p := ⟨b, off + j * 2, none⟩) hblt).trans c0
        have d1 : w1.cell? ⟨b, off + j * 2 + 1, none⟩ = some (.slice ao n cap) := (hb1.cell (p := ⟨b, off + j * 2 + 1, none⟩) hblt).trans c1
        go_wp2_with fail
        go_region_with (go_at_call 37; refine (fitFault_any ts[j].name ao n cap ts[j].fields vo m vcap vs _ hnm (hF1.mono fldR_stays ((Below.refl _ _).drew)) (hV2.mono valR_stays ((Below.refl _ _).drew))).mono ?_; rintro e w2 ⟨rfl, hb2⟩)
        all_goals
          go_wp2
          go_ret
          exact ⟨ret_int (by simp only [eventE, if_pos N1.out, if_pos T1.out, if_pos S0.out, TJ.out]), below_step (below_step hd hb1) (((Below.refl _ _).drew).trans hb2)⟩
      · have hs1 : (spanE x.start x.stop != 0) = true := by simp [hs]
        have hs2 : (spanE x.start x.stop == 0) = false := by simp [hs]
        have S0 : Hid (¬ spanE x.start x.stop = 0) := hs
        clear hs
        go_enter Tryd.func16, Tryd.ntmps16
        go_wp2_with (go_at_call 15; refine (in_any _ _ _ _).mono ?_; rintro e w' ⟨rfl, rfl⟩)
        refine (spanFault_any _ _ _).mono ?_
        rintro e w1 ⟨rfl, hb1⟩
        go_wp2
        go_ret
        exact ⟨ret_int (by simp only [eventE, if_pos N1.out, if_pos T1.out, if_neg S0.out]), (by repeat (first | exact Below.refl _ _ | assumption | refine below_step ?_ (by assumption) | refine below_step ?_ (Joins.below_draws _ _ _) | (refine Below.alloc ?_ (by first | omega | (simp; done) | (simp; omega)) _) | (refine Below.setCell ?_ (by first | omega | (simp; done) | (simp; omega)) _) | refine Below.drew ?_))⟩
    · have T1 : Hid (¬ (0 ≤ x.type ∧ x.type < ts.length)) := by have := TL.out; intro h; exact ht ⟨h.1, by omega⟩
      by_cases ht0 : x.type < 0
      · have t1 : decide (x.type < 0) = true := by simp; omega
        have t3 : inB x.type 0 ((tn : Int) - 1) = false := by rw [inB_false]; omega
        clear ht
        go_enter Tryd.func16, Tryd.ntmps16
        go_wp2_with (go_at_call 15; refine (in_any _ _ _ _).mono ?_; rintro e w' ⟨rfl, rfl⟩)
        go_ret
        exact ⟨ret_int (by simp only [eventE, if_pos N1.out, if_neg T1.out]), (by repeat (first | exact Below.refl _ _ | assumption | refine below_step ?_ (by assumption) | refine below_step ?_ (Joins.below_draws _ _ _) | (refine Below.alloc ?_ (by first | omega | (simp; done) | (simp; omega)) _) | (refine Below.setCell ?_ (by first | omega | (simp; done) | (simp; omega)) _) | refine Below.drew ?_))⟩
      · have t1 : decide (x.type < 0) = false := by simp; omega
        have t2 : decide ((tn : Int) ≤ x.type) = true := by simp; omega
        have t3 : inB x.type 0 ((tn : Int) - 1) = false := by rw [inB_false]; omega
        clear ht
        go_enter Tryd.func16, Tryd.ntmps16
        go_wp2_with (go_at_call 15; refine (in_any _ _ _ _).mono ?_; rintro e w' ⟨rfl, rfl⟩)
        go_ret
        exact ⟨ret_int (by simp only [eventE, if_pos N1.out, if_neg T1.out]), (by repeat (first | exact Below.refl _ _ | assumption | refine below_step ?_ (by assumption) | refine below_step ?_ (Joins.below_draws _ _ _) | (refine Below.alloc ?_ (by first | omega | (simp; done) | (simp; omega)) _) | (refine Below.setCell ?_ (by first | omega | (simp; done) | (simp; omega)) _) | refine Below.drew ?_))⟩
  · have N1 : Hid (¬ (1 ≤ x.number ∧ x.number ≤ 1048576)) := hn
    have n3 : inB x.number 1 1048576 = false := inB_false.2 hn
    by_cases hn0 : x.number < 1
    · have n1 : decide (x.number < 1) = true := by simp; omega
      clear hn
      go_enter Tryd.func16, Tryd.ntmps16
      go_wp2_with (go_at_call 15; refine (in_any _ _ _ _).mono ?_; rintro e w' ⟨rfl, rfl⟩)
      go_ret
      exact ⟨ret_int (by simp only [eventE, if_neg N1.out]), (by repeat (first | exact Below.refl _ _ | assumption | refine below_step ?_ (by assumption) | refine below_step ?_ (Joins.below_draws _ _ _) | (refine Below.alloc ?_ (by first | omega | (simp; done) | (simp; omega)) _) | (refine Below.setCell ?_ (by first | omega | (simp; done) | (simp; omega)) _) | refine Below.drew ?_))⟩
    · have n1 : decide (x.number < 1) = false := by simp; omega
      have n2 : decide ((1048576 : Int) < x.number) = true := by simp; omega
      clear hn
      go_enter Tryd.func16, Tryd.ntmps16
      go_wp2_with (go_at_call 15; refine (in_any _ _ _ _).mono ?_; rintro e w' ⟨rfl, rfl⟩)
      go_ret
      exact ⟨ret_int (by simp only [eventE, if_neg N1.out]), (by repeat (first | exact Below.refl _ _ | assumption | refine below_step ?_ (by assumption) | refine below_step ?_ (Joins.below_draws _ _ _) | (refine Below.alloc ?_ (by first | omega | (simp; done) | (simp; omega)) _) | (refine Below.setCell ?_ (by first | omega | (simp; done) | (simp; omega)) _) | refine Below.drew ?_))⟩
end Go.Proofs.YthlnheckaoeooaaDoor
/-
  Lists of events checked against a book, in plain Lean; their rows of cells.
-/
namespace Go.Proofs.YthlnheckaoeooaaDoor
open Go.RowKit
set_option linter.unusedVariables false
set_option linter.unusedSimpArgs false

/-- An operation whose guard was itself left out. -/
theorem s_skipU {P : Program} {opsl rest : List Oper} {w : World} {Q : Act → Prop} {dst : Option Tmp} {op : Op} {oty : TypeId} {pos : String} {after : Array Edge} {gi : Nat} {want : Bool} {t : Tmp} {l l' : List Value} {ds : List Deferred} [ho : NthO opsl gi t] [hv : Nth l t undef] [hp : PutI l dst undef l'] (h : wpStill P opsl.toArray w Q rest ⟨l'.toArray, ds⟩) : wpStill P opsl.toArray w Q (⟨dst, op, oty, pos, after, some (gi, want)⟩ :: rest) ⟨l.toArray, ds⟩ :=
  wpStill_step fun K hK => by
    have hn : ¬ Region.wanted (⟨dst, op, oty, pos, after, some (gi, want)⟩ : Oper) (yielded opsl.toArray l.toArray) = true := by
      obtain ⟨o', h2, h3⟩ := ho.at_
      have h1 := hv.nth
      simp only [Region.wanted, yielded, List.getElem?_toArray, h2, Option.bind_some, h3, h1]
      cases want <;> simp [undef]
    rw [if_neg hn]; refine hK _ ?_; rw [hp.put]; exact h
/-- An event with its values. -/
structure Eve where
  e : Evt
  vals : List Val
instance : Inhabited Evt := ⟨⟨0, 0, 0, 0⟩⟩
instance : Inhabited Eve := ⟨⟨default, []⟩⟩
/-- Its row. -/
def eveF (F : Nat → Prop) (w : World) (row : List Value) (x : Eve) : Prop := ∃ ao n cap, row = [.int .i64 x.e.number, .int .i64 x.e.type, .int .i64 x.e.start, .int .i64 x.e.stop, .slice ao n cap] ∧ SlF F w 3 (plainF valC) ao n cap x.vals
theorem eveF_firm : Firm eveF := fun F G w w' row x hs ⟨ao, n, cap, h1, h2⟩ => ⟨ao, n, cap, h1, h2.same (plainF_firm _) hs⟩
theorem size_eve : SizeIs Tryd.prog 30 5 := fun w => by kernel_rfl
theorem stEve : StT Tryd.prog 30 5 := ⟨by kernel_rfl, _, Tryd.underlying30, rfl⟩
theorem zeEve : ZeroT Tryd.prog 30 [.int .i64 0, .int .i64 0, .int .i64 0, .int .i64 0, .slice none 0 0] := ⟨by kernel_rfl⟩
theorem oneVals : OneT Tryd.prog 28 := ⟨by kernel_rfl, _, Tryd.underlying28, rfl⟩
instance iStEve : StI Tryd.prog 30 5 := ⟨stEve⟩
instance iZeEve : ZeI Tryd.prog 30 [.int .i64 0, .int .i64 0, .int .i64 0, .int .i64 0, .slice none 0 0] := ⟨zeEve⟩
instance iOneVals : OneI Tryd.prog 28 := ⟨oneVals⟩
/-- Texts that fit. -/
def eveOk (x : Eve) : Prop := ∀ v ∈ x.vals, v.text.size ≤ maxLen
theorem val_R {F : Nat → Prop} {w : World} {ao : Option Addr} {n cap : Nat} {vs : List Val} (h : SlF F w 3 (plainF valC) ao n cap vs) (hb : ∀ v ∈ vs, v.text.size ≤ maxLen) : SlR w 3 valR ao n cap vs := by
  obtain ⟨h1, h2, h3, h4, h5⟩ := h.toR
  refine ⟨h1, h2, h3, h4, fun i hi => ?_⟩
  obtain ⟨b, off, row, e, hl, hr, hx⟩ := h5 i hi
  exact ⟨b, off, row, e, hl, hr, hx, hb _ (List.getElem_mem hi)⟩
theorem typ_R {F : Nat → Prop} {w : World} {ao : Option Addr} {n cap : Nat} {ts : List Typ} (h : SlF F w 2 typF ao n cap ts) (hb : ∀ t ∈ ts, typOk t) : SlR w 2 typR ao n cap ts := by
  obtain ⟨h1, h2, h3, h4, h5⟩ := h.toR
  refine ⟨h1, h2, h3, h4, fun i hi => ?_⟩
  obtain ⟨b, off, row, e, hl, hr, a1, n1, c1, hx, hf⟩ := h5 i hi
  have ht := hb _ (List.getElem_mem hi)
  exact ⟨b, off, row, e, hl, hr, a1, n1, c1, hx, ht.1, fld_R hf ht.2⟩
end Go.Proofs.YthlnheckaoeooaaDoor
/-
  What a pattern takes, in plain Lean; that a book that was checked asks for nothing that is not there.
-/
namespace Go.Proofs.YthlnheckaoeooaaDoor
open Go.RowKit
set_option linter.unusedVariables false
set_option linter.unusedSimpArgs false

/-- The type of an event; its value by a field's name. -/
def evT (ts : List Typ) (x : Eve) : Typ := ts.getD x.e.type.toNat default
def fldV (ts : List Typ) (x : Eve) (f : ByteArray) : Val := x.vals.getD (fldAt (evT ts x).fields f) default
/-- An event that was checked. -/
structure EvGood (ts : List Typ) (x : Eve) : Prop where
  lo : 0 ≤ x.e.type
  hi : x.e.type < ts.length
  ty : typE (evT ts x).name (evT ts x).fields = 0
  len : x.vals.length = (evT ts x).fields.length
  val : ∀ i, i < x.vals.length → valE (x.vals.getD i default) = 0 ∧ (x.vals.getD i default).kind = ((evT ts x).fields.getD i default).kind
section
variable (ts : List Typ) (wh : List Pat) (known : List Eve) (own : Eve)
/-- The event that an operand looks into; its value. -/
def sideX (o : Opd) : Eve := if o.kind = 3 then known.getD (patI wh o.var) default else own
def sideV (o : Opd) : Val := if o.kind = 1 then ⟨o.vkind, o.vint, o.vtext⟩ else fldV ts (sideX wh known own o) o.field
def SideGood (o : Opd) : Prop := o.kind = 1 ∨ ((o.kind = 2 ∨ (o.kind = 3 ∧ patI wh o.var < known.length)) ∧ EvGood ts (sideX wh known own o) ∧ fldAt (evT ts (sideX wh known own o)).fields o.field < (evT ts (sideX wh known own o)).fields.length)
def testB (k n : Int) : Bool := if k = 4 then n == 0 else if k = 5 then n != 0 else if k = 6 then decide (n < 0) else decide (n ≤ 0)
/-- Does a condition hold? -/
def holdR : Nat → Cond → Bool
  | 0, _ => false
  | f + 1, c => if c.kind = 0 then true else if c.kind = 3 then !(holdR f (c.subs.getD 0 cond0)) else if c.kind = 1 then c.subs.all (holdR f) else if c.kind = 2 then c.subs.any (holdR f) else testB c.kind (cmpV (sideV ts wh known own c.left) (sideV ts wh known own c.right))
/-- A condition that asks for nothing that is not there. -/
def HoldGood : Nat → Cond → Prop
  | 0, _ => False
  | f + 1, c => c.kind = 0 ∨ (c.kind = 3 ∧ c.subs.length = 1 ∧ ∀ s ∈ c.subs, HoldGood f s) ∨ ((c.kind = 1 ∨ c.kind = 2) ∧ ∀ s ∈ c.subs, HoldGood f s) ∨
      (4 ≤ c.kind ∧ c.kind ≤ 7 ∧ SideGood ts wh known own c.left ∧ SideGood ts wh known own c.right ∧ cmpE (sideV ts wh known own c.left) (sideV ts wh known own c.right) = 0)
end
/-- The patterns of a part of a rule. -/
def partL (x : Rul) (part : Int) : List Pat := if part = 0 then x.whens else if part = 1 then x.nots else if part = 2 then x.manies.map Many.pat else []
def evE (ts : List Typ) (l : List Eve) (i : Nat) : Int := eventE ts (l.getD i default).e (l.getD i default).vals
def misE (ts : List Typ) (wh : List Pat) (l : List Eve) (i : Nat) : Int := if sameS (evT ts (l.getD i default)).name (wh.getD i pat0).type = true then 0 else 13
/-- Takes: what it answers. -/
def takesR (ts : List Typ) (R : Rul) (part at_ : Int) (x : Eve) (known : List Eve) : Bool × Int :=
  if ¬ (0 ≤ part ∧ part ≤ 2) ∨ ¬ (0 ≤ at_ ∧ at_ < (partL R part).length) then (false, 2)
  else if firstN (evE ts (x :: known)) (known.length + 1) ≠ 0 then (false, firstN (evE ts (x :: known)) (known.length + 1))
  else if (known.length : Int) ≠ (if part = 0 then at_ else R.whens.length) then (false, 4)
  else if firstN (misE ts R.whens known) known.length ≠ 0 then (false, 13)
  else (sameS (evT ts x).name ((partL R part).getD at_.toNat pat0).type && holdR ts R.whens known x 8 ((partL R part).getD at_.toNat pat0).wher, 0)
def takesE (b : Bok) (rule part at_ : Int) (x : Eve) (known : List Eve) : Bool × Int :=
  if bookE b ≠ 0 then (false, bookE b)
  else if ¬ (0 ≤ rule ∧ rule < b.rules.length) then (false, 2)
  else takesR b.types (b.rules.getD rule.toNat rul00) part at_ x known

theorem firstN_all {f : Nat → Int} {n : Nat} (h : firstN f n = 0) : AllZ f n := by
  induction n with
  | zero => exact allZ_zero f
  | succ n ih =>
    simp only [firstN] at h
    by_cases e : firstN f n = 0
    · rw [if_pos e] at h; exact allZ_succ (ih e) h
    · rw [if_neg e] at h; exact absurd h e
theorem evGood_of {ts : List Typ} {x : Eve} (h : eventE ts x.e x.vals = 0) : EvGood ts x := by
  unfold eventE at h
  by_cases h1 : 1 ≤ x.e.number ∧ x.e.number ≤ 1048576
  · rw [if_pos h1] at h
    by_cases h2 : 0 ≤ x.e.type ∧ x.e.type < ts.length
    · rw [if_pos h2] at h
      by_cases h3 : spanE x.e.start x.e.stop = 0
      · rw [if_pos h3] at h
        unfold fitE at h
        by_cases h4 : typE (ts.getD x.e.type.toNat default).name (ts.getD x.e.type.toNat default).fields = 0
        · rw [if_pos h4] at h
          by_cases h5 : firstN (valsE x.vals) x.vals.length = 0
          · rw [if_pos h5] at h
            by_cases h6 : x.vals.length = (ts.getD x.e.type.toNat default).fields.length
            · rw [if_pos h6] at h
              refine ⟨h2.1, h2.2, h4, h6, fun i hi => ⟨firstN_all h5 i hi, ?_⟩⟩
              have h7 := firstN_all h i hi
              unfold kindE at h7
              by_cases h8 : (x.vals.getD i default).kind = ((ts.getD x.e.type.toNat default).fields.getD i default).kind
              · exact h8
              · rw [if_neg h8] at h7; exact absurd h7 (by decide)
            · rw [if_neg h6] at h; exact absurd h (by decide)
          · rw [if_neg h5] at h; exact absurd h h5
        · rw [if_neg h4] at h; exact absurd h h4
      · rw [if_neg h3] at h; exact absurd h h3
    · rw [if_neg h2] at h; exact absurd h (by decide)
  · rw [if_neg h1] at h; exact absurd h (by decide)
theorem sameS_toL {a b : ByteArray} (h : sameS a b = true) : a.toList = b.toList := by simpa [sameS] using h
theorem sameS_congr {a b : ByteArray} (h : a.toList = b.toList) (c : ByteArray) : sameS c a = sameS c b := by unfold sameS; rw [h]
theorem typI_congr {ts : List Typ} {a b : ByteArray} (h : a.toList = b.toList) : typI ts a = typI ts b := by
  unfold typI
  congr 1
  funext t
  exact sameS_congr h t.name
theorem findIdx_first {α : Type} {l : List α} {p : α → Bool} {t : Nat} (ht : t < l.length) (hp : p l[t] = true) (hn : ∀ i (h : i < l.length), i < t → p l[i] = false) : l.findIdx p = t := by
  rw [List.findIdx_eq ht]
  exact ⟨hp, fun j hj => hn j (by omega) hj⟩
theorem findIdx_take {α : Type} {l : List α} {p : α → Bool} {k : Nat} (hk : (l.take k).findIdx p < (l.take k).length) : l.findIdx p = (l.take k).findIdx p := by
  have h1 := List.findIdx_getElem (w := hk)
  have hl : (l.take k).length ≤ l.length := by simp [List.length_take]; omega
  refine findIdx_first (by omega) (by simpa using h1) (fun i hi hlt => ?_)
  have := List.not_of_lt_findIdx hlt
  simpa using this
theorem types_once {b : Bok} (h : bookE b = 0) {t : Nat} (ht : t < b.types.length) {n : ByteArray} (hn : sameS b.types[t].name n = true) : typI b.types n = t := by
  unfold bookE at h
  by_cases h0 : 6 < b.types.length ∨ 5 < b.rules.length
  · rw [if_pos h0] at h; exact absurd h (by decide)
  rw [if_neg h0] at h
  by_cases h1 : firstN (btypE b) b.types.length ≠ 0
  · rw [if_pos h1] at h; exact absurd h h1
  have hz := firstN_all (Classical.not_not.1 h1)
  have e : typI b.types n = typI b.types b.types[t].name := typI_congr (sameS_toL hn).symm
  rw [e]
  refine findIdx_first ht (by simp [sameS]) (fun i hi hlt => ?_)
  have hb := hz t ht
  unfold btypE at hb
  have hg : b.types.getD t typ0 = b.types[t] := by simp [List.getD, List.getElem?_eq_getElem ht]
  rw [hg] at hb
  by_cases c1 : typE b.types[t].name b.types[t].fields ≠ 0
  · rw [if_pos c1] at hb; exact absurd hb c1
  rw [if_neg c1] at hb
  by_cases c2 : keptB b.types[t].name = true ∨ b.types[t].fields.any (fun f => keptB f.name) = true
  · rw [if_pos c2] at hb; exact absurd hb (by decide)
  rw [if_neg c2] at hb
  by_cases c3 : typI (b.types.take t) b.types[t].name < t
  · rw [if_pos c3] at hb; exact absurd hb (by decide)
  cases hc : sameS b.types[i].name b.types[t].name with
  | false => rfl
  | true =>
    exfalso
    apply c3
    unfold typI
    have hi2 : i < (b.types.take t).length := by rw [List.length_take]; omega
    have := List.findIdx_lt_length_of_exists (p := fun u : Typ => sameS u.name b.types[t].name) (xs := b.types.take t) ⟨b.types[i], List.mem_iff_getElem.2 ⟨i, hi2, List.getElem_take⟩, hc⟩
    rw [List.length_take] at this
    omega
theorem typAt_of {b : Bok} (h : bookE b = 0) {x : Eve} (hx : EvGood b.types x) {n : ByteArray} (hn : sameS (evT b.types x).name n = true) : typAt b.types n = evT b.types x := by
  have ht : x.e.type.toNat < b.types.length := by have := hx.lo; have := hx.hi; omega
  have hg : evT b.types x = b.types[x.e.type.toNat] := by unfold evT; simp [List.getD, List.getElem?_eq_getElem ht]
  rw [hg] at hn ⊢
  unfold typAt
  rw [types_once h ht hn]
  simp [List.getD, List.getElem?_eq_getElem ht]
theorem condL_all {g : Cond → Int × Int} : ∀ {l : List Cond} {n : Int}, (condL g l n).2 = 0 → ∀ s ∈ l, (g s).2 = 0
  | [], _, _, s, hs => by cases hs
  | c :: r, n, h, s, hs => by
    unfold condL at h
    by_cases h1 : (g c).2 ≠ 0
    · rw [if_pos h1] at h; exact absurd h h1
    rw [if_neg h1] at h
    by_cases h2 : 12 < n + (g c).1
    · rw [if_pos h2] at h; exact absurd h (by decide)
    rw [if_neg h2] at h
    rcases List.mem_cons.1 hs with rfl | hs
    · exact Classical.not_not.1 h1
    · exact condL_all h s hs
section
variable {ts : List Typ} {wh kn : List Pat} {known : List Eve} {own : Eve} {ow : Typ}
theorem side_good (hkn : kn = wh.take known.length) (hle : known.length ≤ wh.length) (hown : ow = evT ts own) (ho : EvGood ts own) (hk : ∀ i (h : i < known.length), EvGood ts known[i] ∧ typAt ts (wh.getD i pat0).type = evT ts known[i])
    {o : Opd} (h : sideE ts kn ow o = 0) : SideGood ts wh known own o ∧ valE (sideV ts wh known own o) = 0 ∧ sideK ts kn ow o = (sideV ts wh known own o).kind := by
  have hlen : kn.length = known.length := by rw [hkn, List.length_take]; omega
  unfold sideE at h
  by_cases h1 : ¬ (1 ≤ o.kind ∧ o.kind ≤ 3)
  · rw [if_pos h1] at h; exact absurd h (by decide)
  rw [if_neg h1] at h
  by_cases h2 : o.kind = 3 ∧ kn.length ≤ patI kn o.var
  · rw [if_pos h2] at h; exact absurd h (by decide)
  rw [if_neg h2] at h
  by_cases h3 : opdBad o = true
  · rw [if_pos h3] at h; exact absurd h (by decide)
  rw [if_neg h3] at h
  by_cases h4 : o.kind = 1
  · rw [if_pos h4] at h
    unfold SideGood sideV sideK
    rw [if_pos h4, if_pos h4]
    exact ⟨.inl h4, h, rfl⟩
  rw [if_neg h4] at h
  by_cases h5 : fldAt (sideT ts kn ow o).fields o.field < (sideT ts kn ow o).fields.length
  rotate_left
  · rw [if_neg h5] at h; exact absurd h (by decide)
  have key : (o.kind = 2 ∨ (o.kind = 3 ∧ patI wh o.var < known.length)) ∧ EvGood ts (sideX wh known own o) ∧ sideT ts kn ow o = evT ts (sideX wh known own o) := by
    unfold sideT sideX
    by_cases h6 : o.kind = 3
    · rw [if_pos h6, if_pos h6]
      have hi : patI kn o.var < kn.length := by
        apply Classical.byContradiction
        intro hn
        exact h2 ⟨h6, by omega⟩
      have he : patI wh o.var = patI kn o.var := by
        unfold patI at hi ⊢
        rw [hkn] at hi ⊢
        exact findIdx_take hi
      have hw : patI wh o.var < known.length := by omega
      obtain ⟨g1, g2⟩ := hk _ hw
      have hg : known.getD (patI wh o.var) default = known[patI wh o.var] := by simp [List.getD, List.getElem?_eq_getElem hw]
      have hkd : kn.getD (patI kn o.var) pat0 = wh.getD (patI wh o.var) pat0 := by
        rw [← he, hkn]
        simp only [List.getD]
        rw [List.getElem?_take_of_lt hw]
      rw [hg, hkd]
      exact ⟨.inr ⟨h6, hw⟩, g1, g2⟩
    · rw [if_neg h6, if_neg h6]
      exact ⟨.inl (by omega), ho, hown⟩
  obtain ⟨k1, k2, k3⟩ := key
  rw [k3] at h5
  unfold SideGood sideV sideK
  rw [if_neg h4, if_neg h4, k3]
  have hv := k2.val _ (show fldAt (evT ts (sideX wh known own o)).fields o.field < (sideX wh known own o).vals.length by rw [k2.len]; exact h5)
  exact ⟨.inr ⟨k1, k2, h5⟩, hv.1, hv.2.symm⟩
theorem cond_good (hkn : kn = wh.take known.length) (hle : known.length ≤ wh.length) (hown : ow = evT ts own) (ho : EvGood ts own) (hk : ∀ i (h : i < known.length), EvGood ts known[i] ∧ typAt ts (wh.getD i pat0).type = evT ts known[i]) :
    ∀ {f : Nat} {c : Cond}, (condR ts kn ow f c).2 = 0 → HoldGood ts wh known own f c
  | 0, c, h => by
    unfold condR at h
    split at h <;> exact absurd h (by decide)
  | f + 1, c, h => by
    unfold condR at h
    by_cases h1 : 1 ≤ c.kind ∧ c.kind ≤ 7
    rotate_left
    · rw [if_neg h1] at h; exact absurd h (by decide)
    rw [if_pos h1] at h
    unfold HoldGood
    by_cases h2 : 4 ≤ c.kind
    · rw [if_pos h2] at h
      refine .inr (.inr (.inr ⟨h2, h1.2, ?_⟩))
      have h' : testE ts kn ow c = 0 := h
      unfold testE at h'
      by_cases c1 : c.subs.length ≠ 0
      · rw [if_pos c1] at h'; exact absurd h' (by decide)
      rw [if_neg c1] at h'
      by_cases c2 : sideE ts kn ow c.left ≠ 0
      · rw [if_pos c2] at h'; exact absurd h' c2
      rw [if_neg c2] at h'
      by_cases c3 : sideE ts kn ow c.right ≠ 0
      · rw [if_pos c3] at h'; exact absurd h' c3
      rw [if_neg c3] at h'
      by_cases c4 : sideK ts kn ow c.left = sideK ts kn ow c.right
      rotate_left
      · rw [if_neg c4] at h'; exact absurd h' (by decide)
      obtain ⟨l1, l2, l3⟩ := side_good hkn hle hown ho hk (Classical.not_not.1 c2)
      obtain ⟨r1, r2, r3⟩ := side_good hkn hle hown ho hk (Classical.not_not.1 c3)
      refine ⟨l1, r1, ?_⟩
      unfold cmpE
      rw [if_pos l2, if_pos r2, if_pos (by rw [← l3, ← r3]; exact c4)]
    · rw [if_neg h2] at h
      by_cases h3 : condForm c = true
      · rw [if_pos h3] at h; exact absurd h (by decide)
      rw [if_neg h3] at h
      have hs : ∀ s ∈ c.subs, HoldGood ts wh known own f s := fun s hs => cond_good hkn hle hown ho hk (condL_all h s hs)
      by_cases h4 : c.kind = 3
      · refine .inr (.inl ⟨h4, ?_, hs⟩)
        apply Classical.byContradiction
        intro hn
        exact h3 (by simp [condForm, h4, hn])
      · exact .inr (.inr (.inl ⟨by omega, hs⟩))
end
theorem rule_zero {b : Bok} (h : bookE b = 0) {r : Nat} (hr : r < b.rules.length) : ruleE b.types b.rules[r] = 0 := by
  unfold bookE at h
  by_cases h0 : 6 < b.types.length ∨ 5 < b.rules.length
  · rw [if_pos h0] at h; exact absurd h (by decide)
  rw [if_neg h0] at h
  by_cases h1 : firstN (btypE b) b.types.length ≠ 0
  · rw [if_pos h1] at h; exact absurd h h1
  rw [if_neg h1] at h
  by_cases h2 : firstN (brulE b) b.rules.length ≠ 0
  · rw [if_pos h2] at h; exact absurd h h2
  have hz := firstN_all (Classical.not_not.1 h2) r hr
  unfold brulE at hz
  rw [show b.rules.getD r rul00 = b.rules[r] by simp [List.getD, List.getElem?_eq_getElem hr]] at hz
  by_cases h3 : ruleE b.types b.rules[r] ≠ 0
  · rw [if_pos h3] at hz; exact absurd hz h3
  · exact Classical.not_not.1 h3
theorem part_zero {ts : List Typ} {x : Rul} (h : ruleE ts x = 0) {part : Int} (hp : 0 ≤ part ∧ part ≤ 2) {k : Nat} (hk : k < (partL x part).length) :
    ∃ ahead, patE ts (if part = 0 then x.whens.take k else x.whens) ahead ((partL x part).getD k pat0) part.toNat = 0 := by
  unfold ruleE at h
  by_cases h1 : freeE x.name ≠ 0
  · rw [if_pos h1] at h; exact absurd h h1
  rw [if_neg h1] at h
  by_cases h2 : sizeB x = true
  · rw [if_pos h2] at h; exact absurd h (by decide)
  rw [if_neg h2] at h
  by_cases h3 : firstN (whenE ts x) x.whens.length ≠ 0
  · rw [if_pos h3] at h; exact absurd h h3
  rw [if_neg h3] at h
  by_cases h4 : firstN (notE ts x) x.nots.length ≠ 0
  · rw [if_pos h4] at h; exact absurd h h4
  rw [if_neg h4] at h
  by_cases h5 : firstN (manyE ts x) x.manies.length ≠ 0
  · rw [if_pos h5] at h; exact absurd h h5
  unfold partL at hk ⊢
  by_cases p0 : part = 0
  · subst p0
    simp only [if_true] at hk ⊢
    exact ⟨_, firstN_all (Classical.not_not.1 h3) k hk⟩
  by_cases p1 : part = 1
  · subst p1
    simp only [if_true, show (1 : Int) ≠ 0 by decide, if_false] at hk ⊢
    exact ⟨_, firstN_all (Classical.not_not.1 h4) k hk⟩
  · obtain rfl : part = 2 := by omega
    simp only [if_true, show (2 : Int) ≠ 0 by decide, show (2 : Int) ≠ 1 by decide, if_false] at hk ⊢
    have hk' : k < x.manies.length := by simpa using hk
    have hz := firstN_all (Classical.not_not.1 h5) k hk'
    unfold manyE at hz
    have e1 : x.manies.getD k man0 = x.manies[k] := by simp [List.getD, List.getElem?_eq_getElem hk']
    have e2 : (x.manies.map Many.pat).getD k pat0 = x.manies[k].pat := by simp [List.getD, List.getElem?_eq_getElem hk']
    rw [e1] at hz
    rw [e2]
    split at hz
    · exact absurd hz (by decide)
    · by_cases h6 : patE ts x.whens (vars x.whens ++ vars x.nots ++ vars ((x.manies.take k).map Many.pat)) x.manies[k].pat 2 ≠ 0
      · rw [if_pos h6] at hz; exact absurd hz h6
      · exact ⟨_, Classical.not_not.1 h6⟩
/-- What a checked book's pattern asks of events that were checked. -/
theorem takes_good {b : Bok} (h : bookE b = 0) {r : Nat} (hr : r < b.rules.length) {part : Int} (hp : 0 ≤ part ∧ part ≤ 2) {k : Nat} (hk : k < (partL b.rules[r] part).length) {x : Eve} {known : List Eve}
    (hx : EvGood b.types x) (hkn : ∀ i (hi : i < known.length), EvGood b.types known[i]) (hl : (known.length : Int) = if part = 0 then (k : Int) else b.rules[r].whens.length) (hm : AllZ (misE b.types b.rules[r].whens known) known.length)
    (hn : sameS (evT b.types x).name ((partL b.rules[r] part).getD k pat0).type = true) :
    HoldGood b.types b.rules[r].whens known x 8 ((partL b.rules[r] part).getD k pat0).wher := by
  obtain ⟨ahead, hz⟩ := part_zero (rule_zero h hr) hp hk
  have hle : known.length ≤ b.rules[r].whens.length := by
    by_cases p0 : part = 0
    · rw [if_pos p0] at hl
      unfold partL at hk
      rw [if_pos p0] at hk
      omega
    · rw [if_neg p0] at hl
      omega
  have hkk : (if part = 0 then b.rules[r].whens.take k else b.rules[r].whens) = b.rules[r].whens.take known.length := by
    by_cases p0 : part = 0
    · rw [if_pos p0] at hl ⊢
      rw [show known.length = k by omega]
    · rw [if_neg p0] at hl ⊢
      rw [show known.length = b.rules[r].whens.length by omega, List.take_length]
  unfold patE at hz
  by_cases h1 : freeE ((partL b.rules[r] part).getD k pat0).var ≠ 0
  · rw [if_pos h1] at hz; exact absurd hz h1
  rw [if_neg h1] at hz
  by_cases h2 : inS ahead ((partL b.rules[r] part).getD k pat0).var = true
  · rw [if_pos h2] at hz; exact absurd hz (by decide)
  rw [if_neg h2] at hz
  by_cases h3 : b.types.length ≤ typI b.types ((partL b.rules[r] part).getD k pat0).type
  · rw [if_pos h3] at hz; exact absurd hz (by decide)
  rw [if_neg h3] at hz
  by_cases h4 : winE part.toNat ((partL b.rules[r] part).getD k pat0) ≠ 0
  · rw [if_pos h4] at hz; exact absurd hz h4
  rw [if_neg h4] at hz
  by_cases h5 : noC ((partL b.rules[r] part).getD k pat0).wher = true
  · refine .inl ?_
    simp only [noC, Bool.and_eq_true, beq_iff_eq] at h5
    exact h5.1.1.1
  rw [if_neg h5] at hz
  refine cond_good hkk hle (typAt_of h hx hn) hx (fun i hi => ⟨hkn i hi, ?_⟩) hz
  have hmi := hm i hi
  unfold misE at hmi
  rw [show known.getD i default = known[i] by simp [List.getD, List.getElem?_eq_getElem hi]] at hmi
  by_cases c : sameS (evT b.types known[i]).name (b.rules[r].whens.getD i pat0).type = true
  · exact typAt_of h (hkn i hi) c
  · rw [if_neg c] at hmi; exact absurd hmi (by decide)
end Go.Proofs.YthlnheckaoeooaaDoor
/-
  The walks of sift: a view of events; a field; a side of a comparison.
-/
namespace Go.Proofs.YthlnheckaoeooaaDoor
open Go.RowKit
set_option linter.unusedVariables false
set_option linter.unusedSimpArgs false

theorem stVal : StT Tryd.prog 44 3 := ⟨by kernel_rfl, _, Tryd.underlying44, rfl⟩
theorem zeVal : ZeroT Tryd.prog 44 [.int .i64 0, .int .i64 0, .string ByteArray.empty] := ⟨by kernel_rfl⟩
theorem oneStrs : OneT Tryd.prog 63 := ⟨by kernel_rfl, _, Tryd.underlying63, rfl⟩
theorem oneEves : OneT Tryd.prog 31 := ⟨by kernel_rfl, _, Tryd.underlying31, rfl⟩
instance iStVal : StI Tryd.prog 44 3 := ⟨stVal⟩
instance iZeVal : ZeI Tryd.prog 44 [.int .i64 0, .int .i64 0, .string ByteArray.empty] := ⟨zeVal⟩
instance iOneStrs : OneI Tryd.prog 63 := ⟨oneStrs⟩
instance iOneEves : OneI Tryd.prog 31 := ⟨oneEves⟩
/-- Where a view lies; its cells. -/
structure VA where
  a1 : Option Addr
  n1 : Nat
  c1 : Nat
  p : Option Addr
  q : Nat
  r : Nat
  an : Option Addr
  nn : Nat
  cn : Nat
  a3 : Option Addr
  n3 : Nat
  c3 : Nat
def VA.cells (v : VA) (x : Evt) : List Value := [.slice v.a1 v.n1 v.c1, .int .i64 x.number, .int .i64 x.type, .int .i64 x.start, .int .i64 x.stop, .slice v.p v.q v.r, .slice v.an v.nn v.cn, .slice v.a3 v.n3 v.c3]
structure View (F : Nat → Prop) (w : World) (zv : Nat) (v : VA) (ts : List Typ) (names : List ByteArray) (known : List Eve) (own : Eve) : Prop where
  lt : zv < w.heap.size
  cells : w.rangeAt zv 0 (v.cells own.e)
  types : SlF F w 2 typF v.a1 v.n1 v.c1 ts
  vals : SlF F w 3 (plainF valC) v.p v.q v.r own.vals
  named : SlF F w 1 wordF v.an v.nn v.cn names
  knows : SlF F w 5 eveF v.a3 v.n3 v.c3 known
  okT : ∀ t ∈ ts, typOk t
  okO : eveOk own
  okK : ∀ x ∈ known, eveOk x
variable {F G : Nat → Prop} {w0 : World} {zv : Nat} {v : VA} {ts : List Typ} {wh : List Pat} {names : List ByteArray} {known : List Eve} {own : Eve}
theorem View.below {w' : World} (h : View F w0 zv v ts names known own) (hb : Below w0.heap.size w0 w') : View F w' zv v ts names known own :=
  ⟨Nat.lt_of_lt_of_le h.lt hb.size, fun j x hj => by rw [(bcell hb).1 _ _ h.lt]; exact h.cells j x hj, h.types.below typF_firm hb, h.vals.below (plainF_firm _) hb, h.named.below wordF_firm hb, h.knows.below eveF_firm hb, h.okT, h.okO, h.okK⟩
def valR3 (x : Val) : Value := .agg #[.int .i64 x.kind, .int .i64 x.int, .string x.text]
set_option maxRecDepth 8000 in
set_option maxHeartbeats 4000000 in
theorem look_any (V : View F w0 zv v ts names known own) (x : Eve) (p : Option Addr) (q r : Nat) (hv : SlF G w0 3 (plainF valC) p q r x.vals) (hok : eveOk x) (hx : EvGood ts x) (name : ByteArray) (hf : fldAt (evT ts x).fields name < (evT ts x).fields.length) :
    Calls Tryd.prog 64 #[.pointer (some ⟨zv, 0, none⟩), .agg #[.int .i64 x.e.number, .int .i64 x.e.type, .int .i64 x.e.start, .int .i64 x.e.stop, .slice p q r], .string name] w0 fun e w' => e = .returned (valR3 (fldV ts x name)) ∧ Below w0.heap.size w0 w' := by
  have M := Mem.begin V.lt ⟨0, 0⟩
  have HV0 : Hid (∀ wx, Below w0.heap.size w0 wx → wx.cell? ⟨zv, 0, none⟩ = some (.slice v.a1 v.n1 v.c1)) := fun wx hb => (V.below hb).cells 0 _ rfl
  have htl : x.e.type.toNat < ts.length := by have := hx.lo; have := hx.hi; omega
  have hte : evT ts x = ts[x.e.type.toNat] := by unfold evT; simp [List.getD, List.getElem?_eq_getElem htl]
  obtain ⟨ct, ot, rowt, hixt, -, hrrt, hwt⟩ := SlF.rowAt (P := Tryd.prog) V.types typF_firm Tryd.underlying22 size_typ (i := x.e.type.toNat) htl
  rw [show ((x.e.type.toNat : Nat) : Int) = x.e.type from Int.toNat_of_nonneg hx.lo] at hixt
  obtain ⟨p1, q1, s1, et, ut⟩ := hrrt
  subst et
  have hto := V.okT _ (List.getElem_mem htl)
  have hfl : fldAt (evT ts x).fields name < x.vals.length := by rw [hx.len]; exact hf
  obtain ⟨cv, ov, rowv, hixv, -, hrrv, hwv⟩ := SlF.rowAt (P := Tryd.prog) hv (plainF_firm _) Tryd.underlying28 size_value (i := fldAt (evT ts x).fields name) hfl
  have ev : rowv = valC x.vals[fldAt (evT ts x).fields name] := hrrv
  have hfv : fldV ts x name = x.vals[fldAt (evT ts x).fields name] := by unfold fldV; simp [List.getD, List.getElem?_eq_getElem hfl]
  rw [← hfv] at ev
  subst ev
  have HFD : Hid (∀ wx, Below w0.heap.size w0 wx → Calls Tryd.prog 84 #[.agg #[.string ts[x.e.type.toNat].name, .slice p1 q1 s1], .string name] wx fun e w' => e = .returned (.tuple #[.int .i64 (fldAt (evT ts x).fields name : Nat), .int .i64 (fieldK (evT ts x).name (evT ts x).fields name), .int .i64 0]) ∧ Below wx.heap.size wx w') := fun wx hb => by
    have h0 : fieldE (evT ts x).name (evT ts x).fields name = 0 := by unfold fieldE; rw [if_pos hx.ty, if_pos hf]
    have h1 := field_any ts[x.e.type.toNat].name p1 q1 s1 ts[x.e.type.toNat].fields name wx hto.1 (fld_R (ut.below (plainF_firm _) hb) hto.2)
    rw [← hte, h0, show fieldX (evT ts x).name (evT ts x).fields name = (fldAt (evT ts x).fields name : Nat) by unfold fieldX; rw [if_pos h0]] at h1
    rw [← hte]
    exact h1
  have HR := Lib.hid (fun wx hb => (hwt wx hb).1)
  have HRV := Lib.hid (fun wx hb => (hwv wx hb).1)
  generalize fldV ts x name = y at HRV ⊢
  generalize fieldK (evT ts x).name (evT ts x).fields name = fk at HFD
  generalize fldAt (evT ts x).fields name = fa at HFD hixv
  generalize ts[x.e.type.toNat] = t at HFD HR
  unfold typC at HR
  unfold valC at HRV
  unfold valR3
  clear V hv hok hx hf htl hte hwt ut hto hfl hwv hrrv hfv
  go_enter Tryd.func64, Tryd.ntmps64
  go_wp2_with (first | (with_reducible (first | (refine wB (L := []) M ?_; clear M; intro za w1 M) | (refine wV M ?_; clear M; intro zr w M) | refine wl M ?_ | refine wlg M ?_ | (refine ws M ?_; clear M; intro w M) | (refine wsc M ?_; clear M; intro w M) | (refine wV M ?_; clear M; intro z w M) | (refine wR M ?_; clear M; intro q w M) | refine o_skipT ?_ | refine o_skipF ?_)))
  (refine wp_region_any (by kernel_rfl) ?_; (try (change wpAny _ _ _ _ _ _ _ (World.drew _))); replace M := M.drew; generalize World.drew _ = w at M ⊢; have S := St.o; ((refine tk 0 (v := ?_) rfl (by kernel_rfl) rfl ?_ ?_; rotate_left; focus (intro w; go_simp; try with_reducible rfl)); (try go_simp); (refine tk 1 (v := ?_) rfl (by kernel_rfl) rfl ?_ ?_; rotate_left; focus (intro w; go_simp; try with_reducible rfl)); (try go_simp); (refine tk 2 (v := ?_) rfl (by kernel_rfl) rfl ?_ ?_; rotate_left; focus (intro w; go_simp; try with_reducible rfl)); (try go_simp); (refine tk 4 (v := ?_) rfl (by kernel_rfl) rfl ?_ ?_; rotate_left; focus (intro w; go_simp; try with_reducible rfl)); (try go_simp); (refine tk 8 (v := ?_) rfl (by kernel_rfl) rfl ?_ ?_; rotate_left; focus (intro w; go_simp; try with_reducible rfl)); (try go_simp); replace S := S.add 279; refine rd2 3 5 (by kernel_rfl) rfl rfl ?_ rfl rfl ?_ <;> intro K hK); all_goals (first | (refine o_dst (some 14) ?_; (first | (refine q_cellat (HV0.out _ M.new) ?_) | (refine q_at (HR.out _ M.new) (by rfl) ?_) | (first | refine q_all M (by rfl) ?_ | refine q_get M (by exact rfl) ?_ | refine q_prt M (by rfl) ?_)); (all_goals (refine hK _ _ ?_; clear hK K; replace S := S.add 8))) | (refine o_dst (some 16) ?_; (first | (refine q_cellat (HV0.out _ M.new) ?_) | (refine q_at (HR.out _ M.new) (by rfl) ?_) | (first | refine q_all M (by rfl) ?_ | refine q_get M (by exact rfl) ?_ | refine q_prt M (by rfl) ?_)); (all_goals (refine hK _ _ ?_; clear hK K; replace S := S.add 32)))); all_goals (first | (replace S : St 287 := S; refine rd1 5 (by kernel_rfl) rfl rfl ?_ <;> intro K hK) | (replace S : St 311 := S; refine rd1 3 (by kernel_rfl) rfl rfl ?_ <;> intro K hK)); all_goals (first | (refine o_dst (some 16) ?_; (first | (refine q_cellat (HV0.out _ M.new) ?_) | (refine q_at (HR.out _ M.new) (by rfl) ?_) | (first | refine q_all M (by rfl) ?_ | refine q_get M (by exact rfl) ?_ | refine q_prt M (by rfl) ?_)); (all_goals (refine hK _ _ ?_; clear hK K; replace S := S.add 32))) | (refine o_dst (some 14) ?_; (first | (refine q_cellat (HV0.out _ M.new) ?_) | (refine q_at (HR.out _ M.new) (by rfl) ?_) | (first | refine q_all M (by rfl) ?_ | refine q_get M (by exact rfl) ?_ | refine q_prt M (by rfl) ?_)); (all_goals (refine hK _ _ ?_; clear hK K; replace S := S.add 8)))); all_goals ((refine tk 6 (v := ?_) rfl (by kernel_rfl) rfl ?_ ?_; rotate_left; focus (intro w; go_simp; try with_reducible rfl)); (try go_simp); replace S := S.add 64; refine rd1 7 (by kernel_rfl) rfl rfl ?_ <;> intro K hK); all_goals (refine o_dst (some 18) ?_; (first | (refine q_cellat (HV0.out _ M.new) ?_) | (refine q_at (HR.out _ M.new) (by rfl) ?_) | (first | refine q_all M (by rfl) ?_ | refine q_get M (by exact rfl) ?_ | refine q_prt M (by rfl) ?_)); (all_goals (refine hK _ _ ?_; clear hK K; replace S := S.add 128))); all_goals (refine rd1 9 (by kernel_rfl) rfl rfl ?_ <;> intro K hK); all_goals (refine o_dst (some 20) ?_; (refine owp_of ?_; go_simp; (go_at_call 84; with_reducible refine (HFD.out _ M.new).mono ?_; rintro e w5 ⟨rfl, hb5⟩; replace M := M.below hb5; clear hb5); (try go_simp)); (all_goals (refine hK _ _ ?_; clear hK K; replace S := S.add 512))); all_goals (clear S; ((refine tk 10 (v := ?_) rfl (by kernel_rfl) rfl ?_ ?_; rotate_left; focus (intro w; go_simp; try with_reducible rfl)); (try go_simp); (refine tk 11 (v := ?_) rfl (by kernel_rfl) rfl ?_ ?_; rotate_left; focus (intro w; go_simp; try with_reducible rfl)); (try go_simp); (refine tk 12 (v := ?_) rfl (by kernel_rfl) rfl ?_ ?_; rotate_left; focus (intro w; go_simp; try with_reducible rfl)); (try go_simp); (refine tk 13 (v := ?_) rfl (by kernel_rfl) rfl ?_ ?_; rotate_left; focus (intro w; go_simp; try with_reducible rfl)); (try go_simp); (refine tk 14 (v := ?_) rfl (by kernel_rfl) rfl ?_ ?_; rotate_left; focus (intro w; go_simp; try with_reducible rfl)); (try go_simp); (refine tk 15 (v := ?_) rfl (by kernel_rfl) rfl ?_ ?_; rotate_left; focus (intro w; go_simp; try with_reducible rfl)); (try go_simp); (refine tk 16 (v := ?_) rfl (by kernel_rfl) rfl ?_ ?_; rotate_left; focus (intro w; go_simp; try with_reducible rfl)); (try go_simp); refine wpAny_done (by kernel_rfl) ?_ _)))
  all_goals
  go_wp2_with (first | (with_reducible (first | refine wA (HRV.out _ M.new) ?_ | refine wl M ?_ | refine wlg M ?_ | (refine ws M ?_; clear M; intro w M) | (refine wsc M ?_; clear M; intro w M) | (refine wV M ?_; clear M; intro z w M) | (refine wR M ?_; clear M; intro q w M) | refine o_skipT ?_ | refine o_skipF ?_)))
  ((with_reducible refine body_id ?_); (refine q_ret M Tryd.results64 (by rfl) ?_))
  exact ⟨rfl, M.new⟩
end Go.Proofs.YthlnheckaoeooaaDoor
/-
  The walks of sift: a side of a comparison.
-/
namespace Go.Proofs.YthlnheckaoeooaaDoor
open Go.RowKit
set_option linter.unusedVariables false
set_option linter.unusedSimpArgs false

variable {F G : Nat → Prop} {w0 : World} {zv : Nat} {v : VA} {ts : List Typ} {wh : List Pat} {names : List ByteArray} {known : List Eve} {me : Eve}
theorem View.owns (h : View F w0 zv v ts names known me) : w0.rangeAt zv 1 [.int .i64 me.e.number, .int .i64 me.e.type, .int .i64 me.e.start, .int .i64 me.e.stop, .slice v.p v.q v.r] := fun j x hj => by
  have key : (v.cells me.e)[1 + j]? = some x := by
    rcases j with _ | _ | _ | _ | _ | j
    · simpa [VA.cells] using hj
    · simpa [VA.cells] using hj
    · simpa [VA.cells] using hj
    · simpa [VA.cells] using hj
    · simpa [VA.cells] using hj
    · simp at hj
  have := h.cells (1 + j) x key
  rwa [Nat.zero_add] at this
theorem sideX_own {o : Opd} (h : o.kind ≠ 3) : sideX wh known me o = me := by unfold sideX; rw [if_neg h]
theorem sideV_look {o : Opd} (h : o.kind ≠ 1) : sideV ts wh known me o = fldV ts (sideX wh known me o) o.field := by unfold sideV; rw [if_neg h]
set_option maxRecDepth 8000 in
set_option maxHeartbeats 4000000 in
theorem viewSide_one (V : View F w0 zv v ts names known me) (o : Opd) (hk : o.kind = 1) :
    Calls Tryd.prog 30 #[.pointer (some ⟨zv, 0, none⟩), .agg (opdC o).toArray] w0 fun e w' => e = .returned (valR3 (sideV ts wh known me o)) ∧ Below w0.heap.size w0 w' := by
  have M := Mem.begin V.lt ⟨0, 0⟩
  have HV : Hid (sideV ts wh known me o = ⟨o.vkind, o.vint, o.vtext⟩) := by show _ = _; unfold sideV; rw [if_pos hk]
  unfold opdC
  rw [hk]
  clear V hk
  go_enter Tryd.func30, Tryd.ntmps30
  go_wp2_with (first | (with_reducible (first | (refine wB (L := []) M ?_; clear M; intro za w1 M) | (refine wV M ?_; clear M; intro zr w M) | refine wl M ?_ | refine wlg M ?_ | (refine ws M ?_; clear M; intro w M) | (refine wsc M ?_; clear M; intro w M) | (refine wV M ?_; clear M; intro z w M) | (refine wR M ?_; clear M; intro q w M) | refine o_skipT ?_ | refine o_skipF ?_)) | ((with_reducible refine o_list rfl fun K hK => ?_); refine q_in M (by rfl) (by rfl) (by rfl) ?_; clear M; intro w M; (try simp only [List.set_cons_zero, List.set_cons_succ, laid, opdC, List.take_succ_cons, List.take_zero, List.drop_succ_cons, List.drop_zero, List.length_cons, List.length_nil, List.cons_append, List.nil_append, Nat.reduceAdd, Nat.zero_add] at M); refine hK _ _ ?_; clear hK K))
  ((with_reducible refine body_id ?_); (refine q_ret M Tryd.results30 (by rfl) ?_))
  rw [HV.out]
  exact ⟨rfl, M.new⟩
set_option maxRecDepth 8000 in
set_option maxHeartbeats 4000000 in
theorem viewSide_own (V : View F w0 zv v ts names known me) (o : Opd) (hk : o.kind = 2) (hx : EvGood ts me) (hf : fldAt (evT ts me).fields o.field < (evT ts me).fields.length) :
    Calls Tryd.prog 30 #[.pointer (some ⟨zv, 0, none⟩), .agg (opdC o).toArray] w0 fun e w' => e = .returned (valR3 (sideV ts wh known me o)) ∧ Below w0.heap.size w0 w' := by
  have M := Mem.begin V.lt ⟨0, 0⟩
  have HV : Hid (sideV ts wh known me o = fldV ts me o.field) := by show _ = _; rw [sideV_look (by omega), sideX_own (by omega)]
  have HVO : Hid (∀ wx, Below w0.heap.size w0 wx → wx.rangeAt zv 1 [.int .i64 me.e.number, .int .i64 me.e.type, .int .i64 me.e.start, .int .i64 me.e.stop, .slice v.p v.q v.r]) := fun wx hb => (V.below hb).owns
  have HL : Hid (∀ wx, Below w0.heap.size w0 wx → Calls Tryd.prog 64 #[.pointer (some ⟨zv, 0, none⟩), .agg #[.int .i64 me.e.number, .int .i64 me.e.type, .int .i64 me.e.start, .int .i64 me.e.stop, .slice v.p v.q v.r], .string o.field] wx fun e w' => e = .returned (valR3 (fldV ts me o.field)) ∧ Below wx.heap.size wx w') := fun wx hb => look_any (V.below hb) me v.p v.q v.r (V.below hb).vals V.okO hx o.field hf
  unfold opdC
  rw [hk]
  unfold valR3 at HL ⊢
  clear V hk hx hf
  go_enter Tryd.func30, Tryd.ntmps30
  go_wp2_with (first | (with_reducible (first | (refine wB (L := []) M ?_; clear M; intro za w1 M) | (refine wV M ?_; clear M; intro zr w M) | refine wl M ?_ | refine wlg M ?_ | (refine ws M ?_; clear M; intro w M) | (refine wsc M ?_; clear M; intro w M) | (refine wV M ?_; clear M; intro z w M) | (refine wR M ?_; clear M; intro q w M) | refine o_skipT ?_ | refine o_skipF ?_)))
  ((refine wp_region_still_tail 7 (by kernel_rfl) (by kernel_rfl) ?_); (simp only [List.take_succ_cons, List.take_zero, List.drop_succ_cons, List.drop_zero]); (change wpStill _ _ (World.drew _) (fun a' => wpList _ _ _ _ a' (World.drew _)) _ _); replace M := M.drew; generalize World.drew _ = wd at M ⊢; (repeat (first | ((with_reducible refine s_list rfl fun K hK => ?_); refine s_load ?_; (first | (refine q_at (HVO.out _ M.new) (by rfl) ?_) | refine q_all M (by rfl) ?_ | refine q_get M (by exact rfl) ?_ | refine q_prt M (by rfl) ?_); refine ⟨rfl, hK _ ?_⟩; clear hK K) | ((with_reducible refine s_listg fun K hK => ?_); refine s_load ?_; (first | (refine q_at (HVO.out _ M.new) (by rfl) ?_) | refine q_all M (by rfl) ?_ | refine q_get M (by exact rfl) ?_ | refine q_prt M (by rfl) ?_); refine ⟨rfl, hK _ ?_⟩; clear hK K) | (with_reducible refine s_skipT ?_) | (with_reducible refine s_skipF ?_) | ((first | (with_reducible refine s_list rfl fun K hK => ?_) | (with_reducible refine s_listg fun K hK => ?_)); refine s_pure ?_; go_simp; refine hK _ ?_; clear hK K))); (refine wpStill_nil ?_))
  go_wp2_with (first | (go_at_call 64; with_reducible refine (HL.out _ M.new).mono ?_; rintro e w5 ⟨rfl, hb5⟩; replace M := M.below hb5; clear hb5) | (with_reducible (first | refine wl M ?_ | refine wlg M ?_ | (refine ws M ?_; clear M; intro w M) | (refine wsc M ?_; clear M; intro w M) | (refine wV M ?_; clear M; intro z w M) | (refine wR M ?_; clear M; intro q w M) | refine o_skipT ?_ | refine o_skipF ?_)) | ((with_reducible refine o_list rfl fun K hK => ?_); refine q_in M (by rfl) (by rfl) (by rfl) ?_; clear M; intro w M; (try simp only [List.set_cons_zero, List.set_cons_succ, laid, opdC, List.take_succ_cons, List.take_zero, List.drop_succ_cons, List.drop_zero, List.length_cons, List.length_nil, List.cons_append, List.nil_append, Nat.reduceAdd, Nat.zero_add] at M); refine hK _ _ ?_; clear hK K))
  ((with_reducible refine body_id ?_); (refine q_ret M Tryd.results30 (by rfl) ?_))
  rw [HV.out]
  exact ⟨rfl, M.new⟩
set_option maxRecDepth 8000 in
set_option maxHeartbeats 4000000 in
theorem viewSide_other (V : View F w0 zv v ts names known me) (hN : names = vars (wh.take known.length)) (hle : known.length ≤ wh.length) (o : Opd) (hk : o.kind = 3) (hi : patI wh o.var < known.length) (hx : EvGood ts (sideX wh known me o)) (hf : fldAt (evT ts (sideX wh known me o)).fields o.field < (evT ts (sideX wh known me o)).fields.length) :
    Calls Tryd.prog 30 #[.pointer (some ⟨zv, 0, none⟩), .agg (opdC o).toArray] w0 fun e w' => e = .returned (valR3 (sideV ts wh known me o)) ∧ Below w0.heap.size w0 w' := by
  have M := Mem.begin V.lt ⟨0, 0⟩
  have hsx : sideX wh known me o = known[patI wh o.var] := by unfold sideX; rw [if_pos hk]; simp [List.getD, List.getElem?_eq_getElem hi]
  rw [hsx] at hx hf
  have HV : Hid (sideV ts wh known me o = fldV ts known[patI wh o.var] o.field) := by show _ = _; rw [sideV_look (by omega), hsx]
  have hnl : names.length = known.length := by rw [hN]; unfold vars; rw [List.length_map, List.length_take]; omega
  have NN := V.named.len
  have NK := V.knows.len
  have HV6 : Hid (∀ wx, Below w0.heap.size w0 wx → wx.cell? ⟨zv, 6, none⟩ = some (.slice v.an v.nn v.cn)) := fun wx hb => (V.below hb).cells 6 _ rfl
  have HV7 : Hid (∀ wx, Below w0.heap.size w0 wx → wx.cell? ⟨zv, 7, none⟩ = some (.slice v.a3 v.n3 v.c3)) := fun wx hb => (V.below hb).cells 7 _ rfl
  obtain ⟨ck, ok, rowk, hixk, -, hrrk, hwk⟩ := SlF.rowAt (P := Tryd.prog) V.knows eveF_firm Tryd.underlying31 size_eve (i := patI wh o.var) hi
  obtain ⟨p1, q1, s1, ek, uk⟩ := hrrk
  subst ek
  have HRK := Lib.hid (fun wx hb => (hwk wx hb).1)
  have HL : Hid (∀ wx, Below w0.heap.size w0 wx → Calls Tryd.prog 64 #[.pointer (some ⟨zv, 0, none⟩), .agg #[.int .i64 known[patI wh o.var].e.number, .int .i64 known[patI wh o.var].e.type, .int .i64 known[patI wh o.var].e.start, .int .i64 known[patI wh o.var].e.stop, .slice p1 q1 s1], .string o.field] wx fun e w' => e = .returned (valR3 (fldV ts known[patI wh o.var] o.field)) ∧ Below wx.heap.size wx w') := fun wx hb =>
    look_any (V.below hb) known[patI wh o.var] p1 q1 s1 (uk.below (plainF_firm _) hb) (V.okK _ (List.getElem_mem hi)) hx o.field hf
  have HNM : Hid (∀ j (hj : j < names.length), sameS names[j] o.var = decide (j = patI wh o.var) ∨ patI wh o.var < j) := fun j hj => by
    have hjw : j < wh.length := by omega
    have e : names[j] = wh[j].var := by subst hN; simp [vars]
    rw [e]
    rcases Nat.lt_trichotomy j (patI wh o.var) with h | h | h
    · left
      have := List.not_of_lt_findIdx (p := fun p : Pat => sameS p.var o.var) (xs := wh) (i := j) h
      rw [show decide (j = patI wh o.var) = false by simp; omega]
      simpa using this
    · left
      have h2 := List.findIdx_getElem (p := fun p : Pat => sameS p.var o.var) (xs := wh) (w := by show patI wh o.var < _; omega)
      rw [show decide (j = patI wh o.var) = true by simp [h]]
      have h3 : wh[j] = wh[wh.findIdx (fun p => sameS p.var o.var)]'(by show patI wh o.var < _; omega) := by congr 1
      rw [h3]
      exact h2
    · exact .inr h
  have hjn : patI wh o.var < v.nn := by omega
  have HNS := Lib.hid V.named
  have HNN : Hid (v.nn = names.length) := NN
  generalize fldV ts known[patI wh o.var] o.field = y at HL HV
  generalize known[patI wh o.var] = x at HL HRK
  generalize patI wh o.var = J at *
  have hle7 := V.named.le
  unfold opdC
  rw [hk]
  unfold valR3 at HL ⊢
  clear V hk hx hf uk hwk hsx hi hN hle hnl NN NK
  go_enter Tryd.func30, Tryd.ntmps30
  go_wp2_with (first | (with_reducible (first | (refine wB (L := []) M ?_; clear M; intro za w1 M) | (refine wV M ?_; clear M; intro zr w M) | refine wl M ?_ | refine wlg M ?_ | (refine ws M ?_; clear M; intro w M) | (refine wsc M ?_; clear M; intro w M) | (refine wV M ?_; clear M; intro z w M) | (refine wR M ?_; clear M; intro q w M) | refine o_skipT ?_ | refine o_skipF ?_ | refine wC (HV6.out _ M.new) ?_)))
  go_loopg [28] v.nn (fun f i wr => ∃ (j : Nat), j + f = v.nn ∧ j ≤ J ∧ i = .int .i64 j ∧ Mem (StaysB zv w0) zv w0 wr ⟨0, 0⟩ (own zr [.int .i64 0, .int .i64 0, .string ByteArray.empty] 44 :: own za [.int .i64 3, .int .i64 o.vkind, .int .i64 o.vint, .string o.vtext, .string o.var, .string o.field] 46 :: []))
  case atStart => exact ⟨0, by omega, by omega, rfl, M⟩
  case round =>
    clear M
    obtain ⟨j, hj, hjJ, rfl, M⟩ := hrel
    have hlt : j < v.nn := by omega
    have hjl : j < names.length := by have := HNN.out; omega
    obtain ⟨cs, os, rows, hixs, -, hrrs, hws⟩ := SlF.rowAt (P := Tryd.prog) HNS.out wordF_firm Tryd.underlying63 size_word (i := j) hjl
    have es : rows = [.string names[j]] := hrrs
    subst es
    have HY0 : Hid (∀ wx, Below w0.heap.size w0 wx → wx.cell? ⟨cs, os, none⟩ = some (.string names[j])) := fun wx hb => (hws wx hb).1 0 _ rfl
    have hsm := (HNM.out j hjl).resolve_right (by omega)
    clear hws hrrs
    generalize names[j] = nm at HY0 hsm
    by_cases he : j = J
    · have hsb : (nm.toList == o.var.toList) = true := by have h : sameS nm o.var = true := by rw [hsm]; simp [he]
                                                          exact h
      subst he
      clear hsm hjJ hjl
      go_wp2_with (first | (with_reducible (first | refine wl M ?_ | refine wlg M ?_ | (refine ws M ?_; clear M; intro w M) | (refine wsc M ?_; clear M; intro w M) | (refine wV M ?_; clear M; intro z w M) | (refine wR M ?_; clear M; intro q w M) | refine o_skipT ?_ | refine o_skipF ?_ | refine wC (HY0.out _ M.new) ?_)))
      ((refine wp_region_still_tail 10 (by kernel_rfl) (by kernel_rfl) ?_); (simp only [List.take_succ_cons, List.take_zero, List.drop_succ_cons, List.drop_zero]); (change wpStill _ _ (World.drew _) (fun a' => wpList _ _ _ _ a' (World.drew _)) _ _); replace M := M.drew; generalize World.drew _ = wd at M ⊢; (repeat (first | ((with_reducible refine s_list rfl fun K hK => ?_); refine s_load ?_; (first | (refine q_cellat (HV7.out _ M.new) ?_) | (refine q_at (HRK.out _ M.new) (by rfl) ?_) | refine q_all M (by rfl) ?_ | refine q_get M (by exact rfl) ?_ | refine q_prt M (by rfl) ?_); refine ⟨rfl, hK _ ?_⟩; clear hK K) | ((with_reducible refine s_listg fun K hK => ?_); refine s_load ?_; (first | (refine q_cellat (HV7.out _ M.new) ?_) | (refine q_at (HRK.out _ M.new) (by rfl) ?_) | refine q_all M (by rfl) ?_ | refine q_get M (by exact rfl) ?_ | refine q_prt M (by rfl) ?_); refine ⟨rfl, hK _ ?_⟩; clear hK K) | (with_reducible refine s_skipT ?_) | (with_reducible refine s_skipF ?_) | ((first | (with_reducible refine s_list rfl fun K hK => ?_) | (with_reducible refine s_listg fun K hK => ?_)); refine s_pure ?_; go_simp; refine hK _ ?_; clear hK K))); (refine wpStill_nil ?_))
      go_wp2_with (first | (go_at_call 64; with_reducible refine (HL.out _ M.new).mono ?_; rintro e w5 ⟨rfl, hb5⟩; replace M := M.below hb5; clear hb5) | (with_reducible (first | refine wl M ?_ | refine wlg M ?_ | (refine ws M ?_; clear M; intro w M) | (refine wsc M ?_; clear M; intro w M) | (refine wV M ?_; clear M; intro z w M) | (refine wR M ?_; clear M; intro q w M) | refine o_skipT ?_ | refine o_skipF ?_)) | ((with_reducible refine o_list rfl fun K hK => ?_); refine q_in M (by rfl) (by rfl) (by rfl) ?_; clear M; intro w M; (try simp only [List.set_cons_zero, List.set_cons_succ, laid, opdC, List.take_succ_cons, List.take_zero, List.drop_succ_cons, List.drop_zero, List.length_cons, List.length_nil, List.cons_append, List.nil_append, Nat.reduceAdd, Nat.zero_add] at M); refine hK _ _ ?_; clear hK K))
      ((with_reducible refine body_id ?_); (refine q_ret M Tryd.results30 (by rfl) ?_))
      rw [HV.out]
      exact ⟨rfl, M.new⟩
    · have hsb : (nm.toList == o.var.toList) = false := by have h : sameS nm o.var = false := by rw [hsm]; simp [he]
                                                           exact h
      have hjJ2 : j + 1 ≤ J := by omega
      clear hsm hjJ hjl he
      go_wp2_with (first | (with_reducible (first | refine wl M ?_ | refine wlg M ?_ | (refine ws M ?_; clear M; intro w M) | (refine wsc M ?_; clear M; intro w M) | (refine wV M ?_; clear M; intro z w M) | (refine wR M ?_; clear M; intro q w M) | refine o_skipT ?_ | refine o_skipF ?_ | refine wC (HY0.out _ M.new) ?_)))
      go_roundg (v.nn - (j + 1))
      case measure => omega
      case rel => exact ⟨j + 1, by omega, hjJ2, by go_num, M⟩
theorem viewSide_any (V : View F w0 zv v ts names known me) (hN : names = vars (wh.take known.length)) (hle : known.length ≤ wh.length) (o : Opd) (hG : SideGood ts wh known me o) :
    Calls Tryd.prog 30 #[.pointer (some ⟨zv, 0, none⟩), .agg (opdC o).toArray] w0 fun e w' => e = .returned (valR3 (sideV ts wh known me o)) ∧ Below w0.heap.size w0 w' := by
  rcases hG with h | ⟨h | ⟨h, hi⟩, hx, hf⟩
  · exact viewSide_one V o h
  · rw [sideX_own (by omega)] at hx hf
    exact viewSide_own V o h hx hf
  · exact viewSide_other V hN hle o h hi hx hf
end Go.Proofs.YthlnheckaoeooaaDoor
/-
  The walk of sift: does a condition hold? Printed by sfc.py.
-/
namespace Go.Proofs.YthlnheckaoeooaaDoor
open Go.RowKit
set_option linter.unusedVariables false
set_option linter.unusedSimpArgs false

section
variable {ts : List Typ} {wh : List Pat} {known : List Eve} {me : Eve} {f : Nat} {c : Cond}
theorem hold_zero (h : c.kind = 0) : holdR ts wh known me (f + 1) c = true := by unfold holdR; rw [if_pos h]
theorem hold_not (h : c.kind = 3) (h1 : c.subs.length = 1) (h0 : 0 < c.subs.length) : holdR ts wh known me (f + 1) c = !(holdR ts wh known me f c.subs[0]) := by
  conv => lhs; unfold holdR
  rw [if_neg (by omega), if_pos h, show c.subs.getD 0 cond0 = c.subs[0] by simp [List.getD, List.getElem?_eq_getElem h0]]
theorem hold_and_stop (h : c.kind = 1) {j : Nat} (hj : j < c.subs.length) (hb : holdR ts wh known me f c.subs[j] = false) : holdR ts wh known me (f + 1) c = false := by
  unfold holdR
  rw [if_neg (by omega), if_neg (by omega), if_pos h]
  exact List.all_eq_false.2 ⟨_, List.getElem_mem hj, by simp [hb]⟩
theorem hold_and_end (h : c.kind = 1) (hN : NoB c.subs (fun s => holdR ts wh known me f s == false) c.subs.length) : holdR ts wh known me (f + 1) c = true := by
  unfold holdR
  rw [if_neg (by omega), if_neg (by omega), if_pos h]
  refine List.all_eq_true.2 fun s hs => ?_
  obtain ⟨i, hi, rfl⟩ := List.mem_iff_getElem.1 hs
  simpa using hN i hi hi
theorem hold_or_stop (h : c.kind = 2) {j : Nat} (hj : j < c.subs.length) (hb : holdR ts wh known me f c.subs[j] = true) : holdR ts wh known me (f + 1) c = true := by
  unfold holdR
  rw [if_neg (by omega), if_neg (by omega), if_neg (by omega), if_pos h]
  exact List.any_eq_true.2 ⟨_, List.getElem_mem hj, hb⟩
theorem hold_or_end (h : c.kind = 2) (hN : NoB c.subs (fun s => holdR ts wh known me f s == true) c.subs.length) : holdR ts wh known me (f + 1) c = false := by
  unfold holdR
  rw [if_neg (by omega), if_neg (by omega), if_neg (by omega), if_pos h]
  refine List.any_eq_false.2 fun s hs => ?_
  obtain ⟨i, hi, rfl⟩ := List.mem_iff_getElem.1 hs
  simpa using hN i hi hi
theorem hold_test (h : 4 ≤ c.kind) : holdR ts wh known me (f + 1) c = testB c.kind (cmpV (sideV ts wh known me c.left) (sideV ts wh known me c.right)) := by
  unfold holdR
  rw [if_neg (by omega), if_neg (by omega), if_neg (by omega), if_neg (by omega)]
theorem sideV_fit {o : Opd} (ho : OpdFit o) (hm : eveOk me) (hk : ∀ x ∈ known, eveOk x) (hG : SideGood ts wh known me o) : (sideV ts wh known me o).text.size ≤ maxLen := by
  unfold sideV
  by_cases h1 : o.kind = 1
  · rw [if_pos h1]; exact ho.1
  rw [if_neg h1]
  rcases hG with h | ⟨hk3, hx, hf⟩
  · exact absurd h h1
  have hX : eveOk (sideX wh known me o) := by
    unfold sideX
    by_cases h3 : o.kind = 3
    · rw [if_pos h3]
      rcases hk3 with h | ⟨-, h⟩
      · omega
      · rw [show known.getD (patI wh o.var) default = known[patI wh o.var] by simp [List.getD, List.getElem?_eq_getElem h]]
        exact hk _ (List.getElem_mem h)
    · rw [if_neg h3]; exact hm
  have hl : fldAt (evT ts (sideX wh known me o)).fields o.field < (sideX wh known me o).vals.length := by rw [hx.len]; exact hf
  unfold fldV
  rw [show (sideX wh known me o).vals.getD (fldAt (evT ts (sideX wh known me o)).fields o.field) default = (sideX wh known me o).vals[fldAt (evT ts (sideX wh known me o)).fields o.field] by simp [List.getD, List.getElem?_eq_getElem hl]]
  exact hX _ (List.getElem_mem hl)
end
section
variable {F S : Nat → Prop} {w0 : World} {zv : Nat} {v : VA} {ts : List Typ} {wh : List Pat} {names : List ByteArray} {known : List Eve} {me : Eve} {f : Nat} {so : Option Addr} {sn sc : Nat}
set_option maxRecDepth 8000 in
set_option maxHeartbeats 8000000 in
theorem holds_zero (V : View F w0 zv v ts names known me) (c : Cond) (hk : c.kind = 0) :
    Calls Tryd.prog 13 #[.pointer (some ⟨zv, 0, none⟩), .agg (cnd14 c.kind so sn sc c.left c.right).toArray] w0 fun e w' => e = .returned (.bool (holdR ts wh known me (f + 1) c)) ∧ Below w0.heap.size w0 w' := by
  have M := Mem.begin V.lt ⟨0, 0⟩
  have HV := Lib.hid (hold_zero (ts := ts) (wh := wh) (known := known) (me := me) (f := f) hk)
  unfold cnd14
  rw [hk]
  clear V hk
  go_enter Tryd.func13, Tryd.ntmps13
  go_wp2_with (first | (with_reducible (first | (refine wB (L := []) M ?_; clear M; intro za w1 M) | refine wl M ?_ | refine wlg M ?_ | (refine ws M ?_; clear M; intro w M) | (refine wsc M ?_; clear M; intro w M) | (refine wV M ?_; clear M; intro z w M) | (refine wR M ?_; clear M; intro q w M) | refine o_skipT ?_ | refine o_skipF ?_)))
  go_ret
  rw [HV.out]
  exact ⟨rfl, M.new⟩
set_option maxRecDepth 8000 in
set_option maxHeartbeats 8000000 in
theorem holds_not (V : View F w0 zv v ts names known me) (c : Cond) (hS : SlF S w0 14 CondF so sn sc c.subs) (IH : ∀ j (hj : j < c.subs.length) (so2 : Option Addr) (sn2 sc2 : Nat) (wy : World), Below w0.heap.size w0 wy → SlF S wy 14 CondF so2 sn2 sc2 c.subs[j].subs → Calls Tryd.prog 13 #[.pointer (some ⟨zv, 0, none⟩), .agg (cnd14 c.subs[j].kind so2 sn2 sc2 c.subs[j].left c.subs[j].right).toArray] wy fun e w' => e = .returned (.bool (holdR ts wh known me f c.subs[j])) ∧ Below wy.heap.size wy w') (hk : c.kind = 3) (h1 : c.subs.length = 1) :
    Calls Tryd.prog 13 #[.pointer (some ⟨zv, 0, none⟩), .agg (cnd14 c.kind so sn sc c.left c.right).toArray] w0 fun e w' => e = .returned (.bool (holdR ts wh known me (f + 1) c)) ∧ Below w0.heap.size w0 w' := by
  have M := Mem.begin V.lt ⟨0, 0⟩
  have h0 : 0 < c.subs.length := by omega
  have HV := Lib.hid (hold_not (ts := ts) (wh := wh) (known := known) (me := me) (f := f) hk h1 h0)
  have HS := Lib.hid hS
  replace IH := Lib.hid IH
  obtain ⟨ca, oa, rowa, hixa, -, hrra, hwa⟩ := SlF.rowAt (P := Tryd.prog) HS.out condF_firm Tryd.underlying42 size_cnd (i := 0) h0
  obtain ⟨so2, sn2, sc2, e1, hS2⟩ := hrra.open14
  subst e1
  have HR : Hid (∀ wx, Below w0.heap.size w0 wx → wx.rangeAt ca oa (cnd14 c.subs[0].kind so2 sn2 sc2 c.subs[0].left c.subs[0].right)) := fun wx hb => (hwa wx hb).1
  have HC : Hid (∀ wx, Below w0.heap.size w0 wx → Calls Tryd.prog 13 #[.pointer (some ⟨zv, 0, none⟩), .agg (cnd14 c.subs[0].kind so2 sn2 sc2 c.subs[0].left c.subs[0].right).toArray] wx fun e w' => e = .returned (.bool (holdR ts wh known me f c.subs[0])) ∧ Below wx.heap.size wx w') := fun wx hb => IH.out 0 h0 so2 sn2 sc2 wx hb (hS2.below condF_firm hb)
  have hix0 : ∀ wx, (Instr.indexAt 42 (.slice so sn sc) (.int .i64 0)).run Tryd.prog wx = .ok (.pointer (some ⟨ca, oa, none⟩)) wx := hixa
  have hsn : (sn : Int) = 1 := by have := hS.len; omega
  generalize holdR ts wh known me f c.subs[0] = b at HC HV
  generalize c.subs[0] = s at HR HC
  unfold cnd14 at HR HC ⊢
  rw [hk]
  clear V hk hS HS IH hixa hwa hrra hS2 h1 h0
  go_enter Tryd.func13, Tryd.ntmps13
  go_wp2_with (first | (with_reducible (first | (refine wB (L := []) M ?_; clear M; intro za w1 M) | refine wl M ?_ | refine wlg M ?_ | (refine ws M ?_; clear M; intro w M) | (refine wsc M ?_; clear M; intro w M) | (refine wV M ?_; clear M; intro z w M) | (refine wR M ?_; clear M; intro q w M) | refine o_skipT ?_ | refine o_skipF ?_ | refine wA (HR.out _ M.new) ?_)) | (go_at_call 13; with_reducible refine (HC.out _ M.new).mono ?_; rintro e w5 ⟨rfl, hb5⟩; replace M := M.below hb5; clear hb5))
  all_goals
    go_ret
    rw [HV.out]
    exact ⟨by simp [*], M.new⟩
set_option maxRecDepth 8000 in
set_option maxHeartbeats 8000000 in
theorem holds_and (V : View F w0 zv v ts names known me) (c : Cond) (hS : SlF S w0 14 CondF so sn sc c.subs) (IH : ∀ j (hj : j < c.subs.length) (so2 : Option Addr) (sn2 sc2 : Nat) (wy : World), Below w0.heap.size w0 wy → SlF S wy 14 CondF so2 sn2 sc2 c.subs[j].subs → Calls Tryd.prog 13 #[.pointer (some ⟨zv, 0, none⟩), .agg (cnd14 c.subs[j].kind so2 sn2 sc2 c.subs[j].left c.subs[j].right).toArray] wy fun e w' => e = .returned (.bool (holdR ts wh known me f c.subs[j])) ∧ Below wy.heap.size wy w') (hk : c.kind = 1) :
    Calls Tryd.prog 13 #[.pointer (some ⟨zv, 0, none⟩), .agg (cnd14 c.kind so sn sc c.left c.right).toArray] w0 fun e w' => e = .returned (.bool (holdR ts wh known me (f + 1) c)) ∧ Below w0.heap.size w0 w' := by
  have M := Mem.begin V.lt ⟨0, 0⟩
  have HS := Lib.hid hS
  have NL := Lib.hid hS.len
  have hle := hS.le
  replace IH := Lib.hid IH
  have HK := Lib.hid hk
  unfold cnd14
  rw [hk]
  clear V hk hS
  go_enter Tryd.func13, Tryd.ntmps13
  go_wp2_with (first | (with_reducible (first | (refine wB (L := []) M ?_; clear M; intro za w1 M) | refine wl M ?_ | refine wlg M ?_ | (refine ws M ?_; clear M; intro w M) | (refine wsc M ?_; clear M; intro w M) | (refine wV M ?_; clear M; intro z w M) | (refine wR M ?_; clear M; intro q w M) | refine o_skipT ?_ | refine o_skipF ?_)))
  go_loopg [28] sn (fun fu i wr => ∃ (j : Nat), j + fu = sn ∧ i = .int .i64 j ∧ Mem (StaysB zv w0) zv w0 wr ⟨0, 0⟩ (own za [.int .i64 1, .slice so sn sc, .int .i64 c.left.kind, .int .i64 c.left.vkind, .int .i64 c.left.vint, .string c.left.vtext, .string c.left.var, .string c.left.field, .int .i64 c.right.kind, .int .i64 c.right.vkind, .int .i64 c.right.vint, .string c.right.vtext, .string c.right.var, .string c.right.field] 48 :: []) ∧ Hid (NoB c.subs (fun s => holdR ts wh known me f s == false) j))
  case atStart => exact ⟨0, by omega, rfl, M, noB_zero _ _⟩
  case round =>
    clear M
    obtain ⟨j, hj, rfl, M, HB⟩ := hrel
    by_cases hlt : j < sn
    · have hkl : j < c.subs.length := by have := NL.out; omega
      obtain ⟨ca, oa, rowa, hixa, -, hrra, hwa⟩ := SlF.rowAt (P := Tryd.prog) HS.out condF_firm Tryd.underlying42 size_cnd (i := j) hkl
      obtain ⟨so2, sn2, sc2, e1, hS2⟩ := hrra.open14
      subst e1
      have HR : Hid (∀ wx, Below w0.heap.size w0 wx → wx.rangeAt ca oa (cnd14 c.subs[j].kind so2 sn2 sc2 c.subs[j].left c.subs[j].right)) := fun wx hb => (hwa wx hb).1
      have HC : Hid (∀ wx, Below w0.heap.size w0 wx → Calls Tryd.prog 13 #[.pointer (some ⟨zv, 0, none⟩), .agg (cnd14 c.subs[j].kind so2 sn2 sc2 c.subs[j].left c.subs[j].right).toArray] wx fun e w' => e = .returned (.bool (holdR ts wh known me f c.subs[j])) ∧ Below wx.heap.size wx w') := fun wx hb => IH.out j hkl so2 sn2 sc2 wx hb (hS2.below condF_firm hb)
      have HST : Hid (holdR ts wh known me f c.subs[j] = false → holdR ts wh known me (f + 1) c = false) := fun h => hold_and_stop HK.out hkl h
      have HB2 : Hid (holdR ts wh known me f c.subs[j] = true → NoB c.subs (fun s => holdR ts wh known me f s == false) (j + 1)) := fun h => noB_succ HB.out hkl (by simp [h])
      clear hwa hrra hS2 HB
      generalize holdR ts wh known me f c.subs[j] = b at HC HST HB2
      generalize c.subs[j] = s at HR HC
      clear hkl
      unfold cnd14 at HR HC
      cases b with
      | false =>
        have HV := Lib.hid (HST.out rfl)
        clear HST HB2
        go_wp2_with (first | (with_reducible (first | (refine wV M ?_; clear M; intro zt w M) | refine wl M ?_ | refine wlg M ?_ | (refine ws M ?_; clear M; intro w M) | (refine wsc M ?_; clear M; intro w M) | (refine wV M ?_; clear M; intro z w M) | (refine wR M ?_; clear M; intro q w M) | refine o_skipT ?_ | refine o_skipF ?_ | refine wA (HR.out _ M.new) ?_)))
        (refine wp_region_any (by kernel_rfl) ?_; (try (change wpAny _ _ _ _ _ _ _ (World.drew _))); replace M := M.drew; generalize World.drew _ = w at M ⊢; have S := St.o; ((refine tk 0 (v := ?_) rfl (by kernel_rfl) rfl ?_ ?_; rotate_left; focus (intro w; go_simp; try with_reducible rfl)); (try go_simp); (refine tk 3 (v := ?_) rfl (by kernel_rfl) rfl ?_ ?_; rotate_left; focus (intro w; go_simp; try with_reducible rfl)); (try go_simp); replace S := S.add 9; refine rd2 1 4 (by kernel_rfl) rfl rfl ?_ rfl rfl ?_ <;> intro K hK); all_goals (first | (refine o_dst (some 33) ?_; (first | refine q_all M (by rfl) ?_ | refine q_get M (by exact rfl) ?_ | refine q_prt M (by rfl) ?_); (all_goals (refine hK _ _ ?_; clear hK K; replace S := S.add 2))) | (refine o_dst (some 36) ?_; (first | refine q_all M (by rfl) ?_ | refine q_get M (by exact rfl) ?_ | refine q_prt M (by rfl) ?_); (all_goals (refine hK _ _ ?_; clear hK K; replace S := S.add 16)))); all_goals (first | (replace S : St 11 := S; refine rd2 2 4 (by kernel_rfl) rfl rfl ?_ rfl rfl ?_ <;> intro K hK) | (replace S : St 25 := S; (refine tk 5 (v := ?_) rfl (by kernel_rfl) rfl ?_ ?_; rotate_left; focus (intro w; go_simp; try with_reducible rfl)); (try go_simp); replace S := S.add 32; refine rd1 1 (by kernel_rfl) rfl rfl ?_ <;> intro K hK)); all_goals (first | (refine o_dst (some 34) ?_; (refine owp_of ?_; go_simp; (go_at_call 13; with_reducible refine (HC.out _ M.new).mono ?_; rintro e w5 ⟨rfl, hb5⟩; replace M := M.below hb5; clear hb5); (try go_simp)); (all_goals (refine hK _ _ ?_; clear hK K; replace S := S.add 4))) | (refine o_dst (some 36) ?_; (first | refine q_all M (by rfl) ?_ | refine q_get M (by exact rfl) ?_ | refine q_prt M (by rfl) ?_); (all_goals (refine hK _ _ ?_; clear hK K; replace S := S.add 16))) | (refine o_dst (some 33) ?_; (first | refine q_all M (by rfl) ?_ | refine q_get M (by exact rfl) ?_ | refine q_prt M (by rfl) ?_); (all_goals (refine hK _ _ ?_; clear hK K; replace S := S.add 2)))); all_goals (first | (replace S : St 15 := S; refine rd1 4 (by kernel_rfl) rfl rfl ?_ <;> intro K hK) | (replace S : St 27 := S; (refine tk 5 (v := ?_) rfl (by kernel_rfl) rfl ?_ ?_; rotate_left; focus (intro w; go_simp; try with_reducible rfl)); (try go_simp); replace S := S.add 32; refine rd1 2 (by kernel_rfl) rfl rfl ?_ <;> intro K hK) | (replace S : St 59 := S; refine rd1 2 (by kernel_rfl) rfl rfl ?_ <;> intro K hK)); all_goals (first | (refine o_dst (some 36) ?_; (first | refine q_all M (by rfl) ?_ | refine q_get M (by exact rfl) ?_ | refine q_prt M (by rfl) ?_); (all_goals (refine hK _ _ ?_; clear hK K; replace S := S.add 16))) | (refine o_dst (some 34) ?_; (refine owp_of ?_; go_simp; (go_at_call 13; with_reducible refine (HC.out _ M.new).mono ?_; rintro e w5 ⟨rfl, hb5⟩; replace M := M.below hb5; clear hb5); (try go_simp)); (all_goals (refine hK _ _ ?_; clear hK K; replace S := S.add 4)))); all_goals ((first | (replace S : St 31 := S; (refine tk 5 (v := ?_) rfl (by kernel_rfl) rfl ?_ ?_; rotate_left; focus (intro w; go_simp; try with_reducible rfl)); (try go_simp); (refine tk 6 (v := ?_) rfl (by kernel_rfl) rfl ?_ ?_; rotate_left; focus (intro w; go_simp; try with_reducible rfl)); (try go_simp); refine wpAny_done (by kernel_rfl) ?_ _) | (replace S : St 63 := S; (refine tk 6 (v := ?_) rfl (by kernel_rfl) rfl ?_ ?_; rotate_left; focus (intro w; go_simp; try with_reducible rfl)); (try go_simp); refine wpAny_done (by kernel_rfl) ?_ _)); clear S))
        all_goals
          go_wp2_with (first | (with_reducible (first | refine wl M ?_ | refine wlg M ?_ | (refine ws M ?_; clear M; intro w M) | (refine wsc M ?_; clear M; intro w M) | (refine wV M ?_; clear M; intro z w M) | (refine wR M ?_; clear M; intro q w M) | refine o_skipT ?_ | refine o_skipF ?_)))
          go_ret
          rw [HV.out]
          exact ⟨rfl, M.new⟩
      | true =>
        have HB3 := Lib.hid (HB2.out rfl)
        clear HST HB2
        go_wp2_with (first | (with_reducible (first | (refine wV M ?_; clear M; intro zt w M) | refine wl M ?_ | refine wlg M ?_ | (refine ws M ?_; clear M; intro w M) | (refine wsc M ?_; clear M; intro w M) | (refine wV M ?_; clear M; intro z w M) | (refine wR M ?_; clear M; intro q w M) | refine o_skipT ?_ | refine o_skipF ?_ | refine wA (HR.out _ M.new) ?_)))
        (refine wp_region_any (by kernel_rfl) ?_; (try (change wpAny _ _ _ _ _ _ _ (World.drew _))); replace M := M.drew; generalize World.drew _ = w at M ⊢; have S := St.o; ((refine tk 0 (v := ?_) rfl (by kernel_rfl) rfl ?_ ?_; rotate_left; focus (intro w; go_simp; try with_reducible rfl)); (try go_simp); (refine tk 3 (v := ?_) rfl (by kernel_rfl) rfl ?_ ?_; rotate_left; focus (intro w; go_simp; try with_reducible rfl)); (try go_simp); replace S := S.add 9; refine rd2 1 4 (by kernel_rfl) rfl rfl ?_ rfl rfl ?_ <;> intro K hK); all_goals (first | (refine o_dst (some 33) ?_; (first | refine q_all M (by rfl) ?_ | refine q_get M (by exact rfl) ?_ | refine q_prt M (by rfl) ?_); (all_goals (refine hK _ _ ?_; clear hK K; replace S := S.add 2))) | (refine o_dst (some 36) ?_; (first | refine q_all M (by rfl) ?_ | refine q_get M (by exact rfl) ?_ | refine q_prt M (by rfl) ?_); (all_goals (refine hK _ _ ?_; clear hK K; replace S := S.add 16)))); all_goals (first | (replace S : St 11 := S; refine rd2 2 4 (by kernel_rfl) rfl rfl ?_ rfl rfl ?_ <;> intro K hK) | (replace S : St 25 := S; (refine tk 5 (v := ?_) rfl (by kernel_rfl) rfl ?_ ?_; rotate_left; focus (intro w; go_simp; try with_reducible rfl)); (try go_simp); replace S := S.add 32; refine rd1 1 (by kernel_rfl) rfl rfl ?_ <;> intro K hK)); all_goals (first | (refine o_dst (some 34) ?_; (refine owp_of ?_; go_simp; (go_at_call 13; with_reducible refine (HC.out _ M.new).mono ?_; rintro e w5 ⟨rfl, hb5⟩; replace M := M.below hb5; clear hb5); (try go_simp)); (all_goals (refine hK _ _ ?_; clear hK K; replace S := S.add 4))) | (refine o_dst (some 36) ?_; (first | refine q_all M (by rfl) ?_ | refine q_get M (by exact rfl) ?_ | refine q_prt M (by rfl) ?_); (all_goals (refine hK _ _ ?_; clear hK K; replace S := S.add 16))) | (refine o_dst (some 33) ?_; (first | refine q_all M (by rfl) ?_ | refine q_get M (by exact rfl) ?_ | refine q_prt M (by rfl) ?_); (all_goals (refine hK _ _ ?_; clear hK K; replace S := S.add 2)))); all_goals (first | (replace S : St 15 := S; refine rd1 4 (by kernel_rfl) rfl rfl ?_ <;> intro K hK) | (replace S : St 27 := S; (refine tk 5 (v := ?_) rfl (by kernel_rfl) rfl ?_ ?_; rotate_left; focus (intro w; go_simp; try with_reducible rfl)); (try go_simp); replace S := S.add 32; refine rd1 2 (by kernel_rfl) rfl rfl ?_ <;> intro K hK) | (replace S : St 59 := S; refine rd1 2 (by kernel_rfl) rfl rfl ?_ <;> intro K hK)); all_goals (first | (refine o_dst (some 36) ?_; (first | refine q_all M (by rfl) ?_ | refine q_get M (by exact rfl) ?_ | refine q_prt M (by rfl) ?_); (all_goals (refine hK _ _ ?_; clear hK K; replace S := S.add 16))) | (refine o_dst (some 34) ?_; (refine owp_of ?_; go_simp; (go_at_call 13; with_reducible refine (HC.out _ M.new).mono ?_; rintro e w5 ⟨rfl, hb5⟩; replace M := M.below hb5; clear hb5); (try go_simp)); (all_goals (refine hK _ _ ?_; clear hK K; replace S := S.add 4)))); all_goals ((first | (replace S : St 31 := S; (refine tk 5 (v := ?_) rfl (by kernel_rfl) rfl ?_ ?_; rotate_left; focus (intro w; go_simp; try with_reducible rfl)); (try go_simp); (refine tk 6 (v := ?_) rfl (by kernel_rfl) rfl ?_ ?_; rotate_left; focus (intro w; go_simp; try with_reducible rfl)); (try go_simp); refine wpAny_done (by kernel_rfl) ?_ _) | (replace S : St 63 := S; (refine tk 6 (v := ?_) rfl (by kernel_rfl) rfl ?_ ?_; rotate_left; focus (intro w; go_simp; try with_reducible rfl)); (try go_simp); refine wpAny_done (by kernel_rfl) ?_ _)); clear S))
        all_goals
          go_wp2_with (first | (with_reducible (first | refine wl M ?_ | refine wlg M ?_ | (refine ws M ?_; clear M; intro w M) | (refine wsc M ?_; clear M; intro w M) | (refine wV M ?_; clear M; intro z w M) | (refine wR M ?_; clear M; intro q w M) | refine o_skipT ?_ | refine o_skipF ?_)))
          go_roundg (sn - (j + 1))
          case measure => omega
          case rel => exact ⟨j + 1, by omega, by go_num, M.drop, HB3⟩
    · have HV := Lib.hid (hold_and_end (ts := ts) (wh := wh) (known := known) (me := me) (f := f) HK.out (by have e : j = c.subs.length := (by have := NL.out; omega); rw [← e]; exact HB.out))
      clear HB
      go_wp2_with (first | (with_reducible (first | refine wl M ?_ | refine wlg M ?_ | (refine ws M ?_; clear M; intro w M) | (refine wsc M ?_; clear M; intro w M) | (refine wV M ?_; clear M; intro z w M) | (refine wR M ?_; clear M; intro q w M) | refine o_skipT ?_ | refine o_skipF ?_)))
      go_ret
      rw [HV.out]
      exact ⟨rfl, M.new⟩
set_option maxRecDepth 8000 in
set_option maxHeartbeats 8000000 in
theorem holds_or (V : View F w0 zv v ts names known me) (c : Cond) (hS : SlF S w0 14 CondF so sn sc c.subs) (IH : ∀ j (hj : j < c.subs.length) (so2 : Option Addr) (sn2 sc2 : Nat) (wy : World), Below w0.heap.size w0 wy → SlF S wy 14 CondF so2 sn2 sc2 c.subs[j].subs → Calls Tryd.prog 13 #[.pointer (some ⟨zv, 0, none⟩), .agg (cnd14 c.subs[j].kind so2 sn2 sc2 c.subs[j].left c.subs[j].right).toArray] wy fun e w' => e = .returned (.bool (holdR ts wh known me f c.subs[j])) ∧ Below wy.heap.size wy w') (hk : c.kind = 2) :
    Calls Tryd.prog 13 #[.pointer (some ⟨zv, 0, none⟩), .agg (cnd14 c.kind so sn sc c.left c.right).toArray] w0 fun e w' => e = .returned (.bool (holdR ts wh known me (f + 1) c)) ∧ Below w0.heap.size w0 w' := by
  have M := Mem.begin V.lt ⟨0, 0⟩
  have HS := Lib.hid hS
  have NL := Lib.hid hS.len
  have hle := hS.le
  replace IH := Lib.hid IH
  have HK := Lib.hid hk
  unfold cnd14
  rw [hk]
  clear V hk hS
  go_enter Tryd.func13, Tryd.ntmps13
  go_wp2_with (first | (with_reducible (first | (refine wB (L := []) M ?_; clear M; intro za w1 M) | refine wl M ?_ | refine wlg M ?_ | (refine ws M ?_; clear M; intro w M) | (refine wsc M ?_; clear M; intro w M) | (refine wV M ?_; clear M; intro z w M) | (refine wR M ?_; clear M; intro q w M) | refine o_skipT ?_ | refine o_skipF ?_)))
  go_loopg [28] sn (fun fu i wr => ∃ (j : Nat), j + fu = sn ∧ i = .int .i64 j ∧ Mem (StaysB zv w0) zv w0 wr ⟨0, 0⟩ (own za [.int .i64 2, .slice so sn sc, .int .i64 c.left.kind, .int .i64 c.left.vkind, .int .i64 c.left.vint, .string c.left.vtext, .string c.left.var, .string c.left.field, .int .i64 c.right.kind, .int .i64 c.right.vkind, .int .i64 c.right.vint, .string c.right.vtext, .string c.right.var, .string c.right.field] 48 :: []) ∧ Hid (NoB c.subs (fun s => holdR ts wh known me f s == true) j))
  case atStart => exact ⟨0, by omega, rfl, M, noB_zero _ _⟩
  case round =>
    clear M
    obtain ⟨j, hj, rfl, M, HB⟩ := hrel
    by_cases hlt : j < sn
    · have hkl : j < c.subs.length := by have := NL.out; omega
      obtain ⟨ca, oa, rowa, hixa, -, hrra, hwa⟩ := SlF.rowAt (P := Tryd.prog) HS.out condF_firm Tryd.underlying42 size_cnd (i := j) hkl
      obtain ⟨so2, sn2, sc2, e1, hS2⟩ := hrra.open14
      subst e1
      have HR : Hid (∀ wx, Below w0.heap.size w0 wx → wx.rangeAt ca oa (cnd14 c.subs[j].kind so2 sn2 sc2 c.subs[j].left c.subs[j].right)) := fun wx hb => (hwa wx hb).1
      have HC : Hid (∀ wx, Below w0.heap.size w0 wx → Calls Tryd.prog 13 #[.pointer (some ⟨zv, 0, none⟩), .agg (cnd14 c.subs[j].kind so2 sn2 sc2 c.subs[j].left c.subs[j].right).toArray] wx fun e w' => e = .returned (.bool (holdR ts wh known me f c.subs[j])) ∧ Below wx.heap.size wx w') := fun wx hb => IH.out j hkl so2 sn2 sc2 wx hb (hS2.below condF_firm hb)
      have HST : Hid (holdR ts wh known me f c.subs[j] = true → holdR ts wh known me (f + 1) c = true) := fun h => hold_or_stop HK.out hkl h
      have HB2 : Hid (holdR ts wh known me f c.subs[j] = false → NoB c.subs (fun s => holdR ts wh known me f s == true) (j + 1)) := fun h => noB_succ HB.out hkl (by simp [h])
      clear hwa hrra hS2 HB
      generalize holdR ts wh known me f c.subs[j] = b at HC HST HB2
      generalize c.subs[j] = s at HR HC
      clear hkl
      unfold cnd14 at HR HC
      cases b with
      | true =>
        have HV := Lib.hid (HST.out rfl)
        clear HST HB2
        go_wp2_with (first | (with_reducible (first | (refine wV M ?_; clear M; intro zt w M) | refine wl M ?_ | refine wlg M ?_ | (refine ws M ?_; clear M; intro w M) | (refine wsc M ?_; clear M; intro w M) | (refine wV M ?_; clear M; intro z w M) | (refine wR M ?_; clear M; intro q w M) | refine o_skipT ?_ | refine o_skipF ?_ | refine wA (HR.out _ M.new) ?_)))
        (refine wp_region_any (by kernel_rfl) ?_; (try (change wpAny _ _ _ _ _ _ _ (World.drew _))); replace M := M.drew; generalize World.drew _ = w at M ⊢; have S := St.o; ((refine tk 0 (v := ?_) rfl (by kernel_rfl) rfl ?_ ?_; rotate_left; focus (intro w; go_simp; try with_reducible rfl)); (try go_simp); (refine tk 3 (v := ?_) rfl (by kernel_rfl) rfl ?_ ?_; rotate_left; focus (intro w; go_simp; try with_reducible rfl)); (try go_simp); replace S := S.add 9; refine rd2 1 4 (by kernel_rfl) rfl rfl ?_ rfl rfl ?_ <;> intro K hK); all_goals (first | (refine o_dst (some 33) ?_; (first | refine q_all M (by rfl) ?_ | refine q_get M (by exact rfl) ?_ | refine q_prt M (by rfl) ?_); (all_goals (refine hK _ _ ?_; clear hK K; replace S := S.add 2))) | (refine o_dst (some 36) ?_; (first | refine q_all M (by rfl) ?_ | refine q_get M (by exact rfl) ?_ | refine q_prt M (by rfl) ?_); (all_goals (refine hK _ _ ?_; clear hK K; replace S := S.add 16)))); all_goals (first | (replace S : St 11 := S; refine rd2 2 4 (by kernel_rfl) rfl rfl ?_ rfl rfl ?_ <;> intro K hK) | (replace S : St 25 := S; (refine tk 5 (v := ?_) rfl (by kernel_rfl) rfl ?_ ?_; rotate_left; focus (intro w; go_simp; try with_reducible rfl)); (try go_simp); replace S := S.add 32; refine rd1 1 (by kernel_rfl) rfl rfl ?_ <;> intro K hK)); all_goals (first | (refine o_dst (some 34) ?_; (refine owp_of ?_; go_simp; (go_at_call 13; with_reducible refine (HC.out _ M.new).mono ?_; rintro e w5 ⟨rfl, hb5⟩; replace M := M.below hb5; clear hb5); (try go_simp)); (all_goals (refine hK _ _ ?_; clear hK K; replace S := S.add 4))) | (refine o_dst (some 36) ?_; (first | refine q_all M (by rfl) ?_ | refine q_get M (by exact rfl) ?_ | refine q_prt M (by rfl) ?_); (all_goals (refine hK _ _ ?_; clear hK K; replace S := S.add 16))) | (refine o_dst (some 33) ?_; (first | refine q_all M (by rfl) ?_ | refine q_get M (by exact rfl) ?_ | refine q_prt M (by rfl) ?_); (all_goals (refine hK _ _ ?_; clear hK K; replace S := S.add 2)))); all_goals (first | (replace S : St 15 := S; refine rd1 4 (by kernel_rfl) rfl rfl ?_ <;> intro K hK) | (replace S : St 27 := S; (refine tk 5 (v := ?_) rfl (by kernel_rfl) rfl ?_ ?_; rotate_left; focus (intro w; go_simp; try with_reducible rfl)); (try go_simp); replace S := S.add 32; refine rd1 2 (by kernel_rfl) rfl rfl ?_ <;> intro K hK) | (replace S : St 59 := S; refine rd1 2 (by kernel_rfl) rfl rfl ?_ <;> intro K hK)); all_goals (first | (refine o_dst (some 36) ?_; (first | refine q_all M (by rfl) ?_ | refine q_get M (by exact rfl) ?_ | refine q_prt M (by rfl) ?_); (all_goals (refine hK _ _ ?_; clear hK K; replace S := S.add 16))) | (refine o_dst (some 34) ?_; (refine owp_of ?_; go_simp; (go_at_call 13; with_reducible refine (HC.out _ M.new).mono ?_; rintro e w5 ⟨rfl, hb5⟩; replace M := M.below hb5; clear hb5); (try go_simp)); (all_goals (refine hK _ _ ?_; clear hK K; replace S := S.add 4)))); all_goals ((first | (replace S : St 31 := S; (refine tk 5 (v := ?_) rfl (by kernel_rfl) rfl ?_ ?_; rotate_left; focus (intro w; go_simp; try with_reducible rfl)); (try go_simp); (refine tk 6 (v := ?_) rfl (by kernel_rfl) rfl ?_ ?_; rotate_left; focus (intro w; go_simp; try with_reducible rfl)); (try go_simp); refine wpAny_done (by kernel_rfl) ?_ _) | (replace S : St 63 := S; (refine tk 6 (v := ?_) rfl (by kernel_rfl) rfl ?_ ?_; rotate_left; focus (intro w; go_simp; try with_reducible rfl)); (try go_simp); refine wpAny_done (by kernel_rfl) ?_ _)); clear S))
        all_goals
          go_wp2_with (first | (with_reducible (first | refine wl M ?_ | refine wlg M ?_ | (refine ws M ?_; clear M; intro w M) | (refine wsc M ?_; clear M; intro w M) | (refine wV M ?_; clear M; intro z w M) | (refine wR M ?_; clear M; intro q w M) | refine o_skipT ?_ | refine o_skipF ?_)))
          go_ret
          rw [HV.out]
          exact ⟨rfl, M.new⟩
      | false =>
        have HB3 := Lib.hid (HB2.out rfl)
        clear HST HB2
        go_wp2_with (first | (with_reducible (first | (refine wV M ?_; clear M; intro zt w M) | refine wl M ?_ | refine wlg M ?_ | (refine ws M ?_; clear M; intro w M) | (refine wsc M ?_; clear M; intro w M) | (refine wV M ?_; clear M; intro z w M) | (refine wR M ?_; clear M; intro q w M) | refine o_skipT ?_ | refine o_skipF ?_ | refine wA (HR.out _ M.new) ?_)))
        (refine wp_region_any (by kernel_rfl) ?_; (try (change wpAny _ _ _ _ _ _ _ (World.drew _))); replace M := M.drew; generalize World.drew _ = w at M ⊢; have S := St.o; ((refine tk 0 (v := ?_) rfl (by kernel_rfl) rfl ?_ ?_; rotate_left; focus (intro w; go_simp; try with_reducible rfl)); (try go_simp); (refine tk 3 (v := ?_) rfl (by kernel_rfl) rfl ?_ ?_; rotate_left; focus (intro w; go_simp; try with_reducible rfl)); (try go_simp); replace S := S.add 9; refine rd2 1 4 (by kernel_rfl) rfl rfl ?_ rfl rfl ?_ <;> intro K hK); all_goals (first | (refine o_dst (some 33) ?_; (first | refine q_all M (by rfl) ?_ | refine q_get M (by exact rfl) ?_ | refine q_prt M (by rfl) ?_); (all_goals (refine hK _ _ ?_; clear hK K; replace S := S.add 2))) | (refine o_dst (some 36) ?_; (first | refine q_all M (by rfl) ?_ | refine q_get M (by exact rfl) ?_ | refine q_prt M (by rfl) ?_); (all_goals (refine hK _ _ ?_; clear hK K; replace S := S.add 16)))); all_goals (first | (replace S : St 11 := S; refine rd2 2 4 (by kernel_rfl) rfl rfl ?_ rfl rfl ?_ <;> intro K hK) | (replace S : St 25 := S; (refine tk 5 (v := ?_) rfl (by kernel_rfl) rfl ?_ ?_; rotate_left; focus (intro w; go_simp; try with_reducible rfl)); (try go_simp); replace S := S.add 32; refine rd1 1 (by kernel_rfl) rfl rfl ?_ <;> intro K hK)); all_goals (first | (refine o_dst (some 34) ?_; (refine owp_of ?_; go_simp; (go_at_call 13; with_reducible refine (HC.out _ M.new).mono ?_; rintro e w5 ⟨rfl, hb5⟩; replace M := M.below hb5; clear hb5); (try go_simp)); (all_goals (refine hK _ _ ?_; clear hK K; replace S := S.add 4))) | (refine o_dst (some 36) ?_; (first | refine q_all M (by rfl) ?_ | refine q_get M (by exact rfl) ?_ | refine q_prt M (by rfl) ?_); (all_goals (refine hK _ _ ?_; clear hK K; replace S := S.add 16))) | (refine o_dst (some 33) ?_; (first | refine q_all M (by rfl) ?_ | refine q_get M (by exact rfl) ?_ | refine q_prt M (by rfl) ?_); (all_goals (refine hK _ _ ?_; clear hK K; replace S := S.add 2)))); all_goals (first | (replace S : St 15 := S; refine rd1 4 (by kernel_rfl) rfl rfl ?_ <;> intro K hK) | (replace S : St 27 := S; (refine tk 5 (v := ?_) rfl (by kernel_rfl) rfl ?_ ?_; rotate_left; focus (intro w; go_simp; try with_reducible rfl)); (try go_simp); replace S := S.add 32; refine rd1 2 (by kernel_rfl) rfl rfl ?_ <;> intro K hK) | (replace S : St 59 := S; refine rd1 2 (by kernel_rfl) rfl rfl ?_ <;> intro K hK)); all_goals (first | (refine o_dst (some 36) ?_; (first | refine q_all M (by rfl) ?_ | refine q_get M (by exact rfl) ?_ | refine q_prt M (by rfl) ?_); (all_goals (refine hK _ _ ?_; clear hK K; replace S := S.add 16))) | (refine o_dst (some 34) ?_; (refine owp_of ?_; go_simp; (go_at_call 13; with_reducible refine (HC.out _ M.new).mono ?_; rintro e w5 ⟨rfl, hb5⟩; replace M := M.below hb5; clear hb5); (try go_simp)); (all_goals (refine hK _ _ ?_; clear hK K; replace S := S.add 4)))); all_goals ((first | (replace S : St 31 := S; (refine tk 5 (v := ?_) rfl (by kernel_rfl) rfl ?_ ?_; rotate_left; focus (intro w; go_simp; try with_reducible rfl)); (try go_simp); (refine tk 6 (v := ?_) rfl (by kernel_rfl) rfl ?_ ?_; rotate_left; focus (intro w; go_simp; try with_reducible rfl)); (try go_simp); refine wpAny_done (by kernel_rfl) ?_ _) | (replace S : St 63 := S; (refine tk 6 (v := ?_) rfl (by kernel_rfl) rfl ?_ ?_; rotate_left; focus (intro w; go_simp; try with_reducible rfl)); (try go_simp); refine wpAny_done (by kernel_rfl) ?_ _)); clear S))
        all_goals
          go_wp2_with (first | (with_reducible (first | refine wl M ?_ | refine wlg M ?_ | (refine ws M ?_; clear M; intro w M) | (refine wsc M ?_; clear M; intro w M) | (refine wV M ?_; clear M; intro z w M) | (refine wR M ?_; clear M; intro q w M) | refine o_skipT ?_ | refine o_skipF ?_)))
          go_roundg (sn - (j + 1))
          case measure => omega
          case rel => exact ⟨j + 1, by omega, by go_num, M.drop, HB3⟩
    · have HV := Lib.hid (hold_or_end (ts := ts) (wh := wh) (known := known) (me := me) (f := f) HK.out (by have e : j = c.subs.length := (by have := NL.out; omega); rw [← e]; exact HB.out))
      clear HB
      go_wp2_with (first | (with_reducible (first | refine wl M ?_ | refine wlg M ?_ | (refine ws M ?_; clear M; intro w M) | (refine wsc M ?_; clear M; intro w M) | (refine wV M ?_; clear M; intro z w M) | (refine wR M ?_; clear M; intro q w M) | refine o_skipT ?_ | refine o_skipF ?_)))
      go_ret
      rw [HV.out]
      exact ⟨rfl, M.new⟩
set_option maxRecDepth 8000 in
set_option maxHeartbeats 8000000 in
theorem holds_test (V : View F w0 zv v ts names known me) (c : Cond) (hN : names = vars (wh.take known.length)) (hle : known.length ≤ wh.length) (hf : CondFit c) (hk : 4 ≤ c.kind ∧ c.kind ≤ 7) (hl : SideGood ts wh known me c.left) (hr : SideGood ts wh known me c.right) (hc : cmpE (sideV ts wh known me c.left) (sideV ts wh known me c.right) = 0) :
    Calls Tryd.prog 13 #[.pointer (some ⟨zv, 0, none⟩), .agg (cnd14 c.kind so sn sc c.left c.right).toArray] w0 fun e w' => e = .returned (.bool (holdR ts wh known me (f + 1) c)) ∧ Below w0.heap.size w0 w' := by
  have M := Mem.begin V.lt ⟨0, 0⟩
  have HV := Lib.hid (hold_test (ts := ts) (wh := wh) (known := known) (me := me) (f := f) hk.1)
  have HSL : Hid (∀ wx, Below w0.heap.size w0 wx → Calls Tryd.prog 30 #[.pointer (some ⟨zv, 0, none⟩), .agg (opdC c.left).toArray] wx fun e w' => e = .returned (valR3 (sideV ts wh known me c.left)) ∧ Below wx.heap.size wx w') := fun wx hb => viewSide_any (V.below hb) hN hle c.left hl
  have HSR : Hid (∀ wx, Below w0.heap.size w0 wx → Calls Tryd.prog 30 #[.pointer (some ⟨zv, 0, none⟩), .agg (opdC c.right).toArray] wx fun e w' => e = .returned (valR3 (sideV ts wh known me c.right)) ∧ Below wx.heap.size wx w') := fun wx hb => viewSide_any (V.below hb) hN hle c.right hr
  have HCM : Hid (∀ wx, Calls Tryd.prog 29 #[valR3 (sideV ts wh known me c.left), valR3 (sideV ts wh known me c.right)] wx fun e w' => e = .returned (.tuple #[.int .i64 (cmpV (sideV ts wh known me c.left) (sideV ts wh known me c.right)), .int .i64 0]) ∧ Below wx.heap.size wx w') := fun wx => by
    have h := compare_any (sideV ts wh known me c.left) (sideV ts wh known me c.right) wx (sideV_fit hf.left V.okO V.okK hl) (sideV_fit hf.right V.okO V.okK hr)
    rw [show cmpX (sideV ts wh known me c.left) (sideV ts wh known me c.right) = cmpV (sideV ts wh known me c.left) (sideV ts wh known me c.right) by unfold cmpX; rw [if_pos hc], hc] at h
    exact h
  have HKK : Hid (4 ≤ c.kind ∧ c.kind ≤ 7) := hk
  have k0 : (c.kind == 0) = false := by simp; omega
  have k1 : (c.kind == 1) = false := by simp; omega
  have k2 : (c.kind == 2) = false := by simp; omega
  have k3 : (c.kind == 3) = false := by simp; omega
  generalize cmpV (sideV ts wh known me c.left) (sideV ts wh known me c.right) = n at HCM HV
  generalize sideV ts wh known me c.left = x at HSL HCM
  generalize sideV ts wh known me c.right = y at HSR HCM
  unfold opdC valR3 at HSL HSR
  unfold valR3 at HCM
  unfold cnd14
  generalize c.left = lo at HSL
  generalize c.right = ro at HSR
  generalize c.kind = k at *
  clear V hN hle hf hk hl hr hc
  go_enter Tryd.func13, Tryd.ntmps13
  go_wp2_with (first | (with_reducible (first | (refine wB (L := []) M ?_; clear M; intro za w1 M) | refine wl M ?_ | refine wlg M ?_ | (refine ws M ?_; clear M; intro w M) | (refine wsc M ?_; clear M; intro w M) | (refine wV M ?_; clear M; intro z w M) | (refine wR M ?_; clear M; intro q w M) | refine o_skipT ?_ | refine o_skipF ?_)))
  (refine wp_region_any (by kernel_rfl) ?_; (try (change wpAny _ _ _ _ _ _ _ (World.drew _))); replace M := M.drew; generalize World.drew _ = w at M ⊢; have S := St.o; ((refine tk 0 (v := ?_) rfl (by kernel_rfl) rfl ?_ ?_; rotate_left; focus (intro w; go_simp; try with_reducible rfl)); (try go_simp); (refine tk 1 (v := ?_) rfl (by kernel_rfl) rfl ?_ ?_; rotate_left; focus (intro w; go_simp; try with_reducible rfl)); (try go_simp); (refine tk 4 (v := ?_) rfl (by kernel_rfl) rfl ?_ ?_; rotate_left; focus (intro w; go_simp; try with_reducible rfl)); (try go_simp); (refine tk 5 (v := ?_) rfl (by kernel_rfl) rfl ?_ ?_; rotate_left; focus (intro w; go_simp; try with_reducible rfl)); (try go_simp); replace S := S.add 51; refine rd2 2 6 (by kernel_rfl) rfl rfl ?_ rfl rfl ?_ <;> intro K hK); all_goals (first | (refine o_dst (some 49) ?_; (first | refine q_all M (by rfl) ?_ | refine q_get M (by exact rfl) ?_ | refine q_prt M (by rfl) ?_); (all_goals (refine hK _ _ ?_; clear hK K; replace S := S.add 4))) | (refine o_dst (some 53) ?_; (first | refine q_all M (by rfl) ?_ | refine q_get M (by exact rfl) ?_ | refine q_prt M (by rfl) ?_); (all_goals (refine hK _ _ ?_; clear hK K; replace S := S.add 64)))); all_goals (first | (replace S : St 55 := S; refine rd2 3 6 (by kernel_rfl) rfl rfl ?_ rfl rfl ?_ <;> intro K hK) | (replace S : St 115 := S; refine rd1 2 (by kernel_rfl) rfl rfl ?_ <;> intro K hK)); all_goals (first | (refine o_dst (some 50) ?_; (refine owp_of ?_; go_simp; (first | (go_at_call 30; with_reducible refine (HSL.out _ M.new).mono ?_; rintro e w5 ⟨rfl, hb5⟩; replace M := M.below hb5; clear hb5) | (go_at_call 30; with_reducible refine (HSR.out _ M.new).mono ?_; rintro e w5 ⟨rfl, hb5⟩; replace M := M.below hb5; clear hb5) | (go_at_call 29; with_reducible refine (HCM.out _).mono ?_; rintro e w5 ⟨rfl, hb5⟩; replace M := M.below hb5; clear hb5)); (try go_simp)); (all_goals (refine hK _ _ ?_; clear hK K; replace S := S.add 8))) | (refine o_dst (some 53) ?_; (first | refine q_all M (by rfl) ?_ | refine q_get M (by exact rfl) ?_ | refine q_prt M (by rfl) ?_); (all_goals (refine hK _ _ ?_; clear hK K; replace S := S.add 64))) | (refine o_dst (some 49) ?_; (first | refine q_all M (by rfl) ?_ | refine q_get M (by exact rfl) ?_ | refine q_prt M (by rfl) ?_); (all_goals (refine hK _ _ ?_; clear hK K; replace S := S.add 4)))); all_goals (first | (replace S : St 63 := S; refine rd1 6 (by kernel_rfl) rfl rfl ?_ <;> intro K hK) | (replace S : St 119 := S; refine rd1 3 (by kernel_rfl) rfl rfl ?_ <;> intro K hK)); all_goals (first | (refine o_dst (some 53) ?_; (first | refine q_all M (by rfl) ?_ | refine q_get M (by exact rfl) ?_ | refine q_prt M (by rfl) ?_); (all_goals (refine hK _ _ ?_; clear hK K; replace S := S.add 64))) | (refine o_dst (some 50) ?_; (refine owp_of ?_; go_simp; (first | (go_at_call 30; with_reducible refine (HSL.out _ M.new).mono ?_; rintro e w5 ⟨rfl, hb5⟩; replace M := M.below hb5; clear hb5) | (go_at_call 30; with_reducible refine (HSR.out _ M.new).mono ?_; rintro e w5 ⟨rfl, hb5⟩; replace M := M.below hb5; clear hb5) | (go_at_call 29; with_reducible refine (HCM.out _).mono ?_; rintro e w5 ⟨rfl, hb5⟩; replace M := M.below hb5; clear hb5)); (try go_simp)); (all_goals (refine hK _ _ ?_; clear hK K; replace S := S.add 8)))); all_goals (refine rd1 7 (by kernel_rfl) rfl rfl ?_ <;> intro K hK); all_goals (refine o_dst (some 54) ?_; (refine owp_of ?_; go_simp; (first | (go_at_call 30; with_reducible refine (HSL.out _ M.new).mono ?_; rintro e w5 ⟨rfl, hb5⟩; replace M := M.below hb5; clear hb5) | (go_at_call 30; with_reducible refine (HSR.out _ M.new).mono ?_; rintro e w5 ⟨rfl, hb5⟩; replace M := M.below hb5; clear hb5) | (go_at_call 29; with_reducible refine (HCM.out _).mono ?_; rintro e w5 ⟨rfl, hb5⟩; replace M := M.below hb5; clear hb5)); (try go_simp)); (all_goals (refine hK _ _ ?_; clear hK K; replace S := S.add 128))); all_goals (refine rd1 8 (by kernel_rfl) rfl rfl ?_ <;> intro K hK); all_goals (refine o_dst (some 55) ?_; (refine owp_of ?_; go_simp; (first | (go_at_call 30; with_reducible refine (HSL.out _ M.new).mono ?_; rintro e w5 ⟨rfl, hb5⟩; replace M := M.below hb5; clear hb5) | (go_at_call 30; with_reducible refine (HSR.out _ M.new).mono ?_; rintro e w5 ⟨rfl, hb5⟩; replace M := M.below hb5; clear hb5) | (go_at_call 29; with_reducible refine (HCM.out _).mono ?_; rintro e w5 ⟨rfl, hb5⟩; replace M := M.below hb5; clear hb5)); (try go_simp)); (all_goals (refine hK _ _ ?_; clear hK K; replace S := S.add 256))); all_goals (clear S; ((refine tk 9 (v := ?_) rfl (by kernel_rfl) rfl ?_ ?_; rotate_left; focus (intro w; go_simp; try with_reducible rfl)); (try go_simp); (refine tk 10 (v := ?_) rfl (by kernel_rfl) rfl ?_ ?_; rotate_left; focus (intro w; go_simp; try with_reducible rfl)); (try go_simp); (refine tk 11 (v := ?_) rfl (by kernel_rfl) rfl ?_ ?_; rotate_left; focus (intro w; go_simp; try with_reducible rfl)); (try go_simp); (refine tk 12 (v := ?_) rfl (by kernel_rfl) rfl ?_ ?_; rotate_left; focus (intro w; go_simp; try with_reducible rfl)); (try go_simp); (refine tk 13 (v := ?_) rfl (by kernel_rfl) rfl ?_ ?_; rotate_left; focus (intro w; go_simp; try with_reducible rfl)); (try go_simp); refine wpAny_done (by kernel_rfl) ?_ _)))
  all_goals
    obtain ⟨h4, h7⟩ := HKK.out
    obtain rfl | rfl | rfl | rfl : k = 4 ∨ k = 5 ∨ k = 6 ∨ k = 7 := by omega
    all_goals
      clear h4 h7
      go_wp2_with (first | (with_reducible (first | refine wl M ?_ | refine wlg M ?_ | (refine ws M ?_; clear M; intro w M) | (refine wsc M ?_; clear M; intro w M) | (refine wV M ?_; clear M; intro z w M) | (refine wR M ?_; clear M; intro q w M) | refine o_skipT ?_ | refine o_skipF ?_)))
      go_ret
      rw [HV.out]
      exact ⟨by simp [testB], M.new⟩
theorem holds_any (V : View F w0 zv v ts names known me) (hN : names = vars (wh.take known.length)) (hle : known.length ≤ wh.length) :
    ∀ (f : Nat) (c : Cond) (so : Option Addr) (sn sc : Nat) (wx : World), Below w0.heap.size w0 wx → SlF S wx 14 CondF so sn sc c.subs → CondFit c → HoldGood ts wh known me f c →
      Calls Tryd.prog 13 #[.pointer (some ⟨zv, 0, none⟩), .agg (cnd14 c.kind so sn sc c.left c.right).toArray] wx fun e w' => e = .returned (.bool (holdR ts wh known me f c)) ∧ Below wx.heap.size wx w'
  | 0, c, so, sn, sc, wx, hb, hS, hf, hG => absurd hG (by unfold HoldGood; exact id)
  | f + 1, c, so, sn, sc, wx, hb, hS, hf, hG => by
    unfold HoldGood at hG
    rcases hG with h | ⟨h, h1, hs⟩ | ⟨h, hs⟩ | ⟨h4, h7, hl, hr, hc⟩
    · exact holds_zero (V.below hb) c h
    · exact holds_not (V.below hb) c hS (fun j hj so2 sn2 sc2 wy hby hS2 => holds_any V hN hle f c.subs[j] so2 sn2 sc2 wy (hb.trans (hby.mono hb.size)) hS2 (hf.subs _ (List.getElem_mem hj)) (hs _ (List.getElem_mem hj))) h h1
    · rcases h with h | h
      · exact holds_and (V.below hb) c hS (fun j hj so2 sn2 sc2 wy hby hS2 => holds_any V hN hle f c.subs[j] so2 sn2 sc2 wy (hb.trans (hby.mono hb.size)) hS2 (hf.subs _ (List.getElem_mem hj)) (hs _ (List.getElem_mem hj))) h
      · exact holds_or (V.below hb) c hS (fun j hj so2 sn2 sc2 wy hby hS2 => holds_any V hN hle f c.subs[j] so2 sn2 sc2 wy (hb.trans (hby.mono hb.size)) hS2 (hf.subs _ (List.getElem_mem hj)) (hs _ (List.getElem_mem hj))) h
    · exact holds_test (V.below hb) c hN hle hf ⟨h4, h7⟩ hl hr hc
end
end Go.Proofs.YthlnheckaoeooaaDoor
/-
  The walk of sift: a pattern of a part of a rule. Printed by sfd.py.
-/
namespace Go.Proofs.YthlnheckaoeooaaDoor
open Go.RowKit
set_option linter.unusedVariables false
set_option linter.unusedSimpArgs false

section
variable {At : PS → World → Prop} {b : Nat} {u w : World} {s : PS} {L : List Ent} {P : Program} {l : List Value}
theorem q_ret2c {fn : Func} {R : Ending → World → Prop} {j t1 : Tmp} {ty : TypeId} {z : Nat} {cs : List Value} {t : TypeId} {i m : Nat} {r1 : Value} (M : Mem At b u w s L) (hres : fn.results = #[.cell j ty, .tmp t1]) [hp : Nth l j (.pointer (some ⟨z, 0, none⟩))] [h1 : Nth l t1 r1]
    [hz : Has L z i cs t] [hT : StI P ty m] (hl : Nat.beq cs.length m = true) (hk : ∃ d, P.underlying ty = some d ∧ (match d with | .struct _ | .array _ _ => true | _ => false) = true) (hR : R (.returned (.tuple #[.agg cs.toArray, r1])) w) : bodyPost P fn R .ret ⟨l.toArray, []⟩ w := by
  obtain ⟨d, hu, hd⟩ := hk
  have hO := M.own_ (Mem.of_get hz.at_)
  have hp' : (l.toArray)[j]?.getD undef = .pointer (some ⟨z, 0, none⟩) := by simp [hp.nth]
  have h1' : (l.toArray)[t1]?.getD undef = r1 := by simp [h1.nth]
  refine bodyPost_ret ?_ rfl hR
  have hi : (P.info? ty).map (·.size) = some cs.toArray.size := by rw [List.size_toArray, Nat.eq_of_beq_eq_true hl]; exact hT.st.1
  have hL := run_loadVar_row w z t ty cs.toArray (0, 0) d hO hu (by cases d <;> simp_all) hi
  simp only [List.getElem?_toArray] at hp' h1'
  simp [results, hres, hp', h1', asAddr, hL]
end
/-- Rows as they are. -/
def rawF : (Nat → Prop) → World → List Value → List Value → Prop := plainF fun r => r
theorem rawF_firm : Firm rawF := plainF_firm _
theorem rawF_mk (F : Nat → Prop) (w : World) (row : List Value) : rawF F w row row := rfl
def pat18z : List Value := [.string ByteArray.empty, .string ByteArray.empty, .int .i64 0, .slice none 0 0, .int .i64 0, .int .i64 0, .int .i64 0, .string ByteArray.empty, .string ByteArray.empty, .string ByteArray.empty, .int .i64 0, .int .i64 0, .int .i64 0, .string ByteArray.empty, .string ByteArray.empty, .string ByteArray.empty, .int .i64 0, .int .i64 0]
/-- Rows of the patterns of a list, one behind the other. -/
def PatRows (F : Nat → Prop) (w : World) (l : List Pat) (rows : List (List Value)) : Prop := ∀ i (h : i < rows.length), ∃ p, l[i]? = some p ∧ patF F w rows[i] p
theorem patRows_snoc {F : Nat → Prop} {w : World} {l : List Pat} {rows : List (List Value)} {row : List Value} {p : Pat} (h : PatRows F w l rows) (hp : l[rows.length]? = some p) (hr : patF F w row p) : PatRows F w l (rows ++ [row]) := fun i hi => by
  by_cases e : i < rows.length
  · rw [List.getElem_append_left e]; exact h i e
  · have e2 : i = rows.length := by simp at hi; omega
    subst e2
    exact ⟨p, hp, by simpa using hr⟩
/-- What pattern answers. -/
def PatPost (F : Nat → Prop) (wz w0 : World) (l : List Pat) (k : Int) : Ending → World → Prop := fun e w' => Below w0.heap.size w0 w' ∧
  ((0 ≤ k ∧ k < l.length) → ∃ row, e = .returned (.tuple #[.agg row.toArray, .bool true]) ∧ patF F wz row (l.getD k.toNat pat0)) ∧ (¬ (0 ≤ k ∧ k < l.length) → e = .returned (.tuple #[.agg pat18z.toArray, .bool false]))
section
variable {F : Nat → Prop} {wz w0 : World} {g : Nat} {x : Rul} {b1 : Option Addr} {m1 e1 : Nat} {b2 : Option Addr} {m2 e2 : Nat} {b3 : Option Addr} {m3 e3 : Nat} {b4 : Option Addr} {m4 e4 : Nat} {b6 : Option Addr} {m6 e6 : Nat}
theorem pat_bad {l : List Pat} {k : Int} {w' : World} (hb : Below w0.heap.size w0 w') (h : ¬ (0 ≤ k ∧ k < l.length)) {e : Ending} (he : e = .returned (.tuple #[.agg pat18z.toArray, .bool false])) : PatPost F wz w0 l k e w' := ⟨hb, fun h2 => absurd h2 h, fun _ => he⟩
theorem pat_ok {l : List Pat} {k : Int} {w' : World} (hb : Below w0.heap.size w0 w') {row : List Value} (h : 0 ≤ k ∧ k < l.length) {e : Ending} (he : e = .returned (.tuple #[.agg row.toArray, .bool true])) (hr : patF F wz row (l.getD k.toNat pat0)) : PatPost F wz w0 l k e w' := ⟨hb, fun _ => ⟨row, he, hr⟩, fun h2 => absurd h h2⟩
set_option maxRecDepth 8000 in
set_option maxHeartbeats 8000000 in
theorem pattern_whens (hg : g < w0.heap.size) (hbw : Below wz.heap.size wz w0) (X : SlF F wz 18 patF b1 m1 e1 x.whens) (k : Int) : Calls Tryd.prog 11 #[.agg (rulC x (.slice b1 m1 e1) (.slice b2 m2 e2) (.slice b3 m3 e3) (.slice b4 m4 e4) (.slice b6 m6 e6)).toArray, .int .i64 0, .int .i64 k] w0 (PatPost F wz w0 x.whens k) := by
  have M := Mem.begin hg ⟨0, 0⟩
  have N := X.len
  have hle := X.le
  unfold rulC
  by_cases h0 : k < 0
  · have hbad : Hid (¬ (0 ≤ k ∧ k < x.whens.length)) := by show ¬ _; omega
    clear X N hg hbw
    go_enter Tryd.func11, Tryd.ntmps11
    go_wp2_with (first | (with_reducible (first | (refine wB (L := []) M ?_; clear M; intro za w1 M) | (refine wV M ?_; clear M; intro zr w M) | refine wl M ?_ | refine wlg M ?_ | (refine ws M ?_; clear M; intro w M) | (refine wsc M ?_; clear M; intro w M) | (refine wV M ?_; clear M; intro z w M) | (refine wR M ?_; clear M; intro q w M) | refine o_skipT ?_ | refine o_skipF ?_)))
    ((try show bodyPost _ _ _ _ _ _); refine q_ret2c M Tryd.results11 (by rfl) ⟨_, Tryd.underlying50, rfl⟩ ?_)
    exact pat_bad M.new hbad.out rfl
  · by_cases h1 : (m1 : Int) ≤ k
    · have hbad : Hid (¬ (0 ≤ k ∧ k < x.whens.length)) := by show ¬ _; omega
      clear X N hg hbw
      go_enter Tryd.func11, Tryd.ntmps11
      go_wp2_with (first | (with_reducible (first | (refine wB (L := []) M ?_; clear M; intro za w1 M) | (refine wV M ?_; clear M; intro zr w M) | refine wl M ?_ | refine wlg M ?_ | (refine ws M ?_; clear M; intro w M) | (refine wsc M ?_; clear M; intro w M) | (refine wV M ?_; clear M; intro z w M) | (refine wR M ?_; clear M; intro q w M) | refine o_skipT ?_ | refine o_skipF ?_)))
      ((try show bodyPost _ _ _ _ _ _); refine q_ret2c M Tryd.results11 (by rfl) ⟨_, Tryd.underlying50, rfl⟩ ?_)
      exact pat_bad M.new hbad.out rfl
    · have hok : Hid (0 ≤ k ∧ k < x.whens.length) := by show _ ∧ _; omega
      have hkl : k.toNat < x.whens.length := by omega
      obtain ⟨ct, ot, rowt, hixt, -, hrrt, hwt⟩ := SlF.rowAt (P := Tryd.prog) X patF_firm Tryd.underlying53 size_pat (i := k.toNat) hkl
      rw [show ((k.toNat : Nat) : Int) = k from Int.toNat_of_nonneg (by omega)] at hixt
      have HP : Hid (patF F wz rowt (x.whens.getD k.toNat pat0)) := by show patF _ _ _ _; rw [show x.whens.getD k.toNat pat0 = x.whens[k.toNat] by simp [List.getD, List.getElem?_eq_getElem hkl]]; exact hrrt
      obtain ⟨p1, q1, s1, et, -⟩ := hrrt
      subst et
      have HR := Lib.hid (fun wx (hb : Below w0.heap.size w0 wx) => (hwt wx (hbw.trans (hb.mono hbw.size))).1)
      generalize x.whens[k.toNat] = y at HP HR
      unfold patC cndC opdC at HR
      simp only [List.cons_append, List.nil_append] at HR
      clear X N hg hbw hwt hkl
      go_enter Tryd.func11, Tryd.ntmps11
      go_wp2_with (first | (with_reducible (first | (refine wB (L := []) M ?_; clear M; intro za w1 M) | (refine wV M ?_; clear M; intro zr w M) | refine wl M ?_ | refine wlg M ?_ | (refine ws M ?_; clear M; intro w M) | (refine wsc M ?_; clear M; intro w M) | (refine wV M ?_; clear M; intro z w M) | (refine wR M ?_; clear M; intro q w M) | refine o_skipT ?_ | refine o_skipF ?_ | refine wA (HR.out _ M.new) ?_)) | ((with_reducible refine o_list rfl fun K hK => ?_); refine q_in M (by rfl) (by rfl) (by rfl) ?_; clear M; intro w M; (try simp only [List.set_cons_zero, List.set_cons_succ, laid, opdC, List.take_succ_cons, List.take_zero, List.drop_succ_cons, List.drop_zero, List.length_cons, List.length_nil, List.cons_append, List.nil_append, Nat.reduceAdd, Nat.zero_add] at M); refine hK _ _ ?_; clear hK K))
      ((try show bodyPost _ _ _ _ _ _); refine q_ret2c M Tryd.results11 (by rfl) ⟨_, Tryd.underlying50, rfl⟩ ?_)
      exact pat_ok M.new hok.out rfl HP.out
set_option maxRecDepth 8000 in
set_option maxHeartbeats 8000000 in
theorem pattern_nots (hg : g < w0.heap.size) (hbw : Below wz.heap.size wz w0) (X : SlF F wz 18 patF b2 m2 e2 x.nots) (k : Int) : Calls Tryd.prog 11 #[.agg (rulC x (.slice b1 m1 e1) (.slice b2 m2 e2) (.slice b3 m3 e3) (.slice b4 m4 e4) (.slice b6 m6 e6)).toArray, .int .i64 1, .int .i64 k] w0 (PatPost F wz w0 x.nots k) := by
  have M := Mem.begin hg ⟨0, 0⟩
  have N := X.len
  have hle := X.le
  unfold rulC
  by_cases h0 : k < 0
  · have hbad : Hid (¬ (0 ≤ k ∧ k < x.nots.length)) := by show ¬ _; omega
    clear X N hg hbw
    go_enter Tryd.func11, Tryd.ntmps11
    go_wp2_with (first | (with_reducible (first | (refine wB (L := []) M ?_; clear M; intro za w1 M) | (refine wV M ?_; clear M; intro zr w M) | refine wl M ?_ | refine wlg M ?_ | (refine ws M ?_; clear M; intro w M) | (refine wsc M ?_; clear M; intro w M) | (refine wV M ?_; clear M; intro z w M) | (refine wR M ?_; clear M; intro q w M) | refine o_skipT ?_ | refine o_skipF ?_)))
    ((try show bodyPost _ _ _ _ _ _); refine q_ret2c M Tryd.results11 (by rfl) ⟨_, Tryd.underlying50, rfl⟩ ?_)
    exact pat_bad M.new hbad.out rfl
  · by_cases h1 : (m2 : Int) ≤ k
    · have hbad : Hid (¬ (0 ≤ k ∧ k < x.nots.length)) := by show ¬ _; omega
      clear X N hg hbw
      go_enter Tryd.func11, Tryd.ntmps11
      go_wp2_with (first | (with_reducible (first | (refine wB (L := []) M ?_; clear M; intro za w1 M) | (refine wV M ?_; clear M; intro zr w M) | refine wl M ?_ | refine wlg M ?_ | (refine ws M ?_; clear M; intro w M) | (refine wsc M ?_; clear M; intro w M) | (refine wV M ?_; clear M; intro z w M) | (refine wR M ?_; clear M; intro q w M) | refine o_skipT ?_ | refine o_skipF ?_)))
      ((try show bodyPost _ _ _ _ _ _); refine q_ret2c M Tryd.results11 (by rfl) ⟨_, Tryd.underlying50, rfl⟩ ?_)
      exact pat_bad M.new hbad.out rfl
    · have hok : Hid (0 ≤ k ∧ k < x.nots.length) := by show _ ∧ _; omega
      have hkl : k.toNat < x.nots.length := by omega
      obtain ⟨ct, ot, rowt, hixt, -, hrrt, hwt⟩ := SlF.rowAt (P := Tryd.prog) X patF_firm Tryd.underlying53 size_pat (i := k.toNat) hkl
      rw [show ((k.toNat : Nat) : Int) = k from Int.toNat_of_nonneg (by omega)] at hixt
      have HP : Hid (patF F wz rowt (x.nots.getD k.toNat pat0)) := by show patF _ _ _ _; rw [show x.nots.getD k.toNat pat0 = x.nots[k.toNat] by simp [List.getD, List.getElem?_eq_getElem hkl]]; exact hrrt
      obtain ⟨p1, q1, s1, et, -⟩ := hrrt
      subst et
      have HR := Lib.hid (fun wx (hb : Below w0.heap.size w0 wx) => (hwt wx (hbw.trans (hb.mono hbw.size))).1)
      generalize x.nots[k.toNat] = y at HP HR
      unfold patC cndC opdC at HR
      simp only [List.cons_append, List.nil_append] at HR
      clear X N hg hbw hwt hkl
      go_enter Tryd.func11, Tryd.ntmps11
      go_wp2_with (first | (with_reducible (first | (refine wB (L := []) M ?_; clear M; intro za w1 M) | (refine wV M ?_; clear M; intro zr w M) | refine wl M ?_ | refine wlg M ?_ | (refine ws M ?_; clear M; intro w M) | (refine wsc M ?_; clear M; intro w M) | (refine wV M ?_; clear M; intro z w M) | (refine wR M ?_; clear M; intro q w M) | refine o_skipT ?_ | refine o_skipF ?_ | refine wA (HR.out _ M.new) ?_)) | ((with_reducible refine o_list rfl fun K hK => ?_); refine q_in M (by rfl) (by rfl) (by rfl) ?_; clear M; intro w M; (try simp only [List.set_cons_zero, List.set_cons_succ, laid, opdC, List.take_succ_cons, List.take_zero, List.drop_succ_cons, List.drop_zero, List.length_cons, List.length_nil, List.cons_append, List.nil_append, Nat.reduceAdd, Nat.zero_add] at M); refine hK _ _ ?_; clear hK K))
      ((try show bodyPost _ _ _ _ _ _); refine q_ret2c M Tryd.results11 (by rfl) ⟨_, Tryd.underlying50, rfl⟩ ?_)
      exact pat_ok M.new hok.out rfl HP.out
set_option maxRecDepth 8000 in
set_option maxHeartbeats 8000000 in
theorem pattern_manies (hg : g < w0.heap.size) (hbw : Below wz.heap.size wz w0) (X : SlF F wz 20 manF b3 m3 e3 x.manies) (hsm : x.manies.length ≤ 100000) (k : Int) : Calls Tryd.prog 11 #[.agg (rulC x (.slice b1 m1 e1) (.slice b2 m2 e2) (.slice b3 m3 e3) (.slice b4 m4 e4) (.slice b6 m6 e6)).toArray, .int .i64 2, .int .i64 k] w0 (PatPost F wz w0 (x.manies.map Many.pat) k) := by
  have M := Mem.begin hg ⟨0, 0⟩
  have N := Lib.hid X.len
  have hle := X.le
  have HX := Lib.hid X
  have HSM := Lib.hid hsm
  unfold rulC
  replace hbw := Lib.hid hbw
  clear X hg hsm
  go_enter Tryd.func11, Tryd.ntmps11
  go_wp2_with (first | (with_reducible (first | (refine wB (L := []) M ?_; clear M; intro za w1 M) | (refine wV M ?_; clear M; intro zr w M) | refine wl M ?_ | refine wlg M ?_ | (refine ws M ?_; clear M; intro w M) | (refine wsc M ?_; clear M; intro w M) | (refine wV M ?_; clear M; intro z w M) | (refine wR M ?_; clear M; intro q w M) | refine o_skipT ?_ | refine o_skipF ?_)))
  replace M := M.none_ (R := rawF) rawF_firm 50 18
  go_loopg [8, 26] m3 (fun f vv i wr => ∃ (j : Nat) (rows : List (List Value)) (ra : Option Addr) (rc : Nat), j + f = m3 ∧ rows.length = j ∧ vv = .slice ra rows.length rc ∧ i = .int .i64 j ∧ Mem (StaysB g w0) g w0 wr ⟨0, 0⟩ (slc w0.heap.size 50 18 rawF (.slice ra rows.length rc) rows :: own zr [.string ByteArray.empty, .string ByteArray.empty, .int .i64 0, .slice none 0 0, .int .i64 0, .int .i64 0, .int .i64 0, .string ByteArray.empty, .string ByteArray.empty, .string ByteArray.empty, .int .i64 0, .int .i64 0, .int .i64 0, .string ByteArray.empty, .string ByteArray.empty, .string ByteArray.empty, .int .i64 0, .int .i64 0] 50 :: own za [.string x.name, .slice b1 m1 e1, .slice b2 m2 e2, .slice b3 m3 e3, .slice b4 m4 e4, .string x.etype, .slice b6 m6 e6] 60 :: []) ∧ Hid (PatRows F wz (x.manies.map Many.pat) rows))
  case atStart => exact ⟨0, [], none, 0, by omega, rfl, rfl, rfl, M, fun i hi => absurd hi (Nat.not_lt_zero i)⟩
  case round =>
    clear M
    obtain ⟨j, rows, ra, rc, hj, hrl, rfl, rfl, M, HPR⟩ := hrel
    by_cases hlt : j < m3
    · have hkl : j < x.manies.length := by have := N.out; omega
      obtain ⟨ct, ot, rowt, hixt, -, hrrt, hwt⟩ := SlF.rowAt (P := Tryd.prog) HX.out manF_firm Tryd.underlying54 size_man (i := j) hkl
      obtain ⟨p1, q1, s1, et, ut⟩ := hrrt
      subst et
      have HR := Lib.hid (fun wx (hb : Below w0.heap.size w0 wx) => (hwt wx (hbw.out.trans (hb.mono hbw.out.size))).1)
      have hlen : Hid (rows.length ≤ 100000) := by have := HSM.out; show _ ≤ _; omega
      have HPN : Hid (PatRows F wz (x.manies.map Many.pat) (rows ++ [patC x.manies[j].pat p1 q1 s1])) := patRows_snoc HPR.out (by rw [hrl]; simp [List.getElem?_eq_getElem hkl]) ⟨p1, q1, s1, rfl, ut⟩
      clear hwt HPR ut
      generalize x.manies[j] = y at HR HPN
      clear hkl
      unfold manC patC cndC opdC at HR
      unfold patC cndC opdC at HPN
      simp only [List.cons_append, List.nil_append] at HR HPN
      go_wp2_with (first | (with_reducible (first | (refine wV M ?_; clear M; intro zm w M) | refine wl M ?_ | refine wlg M ?_ | (refine ws M ?_; clear M; intro w M) | (refine wsc M ?_; clear M; intro w M) | (refine wV M ?_; clear M; intro z w M) | (refine wR M ?_; clear M; intro q w M) | refine o_skipT ?_ | refine o_skipF ?_ | refine wA (HR.out _ M.new) ?_)) | ((with_reducible refine o_list rfl fun K hK => ?_); (refine q_app (R := rawF) rawF_firm M 2 rfl [.string y.pat.var, .string y.pat.type, .int .i64 y.pat.wher.kind, .slice p1 q1 s1, .int .i64 y.pat.wher.left.kind, .int .i64 y.pat.wher.left.vkind, .int .i64 y.pat.wher.left.vint, .string y.pat.wher.left.vtext, .string y.pat.wher.left.var, .string y.pat.wher.left.field, .int .i64 y.pat.wher.right.kind, .int .i64 y.pat.wher.right.vkind, .int .i64 y.pat.wher.right.vint, .string y.pat.wher.right.vtext, .string y.pat.wher.right.var, .string y.pat.wher.right.field, .int .i64 y.pat.window, .int .i64 y.pat.n] (rawF_mk _ _ _) (by rfl) (by rfl) hlen.out ?_; clear M; intro ra2 rc2 w M; (try simp only [List.set_cons_zero, List.set_cons_succ] at M)); (refine hK _ _ ?_); clear hK K))
      go_roundg (m3 - (j + 1))
      case measure => omega
      case rel => exact ⟨j + 1, _, _, _, by omega, by rw [List.length_append, hrl]; rfl, by rw [List.length_append]; rfl, by go_num, by (have M2 := M.drop.drop); (rw [List.length_append]; exact M2), HPN⟩
    · have hjm : j = m3 := by omega
      have hml : rows.length = m3 := by omega
      have NL : Hid (m3 = (x.manies.map Many.pat).length) := by show _ = _; rw [List.length_map]; exact N.out
      clear HX HSM N
      by_cases h0 : k < 0
      · have hbad : Hid (¬ (0 ≤ k ∧ k < (x.manies.map Many.pat).length)) := by show ¬ _; omega
        clear NL
        go_wp2_with (first | (with_reducible (first | refine wl M ?_ | refine wlg M ?_ | (refine ws M ?_; clear M; intro w M) | (refine wsc M ?_; clear M; intro w M) | (refine wV M ?_; clear M; intro z w M) | (refine wR M ?_; clear M; intro q w M) | refine o_skipT ?_ | refine o_skipF ?_)))
        ((try show bodyPost _ _ _ _ _ _); refine q_ret2c M Tryd.results11 (by rfl) ⟨_, Tryd.underlying50, rfl⟩ ?_)
        exact pat_bad M.new hbad.out rfl
      · by_cases h1 : (rows.length : Int) ≤ k
        · have hbad : Hid (¬ (0 ≤ k ∧ k < (x.manies.map Many.pat).length)) := by have := NL.out; show ¬ _; omega
          clear NL hml
          go_wp2_with (first | (with_reducible (first | refine wl M ?_ | refine wlg M ?_ | (refine ws M ?_; clear M; intro w M) | (refine wsc M ?_; clear M; intro w M) | (refine wV M ?_; clear M; intro z w M) | (refine wR M ?_; clear M; intro q w M) | refine o_skipT ?_ | refine o_skipF ?_)))
          ((try show bodyPost _ _ _ _ _ _); refine q_ret2c M Tryd.results11 (by rfl) ⟨_, Tryd.underlying50, rfl⟩ ?_)
          exact pat_bad M.new hbad.out rfl
        · have hok : Hid (0 ≤ k ∧ k < (x.manies.map Many.pat).length) := by have := NL.out; show _ ∧ _; omega
          have hkl : k.toNat < rows.length := by omega
          obtain ⟨ra2, rc2, e2, M⟩ := M.done rawF_firm (by omega)
          injection e2 with e2 e3 e4
          subst e2 e4
          have hS := M.dat_ (i := 0) rfl
          obtain ⟨ct, ot, rowt, hixt, hlt, hrrt, hwt⟩ := SlF.rowAt (P := Tryd.prog) hS rawF_firm Tryd.underlying53 size_pat (i := k.toNat) hkl
          rw [show ((k.toNat : Nat) : Int) = k from Int.toNat_of_nonneg (by omega)] at hixt
          have et : rowt = rows[k.toNat] := hrrt
          obtain ⟨p, hp, hpf⟩ := HPR.out _ hkl
          rw [← et] at hpf
          have HP : Hid (patF F wz rowt ((x.manies.map Many.pat).getD k.toNat pat0)) := by show patF _ _ _ _; rw [show (x.manies.map Many.pat).getD k.toNat pat0 = p by simp only [List.getD, hp]; rfl]; exact hpf
          obtain ⟨p1, q1, s1, et2, -⟩ := hpf
          have HR := Lib.hid (hwt _ (Below.refl _ _)).1
          clear hS hwt hrrt et hp HPR NL hml hrl
          subst et2
          unfold patC cndC opdC at HR HP
          simp only [List.cons_append, List.nil_append] at HR HP
          go_wp2_with (first | (with_reducible (first | refine wl M ?_ | refine wlg M ?_ | (refine ws M ?_; clear M; intro w M) | (refine wsc M ?_; clear M; intro w M) | (refine wV M ?_; clear M; intro z w M) | (refine wR M ?_; clear M; intro q w M) | refine o_skipT ?_ | refine o_skipF ?_)) | ((with_reducible refine o_list rfl fun K hK => ?_); refine q_in M (by rfl) (by rfl) (by rfl) ?_; clear M; intro w M; (try simp only [List.set_cons_zero, List.set_cons_succ, laid, opdC, List.take_succ_cons, List.take_zero, List.drop_succ_cons, List.drop_zero, List.length_cons, List.length_nil, List.cons_append, List.nil_append, Nat.reduceAdd, Nat.zero_add] at M); refine hK _ _ ?_; clear hK K) | (with_reducible refine wA HR.out ?_))
          ((try show bodyPost _ _ _ _ _ _); refine q_ret2c M Tryd.results11 (by rfl) ⟨_, Tryd.underlying50, rfl⟩ ?_)
          exact pat_ok M.new hok.out rfl HP.out
theorem pattern_none (hg : g < w0.heap.size) (part k : Int) (hp : ¬ (0 ≤ part ∧ part ≤ 2)) : Calls Tryd.prog 11 #[.agg (rulC x (.slice b1 m1 e1) (.slice b2 m2 e2) (.slice b3 m3 e3) (.slice b4 m4 e4) (.slice b6 m6 e6)).toArray, .int .i64 part, .int .i64 k] w0 (PatPost F wz w0 [] k) := by
  have M := Mem.begin hg ⟨0, 0⟩
  have p0 : (part == 0) = false := by simp; omega
  have p1 : (part == 1) = false := by simp; omega
  have p2 : (part == 2) = false := by simp; omega
  unfold rulC
  clear hg hp
  go_enter Tryd.func11, Tryd.ntmps11
  go_wp2_with (first | (with_reducible (first | (refine wB (L := []) M ?_; clear M; intro za w1 M) | (refine wV M ?_; clear M; intro zr w M) | refine wl M ?_ | refine wlg M ?_ | (refine ws M ?_; clear M; intro w M) | (refine wsc M ?_; clear M; intro w M) | (refine wV M ?_; clear M; intro z w M) | (refine wR M ?_; clear M; intro q w M) | refine o_skipT ?_ | refine o_skipF ?_)) | ((with_reducible refine o_list rfl fun K hK => ?_); refine q_in M (by rfl) (by rfl) (by rfl) ?_; clear M; intro w M; (try simp only [List.set_cons_zero, List.set_cons_succ, laid, opdC, List.take_succ_cons, List.take_zero, List.drop_succ_cons, List.drop_zero, List.length_cons, List.length_nil, List.cons_append, List.nil_append, Nat.reduceAdd, Nat.zero_add] at M); refine hK _ _ ?_; clear hK K))
  ((try show bodyPost _ _ _ _ _ _); refine q_ret2c M Tryd.results11 (by rfl) ⟨_, Tryd.underlying50, rfl⟩ ?_)
  exact pat_bad M.new (fun h => absurd h.2 (by have := h.1; show ¬ k < 0; omega)) rfl
theorem takePat_any (hg : g < w0.heap.size) (hbw : Below wz.heap.size wz w0) (X1 : SlF F wz 18 patF b1 m1 e1 x.whens) (X2 : SlF F wz 18 patF b2 m2 e2 x.nots) (X3 : SlF F wz 20 manF b3 m3 e3 x.manies) (hsm : x.manies.length ≤ 100000) (part k : Int) : Calls Tryd.prog 11 #[.agg (rulC x (.slice b1 m1 e1) (.slice b2 m2 e2) (.slice b3 m3 e3) (.slice b4 m4 e4) (.slice b6 m6 e6)).toArray, .int .i64 part, .int .i64 k] w0 (PatPost F wz w0 (partL x part) k) := by
  unfold partL
  by_cases h0 : part = 0
  · subst h0; exact pattern_whens hg hbw X1 k
  by_cases h1 : part = 1
  · subst h1; exact pattern_nots hg hbw X2 k
  by_cases h2 : part = 2
  · subst h2; exact pattern_manies hg hbw X3 hsm k
  rw [if_neg h0, if_neg h1, if_neg h2]
  exact pattern_none hg part k (by omega)
end
end Go.Proofs.YthlnheckaoeooaaDoor
/-
  A made row, and a slice that came in behind it: one append.
-/
namespace Go.Proofs.YthlnheckaoeooaaDoor
open Go.RowKit
set_option linter.unusedVariables false
set_option linter.unusedSimpArgs false

theorem rowEve : RowT Tryd.prog 31 30 5 := ⟨Tryd.underlying31, ⟨.agg ([.int .i64 0, .int .i64 0, .int .i64 0, .int .i64 0, .slice none 0 0] : List Value).toArray, by kernel_rfl, rfl⟩, by kernel_rfl, by kernel_rfl, by omega, by omega⟩
instance iRowEve : RowI Tryd.prog 31 30 5 := ⟨rowEve⟩
theorem run_append_empty {P : Program} {t e : TypeId} {i : TypeInfo} (ht : P.underlying t = some (.slice e)) (hi : P.info? e = some i) (w : World) (vo ao : Option Addr) (n vc cap : Nat) (h : n ≤ vc) :
    (Builtin.append_ #[t, t] t #[.slice vo n vc, .slice ao 0 cap]).run P w = .ok (.slice vo n vc) w := by
  cases ao <;> cases vo <;> simp [Builtin.append_, run_underlying ht, sizeOf, typeInfo, hi, Builtin.lenOf, Builtin.firstCells, storeCells, loadCells, loadCellsFrom, h]
theorem run_join {α : Type} {P : Program} {t e : TypeId} {i : TypeInfo} {z : Value} {k bytes : Nat} (ht : P.underlying t = some (.slice e)) (hi : P.info? e = some i) (hz : i.zero = some z)
    (hsize : i.size = k) (hby : i.bytes = bytes) (hzs : z.cells.size = k) (hk : 0 < k) {F : Nat → Prop} {R : (Nat → Prop) → World → List Value → α → Prop} (hR : Firm R) (h1 : ∀ F w row x, R F w row x → ∀ u ∈ row, u.oneCell' = true)
    {w : World} {q : Nat} {row : List Value} {x : α} (ho : Own q row e w) (hrl : row.length = k) (hx : R F w row x) (hF : ∀ b, F b → b ≠ q) {ao : Option Addr} {n cap : Nat} {xs : List α} (h : SlF F w k R ao n cap xs) (hbytes : (1 + n) * bytes ≤ 140737488355328) (hsm : 1 + n ≤ maxLen) :
    ∃ ra rc w', (Builtin.append_ #[t, t] t #[.slice (some ⟨q, 0, none⟩) 1 1, .slice ao n cap]).run P w = .ok (.slice ra (1 + n) rc) w' ∧ SlF (fun _ => True) w' k R ra (1 + n) rc (x :: xs) ∧ But q w w' := by
  obtain ⟨hn, hcap, hmax, hnil, hrows⟩ := h
  have hq : q < w.heap.size := ho.lt
  rcases Nat.eq_zero_or_pos n with h0 | hpos
  · subst h0
    have e0 : xs = [] := List.eq_nil_of_length_eq_zero hn.symm
    subst e0
    refine ⟨some ⟨q, 0, none⟩, 1, w, run_append_empty ht hi w _ ao 1 1 cap (Nat.le_refl _), ⟨rfl, Nat.le_refl _, by unfold maxLen; omega, (fun h => by cases h), fun j hj => ?_⟩, But.refl _ _⟩
    have ej : j = 0 := by simp at hj; exact hj
    subst ej
    refine ⟨q, 0, row, rfl, trivial, hq, ⟨hrl, fun j hj => ?_⟩, hR _ _ _ _ _ _ (Same.wide (fun _ _ _ => trivial)) hx⟩
    simp only [Nat.zero_mul, Nat.zero_add]
    rw [ho.cell]
    simp [List.getD, List.getElem?_eq_getElem (show j < row.length by omega)]
  · have key : ∀ i : Nat, ∃ rw_ : List Value, rw_.length = k ∧ (i < n → ∃ b off, ao = some ⟨b, off, none⟩ ∧ b < w.heap.size ∧ RowAt w b (off + i * k) k rw_ ∧ ∃ hi : i < xs.length, R F w rw_ xs[i]) := by
      intro i
      by_cases hi : i < n
      · obtain ⟨b, off, rw_, e, hF, hb, hr, hx⟩ := hrows i (by omega)
        exact ⟨rw_, hr.1, fun _ => ⟨b, off, e, hb, hr, by omega, hx⟩⟩
      · exact ⟨List.replicate k undef, by simp, fun h => absurd h hi⟩
    obtain ⟨rows, hrw⟩ : ∃ rows : Nat → List Value, ∀ i, (rows i).length = k ∧ (i < n → ∃ b off, ao = some ⟨b, off, none⟩ ∧ b < w.heap.size ∧ RowAt w b (off + i * k) k (rows i) ∧ ∃ hi : i < xs.length, R F w (rows i) xs[i]) :=
      ⟨fun i => Classical.choose (key i), fun i => Classical.choose_spec (key i)⟩
    obtain ⟨hfl, hfi⟩ := flat_row rows (fun i => (hrw i).1) n
    obtain ⟨b, off, hao, hblt, _⟩ := (hrw 0).2 hpos
    subst hao
    have hcell : ∀ i j, i < n → j < k → w.cell? ⟨b, off + (i * k + j), none⟩ = some ((rows i).getD j undef) := by
      intro i j hi hj
      obtain ⟨b', off', e, _, hr, _⟩ := (hrw i).2 hi
      injection e with e; injection e with e1 e2; subst e1; subst e2
      have := hr.2 j hj
      rwa [Nat.add_assoc] at this
    have hdm : ∀ m, m < n * k → ∃ i j, i < n ∧ j < k ∧ m = i * k + j := fun m hm => ⟨m / k, m % k, (Nat.div_lt_iff_lt_mul hk).2 hm, Nat.mod_lt _ hk, by rw [Nat.mul_comm]; exact (Nat.div_add_mod m k).symm⟩
    have hown : w.ownsRow q e k (.slice (some ⟨q, 0, none⟩) 1 1) 1 row := ⟨by rw [Nat.one_mul]; exact hrl, Or.inr ⟨q, 1, row.toArray, rfl, Nat.le_refl _, ho, Nat.le_refl _, by unfold maxLen; omega, by rw [List.size_toArray, Nat.one_mul]; exact hrl, by rw [Nat.one_mul, ← hrl]; simp⟩⟩
    obtain ⟨v', w', hrun, hown', hgrown, _, hob⟩ := run_append_own_at (P := P) w q t t e i z k bytes ht hi hz hsize hby hzs hk (.slice (some ⟨q, 0, none⟩) 1 1) 1 row hown
      ⟨b, off, none⟩ n cap ((List.range n).flatMap rows) hfl (fun m u hu => by
        have hm : m < n * k := by rw [← hfl]; exact (List.getElem?_eq_some_iff.1 hu).1
        obtain ⟨i, j, hi, hj, rfl⟩ := hdm m hm
        rw [hfi i j hi hj] at hu
        rw [Go.WideShapes.add_plain, hcell i j hi hj]
        simp [List.getD, hu])
      (fun u hu => by
        obtain ⟨i, hi, hu⟩ := List.mem_flatMap.1 hu
        obtain ⟨_, _, _, _, _, _, hx⟩ := (hrw i).2 (List.mem_range.1 hi)
        exact h1 _ _ _ _ hx u hu)
      hsm hbytes (Nat.le_of_lt hq)
    have hbut : But q w w' := But.of_grown hgrown hq
    have hsame : Same F (fun _ => True) w w' := ⟨hbut.size, fun b hb hlt => ⟨trivial, hbut.rest b hlt (hF b hb)⟩⟩
    rcases hown'.2 with ⟨_, h0⟩ | ⟨g, cap', cur, hv', hg, hh, hnc, hcm, hsz, htk⟩
    · omega
    · subst hv'
      refine ⟨_, _, w', hrun, ⟨by simp only [List.length_cons]; omega, hnc, hcm, (fun h => by cases h), fun j hj => ?_⟩, hbut⟩
      have hgl : g < w'.heap.size := (Array.getElem?_eq_some_iff.1 hh).1
      have hcur : ∀ m u, (row ++ (List.range n).flatMap rows)[m]? = some u → w'.cell? ⟨g, m, none⟩ = some u := fun m u hu => by
        rw [← htk] at hu
        have hlt : m < (1 + n) * k := by
          have := (List.getElem?_eq_some_iff.1 hu).1
          rw [List.length_take] at this
          omega
        rw [List.getElem?_take, if_pos hlt] at hu
        simp only [World.cell?, hh]
        simpa using hu
      rcases j with _ | j
      · refine ⟨g, 0, row, rfl, trivial, hgl, ⟨hrl, fun j hj => ?_⟩, hR _ _ _ _ _ _ hsame hx⟩
        have h4 := hcur (0 + 0 * k + j) (row.getD j undef) (by
          simp only [Nat.zero_mul, Nat.zero_add]
          rw [List.getElem?_append_left (by omega)]
          simp [List.getD, List.getElem?_eq_getElem (show j < row.length by omega)])
        exact h4
      · have hi' : j < n := by simp only [List.length_cons] at hj; omega
        obtain ⟨_, _, _, _, _, hx', hxr⟩ := (hrw j).2 hi'
        refine ⟨g, 0, rows j, rfl, trivial, hgl, ⟨(hrw j).1, fun m hm => ?_⟩, by simpa using hR _ _ _ _ _ _ hsame hxr⟩
        refine hcur (0 + (j + 1) * k + m) ((rows j).getD m undef) ?_
        have e4 : 0 + (j + 1) * k + m = row.length + (j * k + m) := by rw [hrl, Nat.add_mul]; omega
        rw [e4, List.getElem?_append_right (by omega), Nat.add_sub_cancel_left, hfi j m hi' hm]
        simp [List.getD, List.getElem?_eq_getElem (show m < (rows j).length by rw [(hrw j).1]; exact hm)]
section
variable {At : PS → World → Prop} {b : Nat} {u w w' : World} {s : PS} {L : List Ent}
/-- An own block that turned is no longer known. -/
theorem Mem.lose {q i : Nat} {cs : List Value} {t : TypeId} (M : Mem At b u w s L) (hi : L[i]? = some (own q cs t)) (hb : But q w w') : Mem At b u w' s (L.set i (dat fun _ _ => True)) := by
  have hlow := M.low _ (Mem.of_get hi) q rfl
  have hbl : b < w.heap.size := Nat.lt_of_lt_of_le M.lt M.size
  have hne : b ≠ q := by have := M.lt; omega
  have h1 : w'.heap[b]? = w.heap[b]? := hb.rest b hbl hne
  have hsz := hb.size
  refine M.setAt hi (M.stay _ _ _ h1 M.at_) ?_ hsz (fun k hk _ hk2 => hb.rest k hk (fun e => hk2 (by rw [e]; rfl))) (dat_firm fun _ _ _ _ _ _ => trivial) (fun y hy => by cases hy) (fun y hy => by cases hy) (fun G _ _ => trivial)
  refine ⟨M.but.below.trans (hb.below.mono (by have := M.lt; omega)), fun k hk hkb => ?_⟩
  rw [hb.rest k (Nat.lt_of_lt_of_le hk M.size) (by omega)]
  exact M.but.rest k hk hkb
end
end Go.Proofs.YthlnheckaoeooaaDoor
