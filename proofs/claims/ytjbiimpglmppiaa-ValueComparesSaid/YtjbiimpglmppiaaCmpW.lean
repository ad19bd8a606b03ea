/-
  The walks of value.Compare and of its reference.
-/
import Derived.Test.YtjbiimpglmppiaaValW
import Derived.Test.YtjbiimpglmppiaaShelf
import Derived.RegionTactic
import Derived.Deep.RegionWith
import Derived.StillTailTactics
namespace Go.Proofs.Ytjbiimpglmppiaa
open Go.RowKit
set_option linter.unusedVariables false
set_option linter.unusedSimpArgs false

/-- The sign of a difference. -/
def sg (x y : Int) : Int := if x < y then -1 else if y < x then 1 else 0
set_option maxHeartbeats 400000 in
theorem sign_any (a b : Int) (w : World) :
    Calls Try.prog 61 #[.int .i64 a, .int .i64 b] w fun e w' => e = .returned (.int .i64 (sg a b)) ∧ w' = w := by
  go_enter Try.func61, Try.ntmps61
  go_wp2
  all_goals (go_ret; refine ⟨?_, rfl⟩; exact ret_int (by go_light; unfold sg; (try simp only [Bool.not_eq_true', Bool.not_eq_false', decide_eq_true_eq, decide_eq_false_iff_not] at *); (repeat' split) <;> omega))
set_option maxHeartbeats 400000 in
theorem cmpInt_any (a b : Int) (w : World) :
    Calls Try.prog 42 #[.int .i64 a, .int .i64 b] w fun e w' => e = .returned (.int .i64 (sg a b)) ∧ w' = w := by
  go_enter Try.func42, Try.ntmps42
  go_wp2
  all_goals (go_ret; refine ⟨?_, rfl⟩; exact ret_int (by go_light; unfold sg; (try simp only [Bool.not_eq_true', Bool.not_eq_false', decide_eq_true_eq, decide_eq_false_iff_not] at *); (repeat' split) <;> omega))
/-- The first of two numbers that is not 0. -/
def orI (x y : Int) : Int := if x = 0 then y else x
def ZeroI (x : Int) : Prop := x = 0
theorem ZeroI.out {x : Int} (h : ZeroI x) : x = 0 := h
set_option maxHeartbeats 400000 in
theorem or_any (x y : Int) (b : Nat) (w : World) (c0 : w.cell? ⟨b, 0, none⟩ = some (.int .i64 x)) (c1 : w.cell? ⟨b, 1, none⟩ = some (.int .i64 y)) :
    Calls Try.prog 41 #[.slice (some ⟨b, 0, none⟩) 2 2] w fun e w' => e = .returned (.int .i64 (orI x y)) ∧ w' = w := by
  go_enter Try.func41, Try.ntmps41
  go_wp2_with fail
  go_loop [8] (fun i => (i = .int .i64 0) ∨ (i = .int .i64 1 ∧ ZeroI x) ∨ (i = .int .i64 2 ∧ ZeroI x ∧ ZeroI y)) (fun i => (2 - intOf i).toNat)
  case atStart => exact Or.inl rfl
  case round =>
    rcases hrel with rfl | ⟨rfl, hx⟩ | ⟨rfl, hx, hy⟩
    · by_cases hx : x = 0
      · have hx1 : (x != 0) = false := by simp [hx]
        have X : ZeroI x := hx
        clear hx
        go_wp2
        go_round
        case rel => exact Or.inr (Or.inl ⟨rfl, X⟩)
        case measure => simp [intOf]
      · have hx1 : (x != 0) = true := by simp [hx]
        have X : Hid (¬ x = 0) := hx
        clear hx
        go_wp2
        go_ret
        exact ⟨ret_int (by simp [orI, X.out]), rfl⟩
    · by_cases hy : y = 0
      · have hy1 : (y != 0) = false := by simp [hy]
        have Y : ZeroI y := hy
        clear hy
        go_wp2
        go_round
        case rel => exact Or.inr (Or.inr ⟨rfl, hx, Y⟩)
        case measure => simp [intOf]
      · have hy1 : (y != 0) = true := by simp [hy]
        clear hy
        go_wp2
        go_ret
        have := hx.out
        exact ⟨ret_int (by simp [orI, this]), rfl⟩
    · go_wp2
      go_ret
      have h1 := hx.out
      have h2 := hy.out
      exact ⟨ret_int (by simp [orI, h1, h2]), rfl⟩

theorem compare_bytes (a b : List UInt8) : Lib.compareBytes a b = if (a == b) = true then 0 else if Op.bytesLess a b = true then -1 else 1 := by
  induction a generalizing b with
  | nil => cases b <;> simp [Lib.compareBytes, Op.bytesLess]
  | cons x xs ih =>
    cases b with
    | nil => simp [Lib.compareBytes, Op.bytesLess]
    | cons y ys =>
      simp only [Lib.compareBytes, Op.bytesLess, ih ys]
      by_cases h1 : x < y
      · have hne : ¬ x = y := fun e => by subst e; exact absurd h1 (UInt8.lt_irrefl x)
        simp [h1, hne]
      · by_cases h2 : y < x
        · have hne : ¬ x = y := fun e => by subst e; exact absurd h2 (UInt8.lt_irrefl x)
          simp [h1, h2, hne]
        · have he : x = y := UInt8.le_antisymm (UInt8.not_lt.1 h2) (UInt8.not_lt.1 h1)
          subst he
          simp [h1]

/-- Two values, compared. -/
def cmpV (a b : Val) : Int := orI (sg a.int b.int) (Lib.compareBytes a.text.data.toList b.text.data.toList)
def cmpE (a b : Val) : Int := if valE a = 0 then (if valE b = 0 then (if a.kind = b.kind then 0 else 13) else valE b) else valE a
def cmpX (a b : Val) : Int := if cmpE a b = 0 then cmpV a b else 0
theorem cmpV_int {a b : Val} (ha : valE a = 0) (hb : valE b = 0) (hk : a.kind = b.kind) (h1 : a.kind = 1) : cmpV a b = sg a.int b.int := by
  have e1 : a.text.data.toList = [] := by
    unfold valE at ha; rw [if_pos h1] at ha
    have : a.text.size = 0 := by (repeat' split at ha) <;> omega
    have h := (size_toList a.text).2 this
    rwa [ByteArray.toList_eq] at h
  have e2 : b.text.data.toList = [] := by
    unfold valE at hb; rw [if_pos (hk ▸ h1)] at hb
    have : b.text.size = 0 := by (repeat' split at hb) <;> omega
    have h := (size_toList b.text).2 this
    rwa [ByteArray.toList_eq] at h
  unfold cmpV orI
  rw [e1, e2]
  simp only [Lib.compareBytes]
  split <;> simp_all
theorem cmpV_text {a b : Val} (ha : valE a = 0) (hb : valE b = 0) (hk : a.kind = b.kind) (h1 : ¬ a.kind = 1) : cmpV a b = Lib.compareBytes a.text.data.toList b.text.data.toList := by
  have e1 : a.int = 0 := by
    unfold valE at ha; rw [if_neg h1] at ha; (repeat' split at ha) <;> omega
  have e2 : b.int = 0 := by
    unfold valE at hb; rw [if_neg (hk ▸ h1)] at hb; (repeat' split at hb) <;> omega
  simp [cmpV, orI, e1, e2, sg]

set_option maxHeartbeats 1000000 in
theorem ordered_any (a b : Val) (w : World) (ha : valE a = 0) (hb : valE b = 0) (hk : a.kind = b.kind) :
    Calls Try.prog 44 #[.agg #[.int .i64 a.kind, .int .i64 a.int, .string a.text], .agg #[.int .i64 b.kind, .int .i64 b.int, .string b.text]] w fun e w' => e = .returned (.int .i64 (cmpV a b)) ∧ Below w.heap.size w w' := by
  by_cases h1 : a.kind = 1
  · have q1 : (a.kind == 1) = true := by simp [h1]
    have V : Hid (cmpV a b = sg a.int b.int) := cmpV_int ha hb hk h1
    clear ha hb hk h1
    go_enter Try.func44, Try.ntmps44
    go_wp2_with (go_at_call 61; refine (sign_any _ _ _).mono ?_; rintro e w' ⟨rfl, rfl⟩)
    go_ret
    exact ⟨ret_int V.out.symm, (by repeat (first | exact Below.refl _ _ | assumption | refine below_step ?_ (by assumption) | refine below_step ?_ (Joins.below_draws _ _ _) | (refine Below.alloc ?_ (by first | omega | (simp; done) | (simp; omega)) _) | (refine Below.setCell ?_ (by first | omega | (simp; done) | (simp; omega)) _) | refine Below.drew ?_))⟩
  · have q1 : (a.kind == 1) = false := by simp [h1]
    have V : Hid (cmpV a b = if (a.text.toList == b.text.toList) = true then 0 else if Op.bytesLess a.text.toList b.text.toList = true then -1 else 1) := by
      show _ = _
      rw [cmpV_text ha hb hk h1, compare_bytes, ByteArray.toList_eq, ByteArray.toList_eq]
    clear ha hb hk h1
    cases he : (a.text.toList == b.text.toList) <;> cases hl : Op.bytesLess a.text.toList b.text.toList
    all_goals
      go_enter Try.func44, Try.ntmps44
      go_wp2
      go_ret
      exact ⟨ret_int (by rw [V.out, he, hl]; simp), (by repeat (first | exact Below.refl _ _ | assumption | refine below_step ?_ (by assumption) | refine below_step ?_ (Joins.below_draws _ _ _) | (refine Below.alloc ?_ (by first | omega | (simp; done) | (simp; omega)) _) | (refine Below.setCell ?_ (by first | omega | (simp; done) | (simp; omega)) _) | refine Below.drew ?_))⟩

set_option maxHeartbeats 2000000 in
theorem compared_any (a b : Val) (w : World) (ha : a.text.size ≤ maxLen) (hb : b.text.size ≤ maxLen) :
    Calls Try.prog 26 #[.agg #[.int .i64 a.kind, .int .i64 a.int, .string a.text], .agg #[.int .i64 b.kind, .int .i64 b.int, .string b.text]] w fun e w' => e = .returned (.tuple #[.int .i64 (cmpX a b), .int .i64 (cmpE a b)]) ∧ Below w.heap.size w w' := by
  by_cases za : valE a = 0
  · have a1 : (valE a == 0) = true := by simp [za]
    have ZA : Hid (valE a = 0) := za
    clear za
    by_cases zb : valE b = 0
    · have b1 : (valE b == 0) = true := by simp [zb]
      have b2 : (valE b != 0) = false := by simp [zb]
      have ZB : Hid (valE b = 0) := zb
      clear zb
      by_cases hk : a.kind = b.kind
      · have k1 : (a.kind != b.kind) = false := by simp [hk]
        have K : Hid (a.kind = b.kind) := hk
        clear hk
        go_enter Try.func26, Try.ntmps26
        go_wp2_with fail
        refine (valFault_any _ _ _ _ ha).mono ?_
        rintro e w1 ⟨rfl, hb1⟩
        obtain ⟨hc_w1, hf_w1⟩ := bcell hb1; have hs_w1 := hb1.size; (try simp only [World.size_alloc, World.size_drew] at hs_w1); have z0_w1 : w.heap.size < w1.heap.size := (by omega); have z1_w1 : w.heap.size + 1 < w1.heap.size := (by omega)
        go_wp2_with fail
        refine (valFault_any _ _ _ _ hb).mono ?_
        rintro e w2 ⟨rfl, hb2⟩
        obtain ⟨hc_w2, hf_w2⟩ := bcell hb2; have hs_w2 := hb2.size; (try simp only [World.size_alloc, World.size_drew] at hs_w2); have z0_w2 : w.heap.size < w2.heap.size := (by omega); have z1_w2 : w.heap.size + 1 < w2.heap.size := (by omega)
        go_wp2_with fail
        refine (ordered_any a b _ ZA.out ZB.out K.out).mono ?_
        rintro e w3 ⟨rfl, hb3⟩
        go_wp2
        go_ret2
        have he : cmpE a b = 0 := by simp [cmpE, ZA.out, ZB.out, K.out]
        exact ⟨ret_ii (by simp [cmpX, he]) he.symm, (by repeat (first | exact Below.refl _ _ | assumption | refine below_step ?_ (by assumption) | refine below_step ?_ (Joins.below_draws _ _ _) | (refine Below.alloc ?_ (by first | omega | (simp; done) | (simp; omega)) _) | (refine Below.setCell ?_ (by first | omega | (simp; done) | (simp; omega)) _) | refine Below.drew ?_))⟩
      · have k1 : (a.kind != b.kind) = true := by simp [hk]
        have K : Hid (¬ a.kind = b.kind) := hk
        clear hk
        go_enter Try.func26, Try.ntmps26
        go_wp2_with fail
        refine (valFault_any _ _ _ _ ha).mono ?_
        rintro e w1 ⟨rfl, hb1⟩
        obtain ⟨hc_w1, hf_w1⟩ := bcell hb1; have hs_w1 := hb1.size; (try simp only [World.size_alloc, World.size_drew] at hs_w1); have z0_w1 : w.heap.size < w1.heap.size := (by omega); have z1_w1 : w.heap.size + 1 < w1.heap.size := (by omega)
        go_wp2_with fail
        refine (valFault_any _ _ _ _ hb).mono ?_
        rintro e w2 ⟨rfl, hb2⟩
        obtain ⟨hc_w2, hf_w2⟩ := bcell hb2; have hs_w2 := hb2.size; (try simp only [World.size_alloc, World.size_drew] at hs_w2); have z0_w2 : w.heap.size < w2.heap.size := (by omega); have z1_w2 : w.heap.size + 1 < w2.heap.size := (by omega)
        go_wp2
        go_ret2
        have he : cmpE a b = 13 := by simp [cmpE, ZA.out, ZB.out, K.out]
        exact ⟨ret_ii (by simp [cmpX, he]) he.symm, (by repeat (first | exact Below.refl _ _ | assumption | refine below_step ?_ (by assumption) | refine below_step ?_ (Joins.below_draws _ _ _) | (refine Below.alloc ?_ (by first | omega | (simp; done) | (simp; omega)) _) | (refine Below.setCell ?_ (by first | omega | (simp; done) | (simp; omega)) _) | refine Below.drew ?_))⟩
    · have b1 : (valE b == 0) = false := by simp [zb]
      have b2 : (valE b != 0) = true := by simp [zb]
      have ZB : Hid (¬ valE b = 0) := zb
      clear zb
      go_enter Try.func26, Try.ntmps26
      go_wp2_with fail
      refine (valFault_any _ _ _ _ ha).mono ?_
      rintro e w1 ⟨rfl, hb1⟩
      obtain ⟨hc_w1, hf_w1⟩ := bcell hb1; have hs_w1 := hb1.size; (try simp only [World.size_alloc, World.size_drew] at hs_w1); have z0_w1 : w.heap.size < w1.heap.size := (by omega); have z1_w1 : w.heap.size + 1 < w1.heap.size := (by omega)
      go_wp2_with fail
      refine (valFault_any _ _ _ _ hb).mono ?_
      rintro e w2 ⟨rfl, hb2⟩
      go_wp2
      go_ret2
      have he : cmpE a b = valE b := by simp [cmpE, ZA.out, ZB.out]
      exact ⟨ret_ii (by simp [cmpX, he, ZB.out]) he.symm, (by repeat (first | exact Below.refl _ _ | assumption | refine below_step ?_ (by assumption) | refine below_step ?_ (Joins.below_draws _ _ _) | (refine Below.alloc ?_ (by first | omega | (simp; done) | (simp; omega)) _) | (refine Below.setCell ?_ (by first | omega | (simp; done) | (simp; omega)) _) | refine Below.drew ?_))⟩
  · have a1 : (valE a == 0) = false := by simp [za]
    have a2 : (valE a != 0) = true := by simp [za]
    have ZA : Hid (¬ valE a = 0) := za
    clear za
    go_enter Try.func26, Try.ntmps26
    go_wp2_with fail
    refine (valFault_any _ _ _ _ ha).mono ?_
    rintro e w1 ⟨rfl, hb1⟩
    go_wp2
    go_ret2
    have he : cmpE a b = valE a := by simp [cmpE, ZA.out]
    exact ⟨ret_ii (by simp [cmpX, he, ZA.out]) he.symm, (by repeat (first | exact Below.refl _ _ | assumption | refine below_step ?_ (by assumption) | refine below_step ?_ (Joins.below_draws _ _ _) | (refine Below.alloc ?_ (by first | omega | (simp; done) | (simp; omega)) _) | (refine Below.setCell ?_ (by first | omega | (simp; done) | (simp; omega)) _) | refine Below.drew ?_))⟩

set_option maxHeartbeats 2000000 in
theorem compare_any (a b : Val) (w : World) (ha : a.text.size ≤ maxLen) (hb : b.text.size ≤ maxLen) :
    Calls Try.prog 25 #[.agg #[.int .i64 a.kind, .int .i64 a.int, .string a.text], .agg #[.int .i64 b.kind, .int .i64 b.int, .string b.text]] w fun e w' => e = .returned (.tuple #[.int .i64 (cmpX a b), .int .i64 (cmpE a b)]) ∧ Below w.heap.size w w' := by
  have i0 : ∀ w, (Instr.index 65 (.agg #[.int .i64 a.kind, .int .i64 a.int, .string a.text, .int .i64 b.kind, .int .i64 b.int, .string b.text]) (.int .i64 0)).run Try.prog w = .ok (.agg #[.int .i64 a.kind, .int .i64 a.int, .string a.text]) w := fun _ => by kernel_rfl
  have i1 : ∀ w, (Instr.index 65 (.agg #[.int .i64 a.kind, .int .i64 a.int, .string a.text, .int .i64 b.kind, .int .i64 b.int, .string b.text]) (.int .i64 1)).run Try.prog w = .ok (.agg #[.int .i64 b.kind, .int .i64 b.int, .string b.text]) w := fun _ => by kernel_rfl
  go_enter Try.func25, Try.ntmps25
  go_wp2_with fail
  go_loopw [12] (fun i wr => ((i = .int .i64 0) ∨ (i = .int .i64 1 ∧ ZeroI (valE a)) ∨ (i = .int .i64 2 ∧ ZeroI (valE a) ∧ ZeroI (valE b))) ∧ Below ((w.alloc (.cells #[.int .i64 a.kind, .int .i64 a.int, .string a.text] 33)).alloc (.cells #[.int .i64 b.kind, .int .i64 b.int, .string b.text] 33)).heap.size ((w.alloc (.cells #[.int .i64 a.kind, .int .i64 a.int, .string a.text] 33)).alloc (.cells #[.int .i64 b.kind, .int .i64 b.int, .string b.text] 33)) wr) (fun i _ => (2 - intOf i).toNat)
  case atStart => exact ⟨Or.inl rfl, Below.refl _ _⟩
  case round =>
    obtain ⟨hrel, hbr⟩ := hrel
    obtain ⟨hc_wr, hf_wr⟩ := bcell hbr; have hs_wr := hbr.size; (try simp only [World.size_alloc, World.size_drew] at hs_wr); have z0_wr : w.heap.size < wr.heap.size := (by omega); have z1_wr : w.heap.size + 1 < wr.heap.size := (by omega)
    rcases hrel with rfl | ⟨rfl, hx⟩ | ⟨rfl, hx, hy⟩
    · by_cases hx : valE a = 0
      · have hx1 : (valE a != 0) = false := by simp [hx]
        have X : ZeroI (valE a) := hx
        clear hx
        go_wp2_with fail
        refine (valCheck_any _ _ _ _ ha).mono ?_
        rintro e w1 ⟨rfl, hb1⟩
        go_wp2
        go_roundw
        case rel => exact ⟨Or.inr (Or.inl ⟨rfl, X⟩), (by repeat (first | exact Below.refl _ _ | assumption | refine below_step ?_ (by assumption) | refine below_step ?_ (Joins.below_draws _ _ _) | (refine Below.alloc ?_ (by first | omega | (simp; done) | (simp; omega)) _) | (refine Below.setCell ?_ (by first | omega | (simp; done) | (simp; omega)) _) | refine Below.drew ?_))⟩
        case measure => simp [intOf]
      · have hx1 : (valE a != 0) = true := by simp [hx]
        have X : Hid (¬ valE a = 0) := hx
        clear hx
        go_wp2_with fail
        refine (valCheck_any _ _ _ _ ha).mono ?_
        rintro e w1 ⟨rfl, hb1⟩
        go_wp2
        go_ret2
        have he : cmpE a b = valE a := by simp [cmpE, X.out]
        exact ⟨ret_ii (by simp [cmpX, he, X.out]) he.symm, (by repeat (first | exact Below.refl _ _ | assumption | refine below_step ?_ (by assumption) | refine below_step ?_ (Joins.below_draws _ _ _) | (refine Below.alloc ?_ (by first | omega | (simp; done) | (simp; omega)) _) | (refine Below.setCell ?_ (by first | omega | (simp; done) | (simp; omega)) _) | refine Below.drew ?_))⟩
    · by_cases hy : valE b = 0
      · have hx1 : (valE b != 0) = false := by simp [hy]
        have X : ZeroI (valE b) := hy
        clear hy
        go_wp2_with fail
        refine (valCheck_any _ _ _ _ hb).mono ?_
        rintro e w1 ⟨rfl, hb1⟩
        go_wp2
        go_roundw
        case rel => exact ⟨Or.inr (Or.inr ⟨rfl, hx, X⟩), (by repeat (first | exact Below.refl _ _ | assumption | refine below_step ?_ (by assumption) | refine below_step ?_ (Joins.below_draws _ _ _) | (refine Below.alloc ?_ (by first | omega | (simp; done) | (simp; omega)) _) | (refine Below.setCell ?_ (by first | omega | (simp; done) | (simp; omega)) _) | refine Below.drew ?_))⟩
        case measure => simp [intOf]
      · have hx1 : (valE b != 0) = true := by simp [hy]
        have X : Hid (¬ valE b = 0) := hy
        clear hy
        go_wp2_with fail
        refine (valCheck_any _ _ _ _ hb).mono ?_
        rintro e w1 ⟨rfl, hb1⟩
        go_wp2
        go_ret2
        have ha0 := hx.out
        have he : cmpE a b = valE b := by simp [cmpE, ha0, X.out]
        exact ⟨ret_ii (by simp [cmpX, he, X.out]) he.symm, (by repeat (first | exact Below.refl _ _ | assumption | refine below_step ?_ (by assumption) | refine below_step ?_ (Joins.below_draws _ _ _) | (refine Below.alloc ?_ (by first | omega | (simp; done) | (simp; omega)) _) | (refine Below.setCell ?_ (by first | omega | (simp; done) | (simp; omega)) _) | refine Below.drew ?_))⟩
    · by_cases hk : a.kind = b.kind
      · have k1 : (a.kind != b.kind) = false := by simp [hk]
        have K : Hid (a.kind = b.kind) := hk
        clear hk
        obtain ⟨wo, rfl⟩ : ∃ wo : World, wo = wr := ⟨_, rfl⟩
        have cA : ((wo.alloc (.cells #[.int .i64 (sg a.int b.int), .int .i64 (Lib.compareBytes a.text.data.toList b.text.data.toList)] 3)).drew).cell? ⟨wo.heap.size, 0, none⟩ = some (.int .i64 (sg a.int b.int)) := by simp
        have cB : ((wo.alloc (.cells #[.int .i64 (sg a.int b.int), .int .i64 (Lib.compareBytes a.text.data.toList b.text.data.toList)] 3)).drew).cell? ⟨wo.heap.size, 1, none⟩ = some (.int .i64 (Lib.compareBytes a.text.data.toList b.text.data.toList)) := by simp
        go_wp2_with fail
        go_still_tail 10, (by kernel_rfl)
        still_call (cmpInt_any _ _ _)
        repeat still_step
        still_call (Try.strings_Compare _ _ _)
        refine wpStill_nil ?_
        change wpList _ _ _ _ _ wo.drew
        go_wp2_with (go_at_call 41; refine (or_any _ _ _ _ cA cB).mono ?_; rintro e w' ⟨rfl, rfl⟩)
        go_ret2
        have ha0 := hx.out
        have hb0 := hy.out
        have he : cmpE a b = 0 := by simp [cmpE, ha0, hb0, K.out]
        exact ⟨ret_ii (by simp [cmpX, he, cmpV]) he.symm, (by repeat (first | exact Below.refl _ _ | assumption | refine below_step ?_ (by assumption) | refine below_step ?_ (Joins.below_draws _ _ _) | (refine Below.alloc ?_ (by first | omega | (simp; done) | (simp; omega)) _) | (refine Below.setCell ?_ (by first | omega | (simp; done) | (simp; omega)) _) | refine Below.drew ?_))⟩
      · have k1 : (a.kind != b.kind) = true := by simp [hk]
        have K : Hid (¬ a.kind = b.kind) := hk
        clear hk
        go_wp2
        go_ret2
        have ha0 := hx.out
        have hb0 := hy.out
        have he : cmpE a b = 13 := by simp [cmpE, ha0, hb0, K.out]
        exact ⟨ret_ii (by simp [cmpX, he]) he.symm, (by repeat (first | exact Below.refl _ _ | assumption | refine below_step ?_ (by assumption) | refine below_step ?_ (Joins.below_draws _ _ _) | (refine Below.alloc ?_ (by first | omega | (simp; done) | (simp; omega)) _) | (refine Below.setCell ?_ (by first | omega | (simp; done) | (simp; omega)) _) | refine Below.drew ?_))⟩

set_option maxHeartbeats 1000000 in
theorem compares_walk (a b : Val) (w : World) (ha : a.text.size ≤ maxLen) (hb : b.text.size ≤ maxLen) :
    Calls Try.prog 8 #[.agg #[.int .i64 a.kind, .int .i64 a.int, .string a.text], .agg #[.int .i64 b.kind, .int .i64 b.int, .string b.text]] w fun e w' => e = .returned (.bool true) ∧ Below w.heap.size w w' := by
  go_enter Try.func8, Try.ntmps8
  go_wp2_with fail
  refine (compare_any a b _ ha hb).mono ?_
  rintro e w1 ⟨rfl, hb1⟩
  obtain ⟨hc_w1, hf_w1⟩ := bcell hb1; have hs_w1 := hb1.size; (try simp only [World.size_alloc, World.size_drew] at hs_w1); have z0_w1 : w.heap.size < w1.heap.size := (by omega); have z1_w1 : w.heap.size + 1 < w1.heap.size := (by omega)
  go_wp2_with fail
  refine (compared_any a b _ ha hb).mono ?_
  rintro e w2 ⟨rfl, hb2⟩
  have q1 : (cmpX a b == cmpX a b) = true := by simp
  have q2 : (cmpE a b == cmpE a b) = true := by simp
  go_wp2
  go_ret
  exact ⟨rfl, (by repeat (first | exact Below.refl _ _ | assumption | refine below_step ?_ (by assumption) | refine below_step ?_ (Joins.below_draws _ _ _) | (refine Below.alloc ?_ (by first | omega | (simp; done) | (simp; omega)) _) | (refine Below.setCell ?_ (by first | omega | (simp; done) | (simp; omega)) _) | refine Below.drew ?_))⟩
end Go.Proofs.Ytjbiimpglmppiaa
