/-
  Options checked; the options of a list, one after another (plain).
-/
import Derived.Test.YtldbgbcabenegaaOpY
namespace Go.Proofs.Ytldbgbcabenegaa
open Go.RowKit
set_option linter.unusedVariables false
set_option linter.unusedSimpArgs false

/-- What an option is refused for. -/
def optE (r l h : Int) : Int := if 1 ≤ r ∧ r ≤ 13 then (if (0 ≤ l ∧ l ≤ 1073741824) ∧ (-1 ≤ h ∧ h ≤ 1073741824) then (if h ≠ -1 ∧ h < l then 11 else 0) else 2) else 3
theorem optE_zero {r l h : Int} (k : optE r l h = 0) : (1 ≤ r ∧ r ≤ 13) ∧ (0 ≤ l ∧ l ≤ 1073741824) ∧ (-1 ≤ h ∧ h ≤ 1073741824) := by
  unfold optE at k
  (repeat' split at k) <;> omega
set_option maxHeartbeats 400000 in
theorem optCheck_any (r l h : Int) (w : World) :
    Calls Try.prog 7 #[.agg #[.int .i64 r, .int .i64 l, .int .i64 h]] w fun e w' => e = .returned (.int .i64 (optE r l h)) ∧ Below w.heap.size w w' := by
  go_enter Try.func7, Try.ntmps7
  go_wp2
  all_goals (go_ret; refine ⟨?_, (by repeat (first | exact Below.refl _ _ | assumption | refine below_step ?_ (by assumption) | refine below_step ?_ (Joins.below_draws _ _ _) | (refine Below.alloc ?_ (by first | omega | (simp; done) | (simp; omega)) _) | (refine Below.setCell ?_ (by first | omega | (simp; done) | (simp; omega)) _) | refine Below.drew ?_))⟩; exact ret_int (by go_light; unfold optE; (try simp only [Bool.not_eq_true', Bool.not_eq_false', decide_eq_true_eq, decide_eq_false_iff_not] at *); (repeat' split) <;> omega))
set_option maxHeartbeats 400000 in
theorem optFault_any (r l h : Int) (w : World) :
    Calls Try.prog 10 #[.agg #[.int .i64 r, .int .i64 l, .int .i64 h]] w fun e w' => e = .returned (.int .i64 (optE r l h)) ∧ Below w.heap.size w w' := by
  by_cases hh : h = -1
  · subst hh
    go_enter Try.func10, Try.ntmps10
    go_wp2
    all_goals (go_ret; refine ⟨?_, (by repeat (first | exact Below.refl _ _ | assumption | refine below_step ?_ (by assumption) | refine below_step ?_ (Joins.below_draws _ _ _) | (refine Below.alloc ?_ (by first | omega | (simp; done) | (simp; omega)) _) | (refine Below.setCell ?_ (by first | omega | (simp; done) | (simp; omega)) _) | refine Below.drew ?_))⟩; exact ret_int (by go_light; unfold optE; (try simp only [Bool.not_eq_true', Bool.not_eq_false', decide_eq_true_eq, decide_eq_false_iff_not] at *); (repeat' split) <;> omega))
  · have hb : (h != -1) = true := by rw [bne_iff_ne]; exact hh
    go_enter Try.func10, Try.ntmps10
    go_wp2
    all_goals (go_ret; refine ⟨?_, (by repeat (first | exact Below.refl _ _ | assumption | refine below_step ?_ (by assumption) | refine below_step ?_ (Joins.below_draws _ _ _) | (refine Below.alloc ?_ (by first | omega | (simp; done) | (simp; omega)) _) | (refine Below.setCell ?_ (by first | omega | (simp; done) | (simp; omega)) _) | refine Below.drew ?_))⟩; exact ret_int (by go_light; unfold optE; (try simp only [Bool.not_eq_true', Bool.not_eq_false', decide_eq_true_eq, decide_eq_false_iff_not] at *); (repeat' split) <;> omega))

structure Opt where
  rel : Int
  lo : Int
  hi : Int
instance : Inhabited Opt := ⟨⟨0, 0, 0⟩⟩
def optC (o : Opt) : List Value := [.int .i64 o.rel, .int .i64 o.lo, .int .i64 o.hi]
def optF : (Nat → Prop) → World → List Value → Opt → Prop := plainF optC
theorem optF_firm : Firm optF := plainF_firm _
def optAt (os : List Opt) (j : Nat) : Int := optE (os.getD j default).rel (os.getD j default).lo (os.getD j default).hi
def optsE (os : List Opt) : Int := firstN (optAt os) os.length
def stepL (a : List (List Int)) (o : Opt) : List (List Int) :=
  match optL o.rel o.lo o.hi with
  | none => a
  | some m => if a.isEmpty = true then m else joinM max a m
def accL (os : List Opt) (k : Nat) : List (List Int) := (os.take k).foldl stepL []
theorem accL_next (os : List Opt) (k : Nat) (hk : k < os.length) : accL os (k + 1) = stepL (accL os k) os[k] := by
  unfold accL
  rw [← List.take_append_getElem hk, List.foldl_append, List.foldl_cons, List.foldl_nil]
theorem slF_some {α : Type} {F : Nat → Prop} {w : World} {k : Nat} {R : (Nat → Prop) → World → List Value → α → Prop} {ao : Option Addr} {n cap : Nat} {xs : List α} (h : SlF F w k R ao n cap xs) (hx : xs ≠ []) : ∃ b o, ao = some ⟨b, o, none⟩ := by
  have : 0 < xs.length := List.length_pos_iff.2 hx
  obtain ⟨b, o, row, e, _⟩ := h.2.2.2.2 0 this
  exact ⟨b, o, e⟩
theorem size_option : SizeIs Try.prog 31 3 := fun wx => by
  have : (Try.prog.info? 31).map (·.size) = some 3 := by kernel_rfl
  cases h : Try.prog.info? 31 with
  | none => rw [h] at this; cases this
  | some i => rw [h] at this; simp at this; simp [sizeOf, typeInfo, h, this]
theorem nil_yes (wx : World) : (binOp .eql 24 (.slice none 0 0) (.slice none 0 0)).run Try.prog wx = .ok (.bool true) wx := by
  have h : ∀ d, (Op.equalIn (d + 1) 24 (.slice none 0 0) (.slice none 0 0)).run Try.prog wx = .ok true wx := fun d => by simp [Op.equalIn, run_underlying Try.underlying24]
  have h2 : (Op.equal 24 (.slice none 0 0) (.slice none 0 0)).run Try.prog wx = .ok true wx := h 9999
  simp [binOp, h2]
theorem nil_no (b o n cap : Nat) (wx : World) : (binOp .eql 24 (.slice (some ⟨b, o, none⟩) n cap) (.slice none 0 0)).run Try.prog wx = .ok (.bool false) wx := by
  have h : ∀ d, (Op.equalIn (d + 1) 24 (.slice (some ⟨b, o, none⟩) n cap) (.slice none 0 0)).run Try.prog wx = .ok false wx := fun d => by simp [Op.equalIn, run_underlying Try.underlying24]
  have h2 : (Op.equal 24 (.slice (some ⟨b, o, none⟩) n cap) (.slice none 0 0)).run Try.prog wx = .ok false wx := h 9999
  simp [binOp, h2]
end Go.Proofs.Ytldbgbcabenegaa
