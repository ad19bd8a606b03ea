/-
  The walks of package tape and its reference, second part: a tape opened, copied, compared, synced, crashed.
-/
import Derived.Test.YtciomaeieggbiaaTapW
import Derived.Handy
import Derived.Laws.BytesString
import Derived.Laws.IdiomStrings
import Derived.Lib.BufferRead
import Derived.StillTailTactics
import Derived.WalkSpells
namespace Go.Proofs.Ytciomaeieggbiaa
open Go.RowKit
set_option linter.unusedVariables false
set_option linter.unusedSimpArgs false

/-- A slice of bytes as a string. -/
theorem convert_bytes {P : Program} {src e dst : TypeId} (hs : P.underlying src = some (.slice e)) (he : P.underlying e = some (.int .u8)) (hd : P.underlying dst = some .string) {F : Nat → Prop} {w : World} {ao : Option Addr} {n cap : Nat} {xs : List UInt8} (h : SlF F w 1 byteF ao n cap xs) :
    (convert src dst (.slice ao n cap)).run P w = .ok (.string ⟨xs.toArray⟩) w := by
  obtain ⟨hn, hcap, hmax, hnil, hrows⟩ := h
  cases ao with
  | none =>
    have h0 := hnil rfl
    have : n = 0 := by omega
    subst this
    have hx : xs = [] := List.eq_nil_of_length_eq_zero hn.symm
    subst hx
    exact Lib.run_convert_nil_bytes w src dst e cap hs he hd
  | some a =>
    rw [hn]
    refine run_convert_bytes_back w src dst e a cap xs hs he hd fun j hj => ?_
    obtain ⟨b, off, row, e1, _, hlt, hr, hx⟩ := hrows j hj
    injection e1 with e1
    subst e1
    have hx' : row = [byteC xs[j]] := hx
    subst hx'
    have := hr.2 0 (by omega)
    rw [Go.WideShapes.add_plain]
    simpa [byteC] using this

/-- What stands in the walk's way of a struct that lies in a block of the call's own: its cells behind a store. -/
theorem seen {w w1 : World} {b o : Nat} {u : Value} (h : w1.cell? ⟨b, o, none⟩ = some u) : (w1.cell? ⟨b, o, none⟩).isSome = true := by rw [h]; rfl

set_option maxHeartbeats 1000000 in
theorem tapes_any (F : Nat → Prop) (ao : Option Addr) (n cap : Nat) (s : Int) (xs : List UInt8) (w : World) (hX : SlF F w 1 byteF ao n cap xs) (h1 : n ≤ 140737488355328) :
    Calls Try.prog 13 #[.agg #[.slice ao n cap, .int .i64 s]] w fun e w' => ∃ ao' cap', e = .returned (.agg #[.slice ao' n cap', .int .i64 s]) ∧ Below w.heap.size w w' ∧ SlF (from_ w.heap.size) w' 1 byteF ao' n cap' xs := by
  have HX : Hid (∀ wx, Below w.heap.size w wx → Calls Try.prog 35 #[.slice ao n cap] wx fun e w' => ∃ ao' cap', e = .returned (.slice ao' n cap') ∧ Below wx.heap.size wx w' ∧ SlF (from_ wx.heap.size) w' 1 byteF ao' n cap' xs) := fun wx hb => octets_any F ao n cap xs wx (hX.below byteF_firm hb) h1
  go_enter Try.func13, Try.ntmps13
  go_wp2_with fail
  go_region_with (go_at_call 35; refine (HX.out _ (by repeat (first | exact Below.refl _ _ | assumption | refine below_step ?_ (by assumption) | refine below_step ?_ (Joins.below_draws _ _ _) | (refine Below.alloc ?_ (by first | omega | (simp; done) | (simp; omega)) _) | (refine Below.setCell ?_ (by first | omega | (simp; done) | (simp; omega)) _) | refine Below.drew ?_))).mono ?_; rintro e w1 ⟨ao1, cap1, rfl, hb1, hS1⟩; obtain ⟨hc_w1, hf_w1⟩ := bcell hb1; have hs_w1 := hb1.size; (try simp only [World.size_alloc, World.size_drew, World.size_setCell] at hs_w1); (try simp only [World.size_drew, World.cell?_drew, World.frozen?_drew] at hc_w1 hf_w1); have z0_w1 : w.heap.size < w1.heap.size := (by omega); have z1_w1 : w.heap.size + 1 < w1.heap.size := (by omega))
  all_goals
    have k0 : (w1.cell? ⟨w.heap.size + 1, 0, none⟩).isSome = true := by simp [hc_w1]
    have k1 : (w1.cell? ⟨w.heap.size + 1, 1, none⟩).isSome = true := by simp [hc_w1]
    go_wp2
    refine bodyPost_ret (v := .agg #[.slice ao1 n cap1, .int .i64 s]) (by simp [results, Try.results13, go_sem, k0, k1, World.cell?_setCell_other]) rfl ?_
    exact ⟨ao1, cap1, rfl, (by repeat (first | exact Below.refl _ _ | assumption | refine below_step ?_ (by assumption) | refine below_step ?_ (Joins.below_draws _ _ _) | (refine Below.alloc ?_ (by first | omega | (simp; done) | (simp; omega)) _) | (refine Below.setCell ?_ (by first | omega | (simp; done) | (simp; omega)) _) | refine Below.drew ?_)), hS1.same byteF_firm (by refine Same.into ?_ (fun b h _ => (by (first | exact h | exact trivial | (revert h; show _ ≤ b → _ ≤ b; intro h; (try simp only [World.size_alloc, World.size_setCell, World.size_drew] at *); omega)))); repeat (first | exact Same.refl | exact Same.below (by assumption) | (refine Same.trans ?_ (Same.setCell _ (by show ¬ (_ ≤ _); (try simp only [World.size_alloc, World.size_setCell, World.size_drew] at *); omega))) | refine Same.trans ?_ Same.drew | refine Same.trans ?_ (Same.alloc _) | refine Same.trans ?_ (Same.below (by assumption))))⟩

theorem info_bytes : True := trivial
set_option maxHeartbeats 1000000 in
theorem cloneB_any (F : Nat → Prop) (ao : Option Addr) (n cap : Nat) (xs : List UInt8) (w : World) (hX : SlF F w 1 byteF ao n cap xs) (h1 : n ≤ 140737488355328) :
    Calls Try.prog 65 #[.slice ao n cap] w fun e w' => ∃ ao' cap', e = .returned (.slice ao' n cap') ∧ Below w.heap.size w w' ∧ SlF (from_ w.heap.size) w' 1 byteF ao' n cap' xs := by
  obtain ⟨i0, hi, hz0, hz1, hz2⟩ := info_parts info_byte
  have NL : Hid (n = xs.length) := hX.len
  cases ao with
  | none =>
    have hc : cap = 0 := hX.2.2.2.1 rfl
    have hle := hX.le
    have hn : n = 0 := by omega
    subst hc hn
    have hx : xs = [] := List.eq_nil_of_length_eq_zero NL.out.symm
    subst hx
    clear NL
    have hnil := fun wx => Lib.run_eql_slice_nil (P := Try.prog) wx 34 5 none 0 0 0 0 Try.underlying34
    go_enter Try.func65, Try.ntmps65
    go_wp2
    go_ret
    exact ⟨none, 0, rfl, Below.refl _ _, SlF.nil⟩
  | some a =>
    obtain ⟨ao', cap', w', hrun, hS, hb⟩ := run_copy_to (G := from_ w.heap.size) Try.underlying34 hi hz0 hz1 hz2 rfl (by omega) byteF_firm byteF_one (hX.below byteF_firm (Joins.below_alloc1 w (.cells #[] 5))) (by omega) (by simp) (some ⟨w.heap.size, 0, none⟩) (owns_literal w _ _) (fun b h => h) (fun _ _ h => h)
    have hnil := fun wx => Lib.run_eql_slice_nil (P := Try.prog) wx 34 5 (some a) n cap 0 0 Try.underlying34
    go_enter Try.func65, Try.ntmps65
    go_wp2_with (first | (at_builtin; refine wpList_append_run rfl _ _ 34 rfl rfl rfl rfl hrun ?_) | fail)
    go_ret
    exact ⟨ao', cap', rfl, (Joins.below_alloc1 w _).trans hb, hS⟩
end Go.Proofs.Ytciomaeieggbiaa
