/-
  Tokens as an argument, opened; two lists of tokens compared.
-/
import Derived.Test.YtobnaokknkmlcaaDoorTokX
import Derived.Test.YtobnaokknkmlcaaDoorOpen
namespace Go.Proofs.YtobnaokknkmlcaaDoor
open Go.ChangeShapes Go.WideShapes Go.ChangeAt Go.RowKit Go.Joins Go.Deep
set_option linter.unusedVariables false
set_option linter.unusedSimpArgs false

/-- A token in its cells. -/
structure Tok where
  kind : Int
  text : ByteArray
  int : Int
def tokF : (Nat → Prop) → World → List Value → Tok → Prop := fun _ _ row t => row = [.int .i64 t.kind, .string t.text, .int .i64 t.int] ∧ t.text.size ≤ 140737488351232
theorem tokF_firm : Firm tokF := fun _ _ _ _ _ _ _ h => h
theorem list_three {α : Type} {l : List α} (h : l.length = 3) : ∃ a b c, l = [a, b, c] := by
  match l, h with
  | [a, b, c], _ => exact ⟨a, b, c, rfl⟩
theorem opens_int' : Opens Tryd.prog 3 1 intF := opens_int Tryd.underlying3 (by kernel_rfl)
theorem opens_str : Opens Tryd.prog 9 1 strF := opens_string Tryd.underlying9 (by kernel_rfl)
set_option maxRecDepth 100000 in
theorem opens_token : Opens Tryd.prog 34 3 tokF :=
  ⟨by kernel_rfl, by omega, fun w n row y hl h hlt hB => by
    obtain ⟨xs, k, -, rfl, -, hxl, hf⟩ := DataW.trod_struct Tryd.underlying34 h
    obtain ⟨c0, c1, c2, rfl⟩ := list_three hl
    · have hx : xs.length = 3 := hxl
      obtain ⟨x0, e0⟩ := opens_field Tryd.underlying34 hf hlt hB 0 _ rfl (by omega) opens_int' [c0] rfl rfl
      obtain ⟨x1, e1, hs⟩ := opens_field Tryd.underlying34 hf hlt hB 1 _ rfl (by omega) opens_str [c1] rfl rfl
      obtain ⟨x2, e2⟩ := opens_field Tryd.underlying34 hf hlt hB 2 _ rfl (by omega) opens_int' [c2] rfl rfl
      have e0' : [c0] = [Value.int .i64 x0] := e0
      have e2' : [c2] = [Value.int .i64 x2] := e2
      simp only [List.cons.injEq, and_true] at e0' e1 e2'
      subst e0' e1 e2'
      exact ⟨⟨x0, x1, x2⟩, rfl, hs⟩⟩
theorem opens_tokens : Opens Tryd.prog 22 1 (sliceF 3 32 tokF) := opens_slice Tryd.underlying22 (by kernel_rfl) (by kernel_rfl) opens_token
theorem size_tok : SizeIs Tryd.prog 34 3 := fun w => by kernel_rfl
set_option maxHeartbeats 2000000 in
theorem sameTokens_yes (F G : Nat → Prop) (ao : Option Addr) (n cap : Nat) (bo : Option Addr) (m bcap : Nat) (xs : List Tok) (w : World) (hX : SlF F w 3 tokF ao n cap xs) (hY : SlF G w 3 tokF bo m bcap xs) :
    Calls Tryd.prog 7 #[.slice ao n cap, .slice bo m bcap] w fun e w' => e = .returned (.bool true) ∧ Below w.heap.size w w' := by
  obtain rfl : m = n := by rw [hX.len, hY.len]
  have NL : Hid (m = xs.length) := hX.len
  have hle := hX.le
  go_enter Tryd.func7, Tryd.ntmps7
  go_wp2_with fail
  go_loopw [5] (fun i wr => ∃ k : Nat, k ≤ m ∧ i = .int .i64 k ∧ Below w.heap.size w wr) (fun i _ => m - (intOf i).toNat)
  case atStart => exact ⟨0, by omega, rfl, Below.refl _ _⟩
  case round =>
    obtain ⟨k, hk, rfl, hbr⟩ := hrel
    by_cases hlt : k < m
    · have hkl : k < xs.length := by have := NL.out; omega
      obtain ⟨b, off, row, hix, hblt, hrow, hrr⟩ := (hX.below tokF_firm hbr).toR.index (P := Tryd.prog) Tryd.underlying22 size_tok (i := k) hkl
      obtain ⟨b2, off2, row2, hix2, hblt2, hrow2, hrr2⟩ := (hY.below tokF_firm hbr).toR.index (P := Tryd.prog) Tryd.underlying22 size_tok (i := k) hkl
      generalize xs[k] = t at hrr hrr2
      have e1 : row = [.int .i64 t.kind, .string t.text, .int .i64 t.int] := hrr.1
      have e2 : row2 = [.int .i64 t.kind, .string t.text, .int .i64 t.int] := hrr2.1
      subst e1 e2
      obtain ⟨c0, c1, c2⟩ := hrow.three
      obtain ⟨d0, d1, d2⟩ := hrow2.three
      go_wp2_with fail
      go_quiet (fail)
      go_wp2
      go_roundw
      case rel => exact ⟨k + 1, by omega, by go_num, (by repeat (first | exact Below.refl _ _ | assumption | refine below_step ?_ (by assumption) | refine below_step ?_ (Joins.below_draws _ _ _) | (refine Below.alloc ?_ (by first | omega | (simp; done) | (simp; omega)) _) | (refine Below.setCell ?_ (by first | omega | (simp; done) | (simp; omega)) _) | refine Below.drew ?_))⟩
      case measure => simp [intOf]; omega
    · go_wp2
      go_ret
      exact ⟨rfl, hbr⟩

end Go.Proofs.YtobnaokknkmlcaaDoor
