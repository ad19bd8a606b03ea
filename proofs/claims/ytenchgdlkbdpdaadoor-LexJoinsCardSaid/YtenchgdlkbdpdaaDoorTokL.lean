/-
  The law LexChecks, walked; a token as an argument, opened.
-/
import Derived.Test.YtenchgdlkbdpdaaDoorTokX
import Derived.Test.YtenchgdlkbdpdaaDoorOpen
namespace Go.Proofs.YtenchgdlkbdpdaaDoor
open Go.ChangeShapes Go.WideShapes Go.ChangeAt Go.RowKit Go.Joins Go.Deep
set_option linter.unusedVariables false
set_option linter.unusedSimpArgs false

set_option maxHeartbeats 1000000 in
theorem lexChecks_walk (F : Nat → Prop) (k : Int) (s : ByteArray) (i : Int) (w : World) (hM : SlF F w 1 wordF (some ⟨2, 0, none⟩) 17 17 marksL) (hs : s.size ≤ maxLen) :
    Calls Tryd.prog 4 #[.agg #[.int .i64 k, .string s, .int .i64 i]] w fun e w' => e = .returned (.bool true) ∧ Below w.heap.size w w' := by
  go_enter Tryd.func4, Tryd.ntmps4
  go_wp2_with fail
  refine (tokCheck_any F k s i _ hs (hM.below wordF_firm (by repeat (first | exact Below.refl _ _ | assumption | refine below_step ?_ (by assumption) | refine below_step ?_ (Joins.below_draws _ _ _) | (refine Below.alloc ?_ (by first | omega | (simp; done) | (simp; omega)) _) | (refine Below.setCell ?_ (by first | omega | (simp; done) | (simp; omega)) _) | refine Below.drew ?_)))).mono ?_
  rintro e w1 ⟨rfl, hb1⟩
  obtain ⟨hc_w1, hf_w1⟩ := bcell hb1; have hs_w1 := hb1.size; (try simp only [World.size_alloc, World.size_drew, World.size_setCell] at hs_w1); (try simp only [World.size_drew, World.cell?_drew, World.frozen?_drew] at hc_w1 hf_w1)
  have z1 : w.heap.size < w1.heap.size := by omega
  go_wp2_with fail
  refine (tokFault_any k s i _ hs).mono ?_
  rintro e w2 ⟨rfl, hb2⟩
  go_wp2
  go_ret
  exact ⟨ret_bool (by simp), (by repeat (first | exact Below.refl _ _ | assumption | refine below_step ?_ (by assumption) | refine below_step ?_ (Joins.below_draws _ _ _) | (refine Below.alloc ?_ (by first | omega | (simp; done) | (simp; omega)) _) | (refine Below.setCell ?_ (by first | omega | (simp; done) | (simp; omega)) _) | refine Below.drew ?_))⟩

/-- A token in its cells. -/
structure Tok where
  kind : Int
  text : ByteArray
  int : Int
def tokF : (Nat → Prop) → World → List Value → Tok → Prop := fun _ _ row t => row = [.int .i64 t.kind, .string t.text, .int .i64 t.int] ∧ t.text.size ≤ 140737488351232
theorem tokF_firm : Firm tokF := fun _ _ _ _ _ _ _ h => h
theorem list_three {α : Type} {l : List α} (h : l.length = 3) : ∃ a b c, l = [a, b, c] := by
  match l, h with
  | [a, b, c], _ => exact ⟨a, b, c, rfl⟩
theorem opens_int' : Opens Tryd.prog 3 1 intF := opens_int Tryd.underlying3 (by kernel_rfl)
theorem opens_str : Opens Tryd.prog 9 1 strF := opens_string Tryd.underlying9 (by kernel_rfl)
set_option maxRecDepth 100000 in
theorem opens_token : Opens Tryd.prog 24 3 tokF :=
  ⟨by kernel_rfl, by omega, fun w n row y hl h hlt hB => by
    obtain ⟨xs, k, -, rfl, -, hxl, hf⟩ := DataW.trod_struct Tryd.underlying24 h
    obtain ⟨c0, c1, c2, rfl⟩ := list_three hl
    · have hx : xs.length = 3 := hxl
      obtain ⟨x0, e0⟩ := opens_field Tryd.underlying24 hf hlt hB 0 _ rfl (by omega) opens_int' [c0] rfl rfl
      obtain ⟨x1, e1, hs⟩ := opens_field Tryd.underlying24 hf hlt hB 1 _ rfl (by omega) opens_str [c1] rfl rfl
      obtain ⟨x2, e2⟩ := opens_field Tryd.underlying24 hf hlt hB 2 _ rfl (by omega) opens_int' [c2] rfl rfl
      have e0' : [c0] = [Value.int .i64 x0] := e0
      have e2' : [c2] = [Value.int .i64 x2] := e2
      simp only [List.cons.injEq, and_true] at e0' e1 e2'
      subst e0' e1 e2'
      exact ⟨⟨x0, x1, x2⟩, rfl, hs⟩⟩
set_option maxRecDepth 100000 in
theorem open_token {H : Type} {enc : TypeId × Value → H} {W : World} {base : Nat} {v : Value} {d : DataW H} {ps : List MemPlace} (hv : Value.okWide Tryd.prog W .any base 24 v) (h : DataW.Trod enc Tryd.prog W 0 (fun _ => true) true 24 v d ps) (hlt : ∀ p ∈ ps, p.block < W.heap.size) (hB : ∀ q ∈ d.weights Tryd.prog 24, q ≤ reachBytes) :
    ∃ k s i, v = .agg #[.int .i64 k, .string s, .int .i64 i] ∧ s.size ≤ maxLen := by
  obtain ⟨cs, rfl, hsz⟩ := okWide_struct Tryd.underlying24 hv
  obtain ⟨t, e, hs⟩ := open_arg opens_token (by rw [opens_token.1] at hsz; simpa [Value.cells] using hsz) h hlt hB
  refine ⟨t.kind, t.text, t.int, ?_, by unfold maxLen; omega⟩
  have h1 : cs = cs.toList.toArray := by simp
  have h2 : cs.toList = [.int .i64 t.kind, .string t.text, .int .i64 t.int] := by simpa [Value.cells] using e
  rw [h1, h2]
end Go.Proofs.YtenchgdlkbdpdaaDoor
