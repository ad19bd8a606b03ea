/-
  The law LexJoins, walked; a list of tokens as an argument, opened.
-/
import Derived.Test.YtenchgdlkbdpdaaDoorJoiY
namespace Go.Proofs.YtenchgdlkbdpdaaDoor
open Go.ChangeShapes Go.WideShapes Go.ChangeAt Go.RowKit Go.Joins Go.Deep
set_option linter.unusedVariables false
set_option linter.unusedSimpArgs false

theorem opens_tokens : Opens Tryd.prog 28 1 (sliceF 3 32 tokF) := opens_slice Tryd.underlying28 (by kernel_rfl) (by kernel_rfl) opens_token
set_option maxRecDepth 100000 in
theorem open_tokens {H : Type} {enc : TypeId × Value → H} {W : World} {base : Nat} {v : Value} {d : DataW H} {ps : List MemPlace} (hv : Value.okWide Tryd.prog W .any base 28 v) (h : DataW.Trod enc Tryd.prog W 0 (fun _ => true) true 28 v d ps) (hlt : ∀ p ∈ ps, p.block < W.heap.size) (hB : ∀ q ∈ d.weights Tryd.prog 28, q ≤ reachBytes) :
    ∃ l ao n cap, v = .slice ao n cap ∧ SlF (under W.heap.size) W 3 tokF ao n cap l ∧ n * 32 ≤ 140737488355328 := by
  obtain ⟨qa, qb, qc, rfl⟩ := okWide_slice Tryd.underlying28 hv
  obtain ⟨m, ao, n, cap, e, hS, h8⟩ := open_arg opens_tokens (by simp [Value.cells]) h hlt hB
  simp only [Value.cells, List.cons.injEq, and_true, Value.slice.injEq] at e
  obtain ⟨rfl, rfl, rfl⟩ := e
  exact ⟨m, qa, qb, qc, rfl, hS, by rw [hS.len]; omega⟩
theorem tokF_one : ∀ F w row x, tokF F w row x → ∀ u ∈ row, u.oneCell' = true := fun F w row t h u hu => by
  obtain ⟨h, _⟩ := h
  subst h
  exact tok_one t u hu
theorem join_any (F G : Nat → Prop) (ao : Option Addr) (n cap : Nat) (l : List Tok) (w : World) (hL : SlF F w 3 tokF ao n cap l) (hM : SlF G w 1 wordF (some ⟨2, 0, none⟩) 17 17 marksL) : Calls Tryd.prog 15 #[.slice ao n cap] w (JoinPost l w) := by
  by_cases h : 700 < n
  · exact join_many F ao n cap l w (hL.imp fun _ _ h => h.1) h
  · exact join_few F G ao n cap l w hL (by omega) hM
theorem joinOf_any (F : Nat → Prop) (ao : Option Addr) (n cap : Nat) (l : List Tok) (w : World) (hL : SlF F w 3 tokF ao n cap l) : Calls Tryd.prog 16 #[.slice ao n cap] w (JoinPost l w) := by
  by_cases h : 700 < n
  · exact joinOf_many F ao n cap l w (hL.imp fun _ _ h => h.1) h
  · exact joinOf_few F ao n cap l w hL (by omega)

set_option maxHeartbeats 2000000 in
theorem lexJoins_walk (F G : Nat → Prop) (ao : Option Addr) (n cap : Nat) (l : List Tok) (w : World) (hL : SlF F w 3 tokF ao n cap l) (hn : n * 32 ≤ 140737488355328) (hM : SlF G w 1 wordF (some ⟨2, 0, none⟩) 17 17 marksL) :
    Calls Tryd.prog 6 #[.slice ao n cap] w fun e w' => e = .returned (.bool true) ∧ Below w.heap.size w w' := by
  obtain ⟨i0, hi, hz0, hz1, hz2⟩ := info_parts info_tok
  obtain ⟨ao', cap', w', hrun, hS, hb⟩ := run_copy_to (G := from_ w.heap.size) Tryd.underlying28 hi hz0 hz1 hz2 rfl (by omega) tokF_firm tokF_one hL hn (Nat.le_refl _) none (World.ownsRow_nil _ _ _ _) (fun b h => h) (fun _ _ h => h)
  go_enter Tryd.func6, Tryd.ntmps6
  go_wp2_with (first | (at_builtin; refine wpList_append_run rfl _ _ 28 rfl rfl rfl rfl hrun ?_) | fail)
  refine (join_any _ G ao' n cap' l _ hS (hM.below wordF_firm hb)).mono ?_
  rintro e w1 ⟨rfl, hb1⟩
  have hL1 := (hL.below tokF_firm hb).below tokF_firm hb1
  have hS1 := hS.below tokF_firm hb1
  go_wp2_with fail
  refine (joinOf_any F ao n cap l _ hL1).mono ?_
  rintro e w2 ⟨rfl, hb2⟩
  have hL2 := hL1.below tokF_firm hb2
  have hS2 := hS1.below tokF_firm hb2
  generalize joinV l = c
  clear hrun
  go_wp2_with fail
  refine (sameTokens_yes _ _ ao' n cap' ao n cap l _ (hS2.imp fun _ _ h => h.1) (hL2.imp fun _ _ h => h.1)).mono ?_
  rintro e w3 ⟨rfl, hb3⟩
  go_wp2
  go_ret
  exact ⟨ret_bool (by simp), (by repeat (first | exact Below.refl _ _ | assumption | refine below_step ?_ (by assumption) | refine below_step ?_ (Joins.below_draws _ _ _) | (refine Below.alloc ?_ (by first | omega | (simp; done) | (simp; omega)) _) | (refine Below.setCell ?_ (by first | omega | (simp; done) | (simp; omega)) _) | refine Below.drew ?_))⟩
end Go.Proofs.YtenchgdlkbdpdaaDoor
