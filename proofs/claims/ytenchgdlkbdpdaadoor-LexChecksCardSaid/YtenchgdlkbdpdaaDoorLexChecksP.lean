/-
  The law LexChecks, proved: for every argument it answers true; its card, tied to the tables of the program's text. No condition but the tie.
-/
import Derived.Test.YtenchgdlkbdpdaaDoorCards
import Derived.Test.YtenchgdlkbdpdaaDoorTie
import Derived.Test.YtenchgdlkbdpdaaDoorLawRow
import Derived.Test.YtenchgdlkbdpdaaDoorKnob
import Derived.Test.YtenchgdlkbdpdaaDoorTokL
namespace Go.Proofs.YtenchgdlkbdpdaaDoor
open Go.ChangeShapes Go.WideShapes Go.ChangeAt Go.RowKit Go.Joins
open Go.ChangeMaps (setBlock shut_map_nil open_string shut_string keptBut_setBlock frozen?_setBlock heap_setBlock_same)
set_option linter.unusedVariables false

theorem g_marks : Tryd.prog.globalNamed "dotterel/lex.marks" = some 2 := by kernel_rfl
theorem gt_marks : (Tryd.prog.globals[2]?).map (·.type) = some 44 := by kernel_rfl
theorem gc_marks : Tryd.prog.cellsOf 44 = 17 := by kernel_rfl
theorem cells_string : Tryd.prog.cellsOf 9 = 1 := by kernel_rfl
/-- A world for the witness: the tables hold what their initialisers lay. -/
noncomputable def laidWorld (os : Os) : World :=
  { World.holding Tryd.prog os ⟨#[], #[], []⟩ with heap := (layCells (World.holding Tryd.prog os ⟨#[], #[], []⟩).heap 2 (marksL.map Value.string).toArray) }
theorem laid_met (os : Os) : laidMet Tryd.prog Rows.lexChecksRow.laid ((laidWorld os).forCall (fun _ _ => 0) ⟨#[], #[.agg #[.int .i64 0, .string ByteArray.empty, .int .i64 0]], []⟩).memory :=
  laidMet_of_run' 8 (by kernel_rfl) (by kernel_rfl)
theorem reads (os : Os) {H : Type} (enc : TypeId × Value → H) : ∃ places, DataW.whole enc Tryd.prog ((laidWorld os).forCall (fun _ _ => 0) ⟨#[], #[.agg #[.int .i64 0, .string ByteArray.empty, .int .i64 0]], []⟩).memory Tryd.f4.params.toList Rows.lexChecksSpec.vars false #[(.agg #[.int .i64 0, .string ByteArray.empty, .int .i64 0] : Value)].toList 8 = some ([.agg [.lit (.int .i64 0), .lit (.string []), .lit (.int .i64 0)]], [], places) :=
  ⟨[], by kernel_rfl⟩

set_option maxRecDepth 100000 in
theorem lexChecks_lifted (os : Os) (started : os.Started) (H : Type) (enc : TypeId × Value → H) (F : Stop.Interp) :
    ReturnsInHanded {} Tryd.checked os 4 .any ((OpenSpec.ofChange Rows.lexChecksSpec).preRow enc Tryd.prog Tryd.f4 Rows.lexChecksRow.domain false Rows.lexChecksRow.laid) (((OpenSpec.ofChange Rows.lexChecksSpec).at F).post enc Tryd.prog Tryd.f4 false true false false) := by
  have hp : Tryd.f4.params = #[24] := Tryd.params4
  obtain ⟨places, hx⟩ := reads os enc
  refine lawrow_lift (C := Tryd.checked) (fn := Tryd.f4) (s := Rows.lexChecksSpec) (tb := 4) own_knob started (by kernel_rfl) Tryd.func4 laid_out (by kernel_rfl) rfl (by kernel_rfl) Tryd.underlying4
    (fun ds hl => by rw [hp] at hl; exact (by match ds, hl with | [_], _ => rfl))
    (witness_row_at (enc := enc) (C := Tryd.checked) false (laidWorld os) #[.agg #[.int .i64 0, .string ByteArray.empty, .int .i64 0]] rfl (by kernel_rfl) (by kernel_rfl) (by kernel_rfl)
      (OpenSpec.preRow_of_cond 8 hx (by kernel_rfl) (fun k hk => by cases hk) (by kernel_rfl) (laid_met os))) ?_
  intro W base args ds ps hval0 hA0 hlt hsz0 hL
  have hval : ∀ (j : Nat) t v, Tryd.f4.params[j]? = some t → args[j]? = some v → Value.okWide Tryd.prog W .any base t v := hval0
  have hA : DataW.TrodAll enc Tryd.prog W 0 (fun _ => true) true Tryd.f4.params.toList args.toList ds ps := hA0
  have hsz : (DataW.weightsEach Tryd.prog Tryd.f4.params.toList ds).all (· ≤ reachBytes) = true := hsz0
  rw [hp] at hA hval hsz
  clear hA0 hval0 hsz0
  have hL' : laidMet Tryd.prog [("dotterel/lex.marks", wordsData marksL)] W := hL
  have c_marks := words_of_head g_marks gt_marks Tryd.underlying44 Tryd.underlying9 cells_string gc_marks (zs := marksL) hL'
  have b_marks : 2 < W.heap.size := World.block_lt_of_cell? W ⟨2, 0, none⟩ (c_marks 0 (by decide))
  have S_marks : SlF (under W.heap.size) W 1 wordF (some ⟨2, 0, none⟩) 17 17 marksL := words_cells b_marks b_marks rfl (by omega) c_marks
  obtain ⟨v0, d0, rfl, rfl, h0⟩ := trodAll_one hA
  obtain ⟨k0, s0, i0, rfl, z0⟩ := open_token (hval 0 24 v0 rfl rfl) h0 (fun p hp => hlt p (by simp [hp])) (fun q hq => by simpa using List.all_eq_true.1 hsz q (DataW.weights_mem_each (j := 0) rfl rfl q hq))
  exact lexChecks_walk _ k0 s0 i0 W S_marks z0

theorem lexChecks_said : Rows.LexChecksSaid :=
  OpenClaim.holds_of_cond 4 Tryd.f4 rfl rfl rfl rfl rfl rfl rfl ⟨rfl, rfl, rfl, rfl, rfl⟩ rfl rfl rfl rfl rfl (by kernel_rfl) Tryd.func4 (by kernel_rfl)
    (of_decide_eq_true (by kernel_rfl)) (by unfold Func.isWrapper; first | (rw [if_pos (by decide +kernel)]; kernel_rfl) | (rw [if_neg (by decide +kernel)]; exact ⟨rfl, rfl⟩))
    (fun os started H enc _ F => by rw [OpenClaim.pre_eq_preRow]; exact lexChecks_lifted os started H enc F)

/-- No parameter wants a stand-in; the program's own looks are off: what the card asks. -/
theorem plainCard (f : FuncId) (fn : Func) (hf : Tryd.pinned.checked.prog.funcNamed "dotterel/dotterellaw.LexChecks" = some f) (hfn : Tryd.pinned.checked.prog.funcs[f]? = some fn) :
    false = Tryd.pinned.checked.prog.looks [] ∧ ∀ (j : Nat) t, fn.params[j]? = some t → Tryd.pinned.checked.prog.wantsStandIn t = false := by
  obtain rfl : f = 4 := Option.some.inj ((show Tryd.prog.funcNamed "dotterel/dotterellaw.LexChecks" = some 4 by kernel_rfl).symm.trans hf) |>.symm
  obtain rfl : fn = Tryd.f4 := (Option.some.inj (Tryd.func4.symm.trans hfn)).symm
  refine ⟨by kernel_rfl, fun j t ht => ?_⟩
  have hp : Tryd.f4.params = #[24] := Tryd.params4
  rw [hp] at ht
  obtain rfl : t = 24 := by simpa using Array.mem_of_getElem? ht
  exact (show Tryd.prog.wantsStandIn 24 = false by kernel_rfl)

/-- The statement: the card. -/
theorem lexChecks_holds : Rows.LexChecksCardSaid :=
  Claim7.holds_tied_plain_at .later [] _ _ _ _ lexChecks_said (fun _ h => by cases h) (by kernel_rfl) (fun _ h => by cases h) lexChecks_row_tie rfl ⟨rfl, rfl⟩ (by kernel_rfl) rfl plainCard (by kernel_rfl)

#print axioms lexChecks_holds
end Go.Proofs.YtenchgdlkbdpdaaDoor
