/-
  The law ParseParses, proved: for every argument it answers true; its card, tied to the tables of the program's text. No condition but the tie.
-/
import Derived.Test.YtobnaokknkmlcaaDoorCards
import Derived.Test.YtobnaokknkmlcaaDoorTie
import Derived.Test.YtobnaokknkmlcaaDoorLawRow
import Derived.Test.YtobnaokknkmlcaaDoorKnob
import Derived.Test.YtobnaokknkmlcaaDoorPsDm
namespace Go.Proofs.YtobnaokknkmlcaaDoor
open Go.ChangeShapes Go.WideShapes Go.ChangeAt Go.RowKit Go.Joins
open Go.ChangeMaps (setBlock shut_map_nil open_string shut_string keptBut_setBlock frozen?_setBlock heap_setBlock_same)
set_option linter.unusedVariables false

theorem g_marks : Tryd.prog.globalNamed "dotterel/lex.marks" = some 0 := by kernel_rfl
theorem gt_marks : (Tryd.prog.globals[0]?).map (·.type) = some 65 := by kernel_rfl
theorem gc_marks : Tryd.prog.cellsOf 65 = 17 := by kernel_rfl
theorem g_rels : Tryd.prog.globalNamed "dotterel/parse.relations" = some 2 := by kernel_rfl
theorem gt_rels : (Tryd.prog.globals[2]?).map (·.type) = some 105 := by kernel_rfl
theorem gc_rels : Tryd.prog.cellsOf 105 = 14 := by kernel_rfl
theorem g_kept : Tryd.prog.globalNamed "dotterel/parse.kept" = some 1 := by kernel_rfl
theorem gt_kept : (Tryd.prog.globals[1]?).map (·.type) = some 65 := by kernel_rfl
theorem gc_kept : Tryd.prog.cellsOf 65 = 17 := by kernel_rfl
theorem cells_string : Tryd.prog.cellsOf 9 = 1 := by kernel_rfl
/-- A world for the witness: the tables hold what their initialisers lay. -/
noncomputable def laidWorld (os : Os) : World :=
  { World.holding Tryd.prog os ⟨#[], #[], []⟩ with heap := (layCells (layCells (layCells (World.holding Tryd.prog os ⟨#[], #[], []⟩).heap 0 (marksL.map Value.string).toArray) 2 (relsL.map Value.string).toArray) 1 (keptL.map Value.string).toArray) }
theorem laid_met (os : Os) : laidMet Tryd.prog Rows.parseParsesRow.laid ((laidWorld os).forCall (fun _ _ => 0) ⟨#[], #[.slice none 0 0], []⟩).memory :=
  laidMet_of_run' 8 (by kernel_rfl) (by kernel_rfl)
theorem reads (os : Os) {H : Type} (enc : TypeId × Value → H) : ∃ places, DataW.whole enc Tryd.prog ((laidWorld os).forCall (fun _ _ => 0) ⟨#[], #[.slice none 0 0], []⟩).memory Tryd.f3.params.toList Rows.parseParsesSpec.vars false #[(.slice none 0 0 : Value)].toList 8 = some ([.nil], [], places) :=
  ⟨[], by kernel_rfl⟩

set_option maxRecDepth 100000 in
theorem parseParses_lifted (os : Os) (started : os.Started) (H : Type) (enc : TypeId × Value → H) (F : Stop.Interp) :
    ReturnsInHanded {} Tryd.checked os 3 .any ((OpenSpec.ofChange Rows.parseParsesSpec).preRow enc Tryd.prog Tryd.f3 Rows.parseParsesRow.domain false Rows.parseParsesRow.laid) (((OpenSpec.ofChange Rows.parseParsesSpec).at F).post enc Tryd.prog Tryd.f3 false true false false) := by
  have hp : Tryd.f3.params = #[22] := Tryd.params3
  obtain ⟨places, hx⟩ := reads os enc
  refine lawrow_lift (C := Tryd.checked) (fn := Tryd.f3) (s := Rows.parseParsesSpec) (tb := 4) own_knob started (by kernel_rfl) Tryd.func3 laid_out (by kernel_rfl) rfl (by kernel_rfl) Tryd.underlying4
    (fun ds hl => by rw [hp] at hl; exact (by match ds, hl with | [_], _ => rfl))
    (witness_row_at (enc := enc) (C := Tryd.checked) false (laidWorld os) #[.slice none 0 0] rfl (by kernel_rfl) (by kernel_rfl) (by kernel_rfl)
      (OpenSpec.preRow_of_cond 8 hx (by kernel_rfl) (fun k hk => by cases hk) (by kernel_rfl) (laid_met os))) ?_
  intro W base args ds ps hval0 hA0 hlt hsz0 hL
  have hval : ∀ (j : Nat) t v, Tryd.f3.params[j]? = some t → args[j]? = some v → Value.okWide Tryd.prog W .any base t v := hval0
  have hA : DataW.TrodAll enc Tryd.prog W 0 (fun _ => true) true Tryd.f3.params.toList args.toList ds ps := hA0
  have hsz : (DataW.weightsEach Tryd.prog Tryd.f3.params.toList ds).all (· ≤ reachBytes) = true := hsz0
  rw [hp] at hA hval hsz
  clear hA0 hval0 hsz0
  have hL' : laidMet Tryd.prog [("dotterel/lex.marks", wordsData marksL), ("dotterel/parse.relations", wordsData relsL), ("dotterel/parse.kept", wordsData keptL)] W := hL
  have c_marks := words_of_head g_marks gt_marks Tryd.underlying65 Tryd.underlying9 cells_string gc_marks (zs := marksL) hL'
  have b_marks : 0 < W.heap.size := World.block_lt_of_cell? W ⟨0, 0, none⟩ (c_marks 0 (by decide))
  have S_marks : SlF (under W.heap.size) W 1 wordF (some ⟨0, 0, none⟩) 17 17 marksL := words_cells b_marks b_marks rfl (by omega) c_marks
  have c_rels := words_of_head g_rels gt_rels Tryd.underlying105 Tryd.underlying9 cells_string gc_rels (zs := relsL) (laidMet.tail hL')
  have b_rels : 2 < W.heap.size := World.block_lt_of_cell? W ⟨2, 0, none⟩ (c_rels 0 (by decide))
  have S_rels : SlF (under W.heap.size) W 1 wordF (some ⟨2, 0, none⟩) 14 14 relsL := words_cells b_rels b_rels rfl (by omega) c_rels
  have c_kept := words_of_head g_kept gt_kept Tryd.underlying65 Tryd.underlying9 cells_string gc_kept (zs := keptL) (laidMet.tail (laidMet.tail hL'))
  have b_kept : 1 < W.heap.size := World.block_lt_of_cell? W ⟨1, 0, none⟩ (c_kept 0 (by decide))
  have S_kept : SlF (under W.heap.size) W 1 wordF (some ⟨1, 0, none⟩) 17 17 keptL := words_cells b_kept b_kept rfl (by omega) c_kept
  obtain ⟨v0, d0, rfl, rfl, h0⟩ := trodAll_one hA
  obtain ⟨l0, ao0, n0, cap0, rfl, S0, z0⟩ := open_tokens (hval 0 22 v0 rfl rfl) h0 (fun p hp => hlt p (by simp [hp])) (fun q hq => by simpa using List.all_eq_true.1 hsz q (DataW.weights_mem_each (j := 0) rfl rfl q hq))
  exact parseParses_walk _ _ ao0 n0 cap0 l0 W S0 z0 S_marks S_kept S_rels

theorem parseParses_said : Rows.ParseParsesSaid :=
  OpenClaim.holds_of_cond 3 Tryd.f3 rfl rfl rfl rfl rfl rfl rfl ⟨rfl, rfl, rfl, rfl, rfl⟩ rfl rfl rfl rfl rfl (by kernel_rfl) Tryd.func3 (by kernel_rfl)
    (of_decide_eq_true (by kernel_rfl)) (by unfold Func.isWrapper; first | (rw [if_pos (by decide +kernel)]; kernel_rfl) | (rw [if_neg (by decide +kernel)]; exact ⟨rfl, rfl⟩))
    (fun os started H enc _ F => by rw [OpenClaim.pre_eq_preRow]; exact parseParses_lifted os started H enc F)

/-- No parameter wants a stand-in; the program's own looks are off: what the card asks. -/
theorem plainCard (f : FuncId) (fn : Func) (hf : Tryd.pinned.checked.prog.funcNamed "dotterel/dotterellaw.ParseParses" = some f) (hfn : Tryd.pinned.checked.prog.funcs[f]? = some fn) :
    false = Tryd.pinned.checked.prog.looks [] ∧ ∀ (j : Nat) t, fn.params[j]? = some t → Tryd.pinned.checked.prog.wantsStandIn t = false := by
  obtain rfl : f = 3 := Option.some.inj ((show Tryd.prog.funcNamed "dotterel/dotterellaw.ParseParses" = some 3 by kernel_rfl).symm.trans hf) |>.symm
  obtain rfl : fn = Tryd.f3 := (Option.some.inj (Tryd.func3.symm.trans hfn)).symm
  refine ⟨by kernel_rfl, fun j t ht => ?_⟩
  have hp : Tryd.f3.params = #[22] := Tryd.params3
  rw [hp] at ht
  obtain rfl : t = 22 := by simpa using Array.mem_of_getElem? ht
  exact (show Tryd.prog.wantsStandIn 22 = false by kernel_rfl)

/-- The statement: the card. -/
theorem parseParses_holds : Rows.ParseParsesCardSaid :=
  Claim7.holds_tied_plain_at .later [] _ _ _ _ parseParses_said (fun _ h => by cases h) (by kernel_rfl) (fun _ h => by cases h) parseParses_row_tie rfl ⟨rfl, rfl⟩ (by kernel_rfl) rfl plainCard (by kernel_rfl)

#print axioms parseParses_holds
end Go.Proofs.YtobnaokknkmlcaaDoor
