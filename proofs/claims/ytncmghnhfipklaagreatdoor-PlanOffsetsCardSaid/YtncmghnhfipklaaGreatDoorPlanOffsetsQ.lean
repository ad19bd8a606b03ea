/-
  The law PlanOffsets, proved: for every argument it answers true; its card, tied to the tables of the program's text. No condition but the tie.
-/
import Derived.Test.YtncmghnhfipklaaGreatDoorCards
import Derived.Test.YtncmghnhfipklaaGreatDoorTie
import Derived.Test.YtncmghnhfipklaaGreatDoorPu00
import Derived.Test.YtncmghnhfipklaaGreatDoorPw41
namespace Go.Proofs.YtncmghnhfipklaaGreatDoor
open Go.ChangeShapes Go.WideShapes Go.ChangeAt Go.RowKit Go.Joins
open Go.ChangeMaps (setBlock shut_map_nil open_string shut_string keptBut_setBlock frozen?_setBlock heap_setBlock_same)
set_option linter.unusedVariables false
theorem g_rels:Tryz.prog.globalNamed "dotterel/parse.relations" =some 1:=by kernel_rfl
theorem gt_rels:(Tryz.prog.globals[1]?).map (·.type)=some 86:=by kernel_rfl
theorem gc_rels:Tryz.prog.cellsOf 86=14:=by kernel_rfl
theorem g_kept:Tryz.prog.globalNamed "dotterel/parse.kept" =some 0:=by kernel_rfl
theorem gt_kept:(Tryz.prog.globals[0]?).map (·.type)=some 85:=by kernel_rfl
theorem gc_kept:Tryz.prog.cellsOf 85=17:=by kernel_rfl
theorem cells_string:Tryz.prog.cellsOf 9=1:=by kernel_rfl
noncomputable def laidWorld (os:Os):World:=
 {World.holding Tryz.prog os ⟨#[], #[],[]⟩with heap:=(layCells (layCells (World.holding Tryz.prog os ⟨#[], #[],[]⟩).heap 1 (relsL.map Value.string).toArray) 0 (keptL.map Value.string).toArray)}
theorem laid_met(os:Os):laidMet Tryz.prog Rows.planOffsetsRow.laid ((laidWorld os).forCall (fun _ _=>0) ⟨#[], #[.agg #[.slice none 0 0,.slice none 0 0]],[]⟩).memory:=
 laidMet_of_run' 8 (by kernel_rfl) (by kernel_rfl)
theorem reads(os:Os){H:Type}(enc:TypeId×Value→H): ∃ places,DataW.whole enc Tryz.prog ((laidWorld os).forCall (fun _ _=>0) ⟨#[], #[.agg #[.slice none 0 0,.slice none 0 0]],[]⟩).memory Tryz.f4.params.toList Rows.planOffsetsSpec.vars false #[(.agg #[.slice none 0 0,.slice none 0 0]:Value)].toList 8=some ([.agg [.nil,.nil]],[],places):=
 ⟨[],by kernel_rfl⟩
set_option maxRecDepth 100000 in
theorem planOffsets_lifted(os:Os)(started:os.Started)(H:Type)(enc:TypeId×Value→H)(F:Stop.Interp):
  ReturnsInHanded {} Tryz.checked os 4 .any ((OpenSpec.ofChange Rows.planOffsetsSpec).preRow enc Tryz.prog Tryz.f4 Rows.planOffsetsRow.domain false Rows.planOffsetsRow.laid) (((OpenSpec.ofChange Rows.planOffsetsSpec).at F).post enc Tryz.prog Tryz.f4 false true false false):=by
 have hp:Tryz.f4.params= #[25]:=Tryz.params4
 obtain⟨places,hx⟩:=reads os enc
 refine lawrow_lift (C:=Tryz.checked) (fn:=Tryz.f4) (s:=Rows.planOffsetsSpec) (tb:=4) own_knob started (by kernel_rfl) Tryz.func4 laid_out (by kernel_rfl) rfl (by kernel_rfl) Tryz.underlying4
  (fun ds hl=>by rw[hp]at hl;exact(by match ds,hl with|[_],_=>rfl))
  (witness_row_at (enc:=enc) (C:=Tryz.checked) false (laidWorld os) #[.agg #[.slice none 0 0,.slice none 0 0]] rfl (by kernel_rfl) (by kernel_rfl) (by kernel_rfl)
   (OpenSpec.preRow_of_cond 8 hx (by kernel_rfl) (fun k hk=>by cases hk) (by kernel_rfl) (laid_met os))) ?_
 intro W base args ds ps hval0 hA0 hlt hsz0 hL
 have hval: ∀ (j:Nat) t v,Tryz.f4.params[j]?=some t→args[j]?=some v→Value.okWide Tryz.prog W .any base t v:=hval0
 have hA:DataW.TrodAll enc Tryz.prog W 0 (fun _=>true) true Tryz.f4.params.toList args.toList ds ps:=hA0
 have hsz:(DataW.weightsEach Tryz.prog Tryz.f4.params.toList ds).all (· ≤reachBytes)=true:=hsz0
 rw[hp]at hA hval hsz
 clear hA0 hval0 hsz0
 have hL' :laidMet Tryz.prog [("dotterel/parse.relations",wordsData relsL),("dotterel/parse.kept",wordsData keptL)] W:=hL
 have c_rels:=words_of_head g_rels gt_rels Tryz.underlying86 Tryz.underlying9 cells_string gc_rels (zs:=relsL) hL'
 have b_rels:1<W.heap.size:=World.block_lt_of_cell? W ⟨1,0,none⟩ (c_rels 0 (by decide))
 have S_rels:SlF (under W.heap.size) W 1 wordF (some ⟨1,0,none⟩) 14 14 relsL:=words_cells b_rels b_rels rfl (by omega) c_rels
 have c_kept:=words_of_head g_kept gt_kept Tryz.underlying85 Tryz.underlying9 cells_string gc_kept (zs:=keptL) (laidMet.tail hL')
 have b_kept:0<W.heap.size:=World.block_lt_of_cell? W ⟨0,0,none⟩ (c_kept 0 (by decide))
 have S_kept:SlF (under W.heap.size) W 1 wordF (some ⟨0,0,none⟩) 17 17 keptL:=words_cells b_kept b_kept rfl (by omega) c_kept
 obtain⟨v0,d0,rfl,rfl,h0⟩:=trodAll_one hA
 obtain⟨b0,p0,q0,r0,p10,q10,r10,rfl,S0,T0,U0,V0,W0⟩:=open_bok (hval 0 25 v0 rfl rfl) h0 (fun p hp=>hlt p (by simp[hp])) (fun q hq=>by simpa using List.all_eq_true.1 hsz q (DataW.weights_mem_each (j:=0) rfl rfl q hq))
 exact planOffsets_walk b0 _ _ _ _ _ _ W S0 T0 U0 V0 W0 S_kept S_rels
theorem planOffsets_said:Rows.PlanOffsetsSaid:=
 OpenClaim.holds_of_cond 4 Tryz.f4 rfl rfl rfl rfl rfl rfl rfl ⟨rfl,rfl,rfl,rfl,rfl⟩ rfl rfl rfl rfl rfl (by kernel_rfl) Tryz.func4 (by kernel_rfl)
  (of_decide_eq_true (by kernel_rfl)) (by unfold Func.isWrapper;first|(rw[if_pos (by decide+kernel)];kernel_rfl)|(rw[if_neg (by decide+kernel)];exact⟨rfl,rfl⟩))
  (fun os started H enc _ F=>by rw[OpenClaim.pre_eq_preRow];exact planOffsets_lifted os started H enc F)
theorem plainCard(f:FuncId)(fn:Func)(hf:Tryz.pinned.checked.prog.funcNamed "dotterel/dotterellaw.PlanOffsets" =some f)(hfn:Tryz.pinned.checked.prog.funcs[f]?=some fn):
  false=Tryz.pinned.checked.prog.looks []∧ ∀ (j:Nat) t,fn.params[j]?=some t→Tryz.pinned.checked.prog.wantsStandIn t=false:=by
 obtain rfl:f=4:=Option.some.inj ((show Tryz.prog.funcNamed "dotterel/dotterellaw.PlanOffsets" =some 4 by kernel_rfl).symm.trans hf) |>.symm
 obtain rfl:fn=Tryz.f4:=(Option.some.inj (Tryz.func4.symm.trans hfn)).symm
 refine⟨by kernel_rfl,fun j t ht=>?_⟩
 have hp:Tryz.f4.params= #[25]:=Tryz.params4
 rw[hp]at ht
 obtain rfl:t=25:=by simpa using Array.mem_of_getElem? ht
 exact(show Tryz.prog.wantsStandIn 25=false by kernel_rfl)
theorem planOffsets_holds:Rows.PlanOffsetsCardSaid:=
 Claim7.holds_tied_plain_at .later [] _ _ _ _ planOffsets_said (fun _ h=>by cases h) (by kernel_rfl) (fun _ h=>by cases h) planOffsets_row_tie rfl ⟨rfl,rfl⟩ (by kernel_rfl) rfl plainCard (by kernel_rfl)
#print axioms planOffsets_holds
end Go.Proofs.YtncmghnhfipklaaGreatDoor
