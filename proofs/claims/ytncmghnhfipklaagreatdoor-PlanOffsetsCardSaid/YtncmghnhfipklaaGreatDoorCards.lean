/-
  DERIVED. GIVEN WITH THE SEED: THE CARDS: each row of YtncmghnhfipklaaGreatDoorRows.lean that lists a variable, with what it lists TIED to the program's text (the seventh form; the later family's looks); each row that meets fmt, with fmt's text TOLD by the authors' own Lean function (tested against real Go, not proved from fmt's source: count such statements apart). THE CARD IS WHAT COUNTS. Prove the row's statement (the work); the ties are given (YtncmghnhfipklaaGreatDoorTie.lean); close each card by the builder's one call (the guide's Derived/Test/ToyasCard.lean, 'card_holds'). Laid BY PROGRAM, IN A SANDBOX (cutbox-door.mjs). By AI agents, Wed Nov 11 2026. No macro, syntax, notation, axiom, sorry.
-/
import Derived.Test.YtncmghnhfipklaaGreatDoorRows
import GoSem.ClaimSeven
namespace Go.Proofs.YtncmghnhfipklaaGreatDoor
namespace Rows

/-- THE TIED CARD OF 'dotterellaw.PlanRules'. -/
def planRulesCard : Claim7 := { stood := { row := planRulesRow, standIns := [], harness := (true, "4208c8139821eeddbbb8c6d7a8fcdc7394de48a7fc7994b7a5b14564e0e88cbd"), looks := false }, kinds := [], alts := [], laidByText := true, laidKinds := [.widerDeep, .widerDeep], laidTests := true, laidLooks := .later }
def PlanRulesCardSaid : Prop := Claim7.holds Tryz.pinned (.plain (OpenSpec.ofChange planRulesSpec)) planRulesCard

/-- THE TIED CARD OF 'dotterellaw.PlanOffsets'. -/
def planOffsetsCard : Claim7 := { stood := { row := planOffsetsRow, standIns := [], harness := (true, "4208c8139821eeddbbb8c6d7a8fcdc7394de48a7fc7994b7a5b14564e0e88cbd"), looks := false }, kinds := [], alts := [], laidByText := true, laidKinds := [.widerDeep, .widerDeep], laidTests := true, laidLooks := .later }
def PlanOffsetsCardSaid : Prop := Claim7.holds Tryz.pinned (.plain (OpenSpec.ofChange planOffsetsSpec)) planOffsetsCard

/-- THE SECOND FORM's CARD OF 'dotterellaw.PlanRules'. -/
def planRulesUptoCard : Claim7 := { stood := { row := planRulesUptoRow, standIns := [], harness := (true, "4208c8139821eeddbbb8c6d7a8fcdc7394de48a7fc7994b7a5b14564e0e88cbd"), looks := false }, kinds := [], alts := [], laidByText := true, laidKinds := [.widerDeep, .widerDeep], laidTests := true, laidLooks := .later }
def PlanRulesUptoCardSaid : Prop := Claim7.holds Tryz.pinned (.plain (OpenSpec.upto planRulesSpec)) planRulesUptoCard

/-- THE SECOND FORM's CARD OF 'dotterellaw.PlanOffsets'. -/
def planOffsetsUptoCard : Claim7 := { stood := { row := planOffsetsUptoRow, standIns := [], harness := (true, "4208c8139821eeddbbb8c6d7a8fcdc7394de48a7fc7994b7a5b14564e0e88cbd"), looks := false }, kinds := [], alts := [], laidByText := true, laidKinds := [.widerDeep, .widerDeep], laidTests := true, laidLooks := .later }
def PlanOffsetsUptoCardSaid : Prop := Claim7.holds Tryz.pinned (.plain (OpenSpec.upto planOffsetsSpec)) planOffsetsUptoCard
end Rows
end Go.Proofs.YtncmghnhfipklaaGreatDoor
