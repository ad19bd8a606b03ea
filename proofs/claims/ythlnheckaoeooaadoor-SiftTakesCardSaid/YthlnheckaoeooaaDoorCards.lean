/-
  DERIVED. GIVEN WITH THE SEED: THE CARDS: each row of YthlnheckaoeooaaDoorRows.lean that lists a variable, with what it lists TIED to the program's text (the seventh form; the later family's looks); each row that meets fmt, with fmt's text TOLD by the authors' own Lean function (tested against real Go, not proved from fmt's source: count such statements apart). THE CARD IS WHAT COUNTS. Prove the row's statement (the work); the ties are given (YthlnheckaoeooaaDoorTie.lean); close each card by the builder's one call (the guide's Derived/Test/ToyasCard.lean, 'card_holds'). Laid BY PROGRAM, IN A SANDBOX (cutbox-door.mjs). By AI agents, Wed Nov 11 2026. No macro, syntax, notation, axiom, sorry.
-/
import Derived.Test.YthlnheckaoeooaaDoorRows
import GoSem.ClaimSeven
namespace Go.Proofs.YthlnheckaoeooaaDoor
namespace Rows

/-- THE TIED CARD OF 'dotterellaw.SiftTakes'. -/
def siftTakesCard : Claim7 := { stood := { row := siftTakesRow, standIns := [], harness := (true, "902f86ac68d4d56582ed653c86d229a2038fc5373f3caf15f2101ce835150aff"), looks := false }, kinds := [], alts := [], laidByText := true, laidKinds := [.widerDeep, .widerDeep], laidTests := true, laidLooks := .later }
def SiftTakesCardSaid : Prop := Claim7.holds Tryd.pinned (.plain (OpenSpec.ofChange siftTakesSpec)) siftTakesCard

/-- THE TIED CARD OF 'dotterellaw.CheckShows'. -/
def checkShowsCard : Claim7 := { stood := { row := checkShowsRow, standIns := [], harness := (true, "902f86ac68d4d56582ed653c86d229a2038fc5373f3caf15f2101ce835150aff"), looks := false }, kinds := [], alts := [], laidByText := true, laidKinds := [.widerDeep, .widerDeep, .data], laidTests := true, laidLooks := .later }
def CheckShowsCardSaid : Prop := Claim7.holds Tryd.pinned (.plain (OpenSpec.ofChange checkShowsSpec)) checkShowsCard

/-- THE SECOND FORM's CARD OF 'dotterellaw.SiftTakes'. -/
def siftTakesUptoCard : Claim7 := { stood := { row := siftTakesUptoRow, standIns := [], harness := (true, "902f86ac68d4d56582ed653c86d229a2038fc5373f3caf15f2101ce835150aff"), looks := false }, kinds := [], alts := [], laidByText := true, laidKinds := [.widerDeep, .widerDeep], laidTests := true, laidLooks := .later }
def SiftTakesUptoCardSaid : Prop := Claim7.holds Tryd.pinned (.plain (OpenSpec.upto siftTakesSpec)) siftTakesUptoCard

/-- THE SECOND FORM's CARD OF 'dotterellaw.CheckShows'. -/
def checkShowsUptoCard : Claim7 := { stood := { row := checkShowsUptoRow, standIns := [], harness := (true, "902f86ac68d4d56582ed653c86d229a2038fc5373f3caf15f2101ce835150aff"), looks := false }, kinds := [], alts := [], laidByText := true, laidKinds := [.widerDeep, .widerDeep, .data], laidTests := true, laidLooks := .later }
def CheckShowsUptoCardSaid : Prop := Claim7.holds Tryd.pinned (.plain (OpenSpec.upto checkShowsSpec)) checkShowsUptoCard
end Rows
end Go.Proofs.YthlnheckaoeooaaDoor
