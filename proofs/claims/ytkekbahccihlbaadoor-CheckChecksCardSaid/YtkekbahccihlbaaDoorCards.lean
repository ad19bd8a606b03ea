/-
  DERIVED. GIVEN WITH THE SEED: THE CARDS: each row of YtkekbahccihlbaaDoorRows.lean that lists a variable, with what it lists TIED to the program's text (the seventh form; the later family's looks); each row that meets fmt, with fmt's text TOLD by the authors' own Lean function (tested against real Go, not proved from fmt's source: count such statements apart). THE CARD IS WHAT COUNTS. Prove the row's statement (the work); the ties are given (YtkekbahccihlbaaDoorTie.lean); close each card by the builder's one call (the guide's Derived/Test/ToyasCard.lean, 'card_holds'). Laid BY PROGRAM, IN A SANDBOX (cutbox-door.mjs). By AI agents, Wed Nov 11 2026. No macro, syntax, notation, axiom, sorry.
-/
import Derived.Test.YtkekbahccihlbaaDoorRows
import GoSem.ClaimSeven
namespace Go.Proofs.YtkekbahccihlbaaDoor
namespace Rows

/-- THE TIED CARD OF 'dotterellaw.CheckChecks'. -/
def checkChecksCard : Claim7 := { stood := { row := checkChecksRow, standIns := [], harness := (true, "839bf9b18f13d645ca1cb415801fb012e6614271d9de963f832384fa0c3bf367"), looks := false }, kinds := [], alts := [], laidByText := true, laidKinds := [.widerDeep, .widerDeep], laidTests := true, laidLooks := .later }
def CheckChecksCardSaid : Prop := Claim7.holds Tryd.pinned (.plain (OpenSpec.ofChange checkChecksSpec)) checkChecksCard

/-- THE SECOND FORM's CARD OF 'dotterellaw.CheckChecks'. -/
def checkChecksUptoCard : Claim7 := { stood := { row := checkChecksUptoRow, standIns := [], harness := (true, "839bf9b18f13d645ca1cb415801fb012e6614271d9de963f832384fa0c3bf367"), looks := false }, kinds := [], alts := [], laidByText := true, laidKinds := [.widerDeep, .widerDeep], laidTests := true, laidLooks := .later }
def CheckChecksUptoCardSaid : Prop := Claim7.holds Tryd.pinned (.plain (OpenSpec.upto checkChecksSpec)) checkChecksUptoCard
end Rows
end Go.Proofs.YtkekbahccihlbaaDoor
