/-
  DERIVED. GIVEN WITH THE SEED: THE CARDS: each row of YtobnaokknkmlcaaDoorRows.lean that lists a variable, with what it lists TIED to the program's text (the seventh form; the later family's looks); each row that meets fmt, with fmt's text TOLD by the authors' own Lean function (tested against real Go, not proved from fmt's source: count such statements apart). THE CARD IS WHAT COUNTS. Prove the row's statement (the work); the ties are given (YtobnaokknkmlcaaDoorTie.lean); close each card by the builder's one call (the guide's Derived/Test/ToyasCard.lean, 'card_holds'). Laid BY PROGRAM, IN A SANDBOX (cutbox-door.mjs). By AI agents, Wed Nov 11 2026. No macro, syntax, notation, axiom, sorry.
-/
import Derived.Test.YtobnaokknkmlcaaDoorRows
import GoSem.ClaimSeven
namespace Go.Proofs.YtobnaokknkmlcaaDoor
namespace Rows

/-- THE TIED CARD OF 'dotterellaw.ParseParses'. -/
def parseParsesCard : Claim7 := { stood := { row := parseParsesRow, standIns := [], harness := (true, "b294092f20fbd065d27845397b3e893ff70eff45dee31d43d55a793bb4a0fe4d"), looks := false }, kinds := [], alts := [], laidByText := true, laidKinds := [.widerDeep, .widerDeep, .widerDeep], laidTests := true, laidLooks := .later }
def ParseParsesCardSaid : Prop := Claim7.holds Tryd.pinned (.plain (OpenSpec.ofChange parseParsesSpec)) parseParsesCard

/-- THE SECOND FORM's CARD OF 'dotterellaw.ParseParses'. -/
def parseParsesUptoCard : Claim7 := { stood := { row := parseParsesUptoRow, standIns := [], harness := (true, "b294092f20fbd065d27845397b3e893ff70eff45dee31d43d55a793bb4a0fe4d"), looks := false }, kinds := [], alts := [], laidByText := true, laidKinds := [.widerDeep, .widerDeep, .widerDeep], laidTests := true, laidLooks := .later }
def ParseParsesUptoCardSaid : Prop := Claim7.holds Tryd.pinned (.plain (OpenSpec.upto parseParsesSpec)) parseParsesUptoCard
end Rows
end Go.Proofs.YtobnaokknkmlcaaDoor
