/-
  DERIVED. GIVEN WITH THE SEED: THE CARDS: each row of YtenchgdlkbdpdaaDoorRows.lean that lists a variable, with what it lists TIED to the program's text (the seventh form; the later family's looks); each row that meets fmt, with fmt's text TOLD by the authors' own Lean function (tested against real Go, not proved from fmt's source: count such statements apart). THE CARD IS WHAT COUNTS. Prove the row's statement (the work); the ties are given (YtenchgdlkbdpdaaDoorTie.lean); close each card by the builder's one call (the guide's Derived/Test/ToyasCard.lean, 'card_holds'). Laid BY PROGRAM, IN A SANDBOX (cutbox-door.mjs). By AI agents, Wed Nov 11 2026. No macro, syntax, notation, axiom, sorry.
-/
import Derived.Test.YtenchgdlkbdpdaaDoorRows
import GoSem.ClaimSeven
namespace Go.Proofs.YtenchgdlkbdpdaaDoor
namespace Rows

/-- THE TIED CARD OF 'dotterellaw.ParseKept'. -/
def parseKeptCard : Claim7 := { stood := { row := parseKeptRow, standIns := [], harness := (true, "5de506f9d726cdd1675fa4cefa3b95122dcd1479d7c2bfd028262da8fa357d22"), looks := false }, kinds := [], alts := [], laidByText := true, laidKinds := [.widerDeep, .widerDeep], laidTests := true, laidLooks := .later }
def ParseKeptCardSaid : Prop := Claim7.holds Tryd.pinned (.plain (OpenSpec.ofChange parseKeptSpec)) parseKeptCard

/-- THE TIED CARD OF 'dotterellaw.LexChecks'. -/
def lexChecksCard : Claim7 := { stood := { row := lexChecksRow, standIns := [], harness := (true, "5de506f9d726cdd1675fa4cefa3b95122dcd1479d7c2bfd028262da8fa357d22"), looks := false }, kinds := [], alts := [], laidByText := true, laidKinds := [.widerDeep], laidTests := true, laidLooks := .later }
def LexChecksCardSaid : Prop := Claim7.holds Tryd.pinned (.plain (OpenSpec.ofChange lexChecksSpec)) lexChecksCard

/-- THE TIED CARD OF 'dotterellaw.LexCuts'. -/
def lexCutsCard : Claim7 := { stood := { row := lexCutsRow, standIns := [], harness := (true, "5de506f9d726cdd1675fa4cefa3b95122dcd1479d7c2bfd028262da8fa357d22"), looks := false }, kinds := [], alts := [], laidByText := true, laidKinds := [.widerDeep], laidTests := true, laidLooks := .later }
def LexCutsCardSaid : Prop := Claim7.holds Tryd.pinned (.plain (OpenSpec.ofChange lexCutsSpec)) lexCutsCard

/-- THE TIED CARD OF 'dotterellaw.LexJoins'. -/
def lexJoinsCard : Claim7 := { stood := { row := lexJoinsRow, standIns := [], harness := (true, "5de506f9d726cdd1675fa4cefa3b95122dcd1479d7c2bfd028262da8fa357d22"), looks := false }, kinds := [], alts := [], laidByText := true, laidKinds := [.widerDeep], laidTests := true, laidLooks := .later }
def LexJoinsCardSaid : Prop := Claim7.holds Tryd.pinned (.plain (OpenSpec.ofChange lexJoinsSpec)) lexJoinsCard

/-- THE TIED CARD OF 'dotterellaw.ParseParses'. -/
def parseParsesCard : Claim7 := { stood := { row := parseParsesRow, standIns := [], harness := (true, "5de506f9d726cdd1675fa4cefa3b95122dcd1479d7c2bfd028262da8fa357d22"), looks := false }, kinds := [], alts := [], laidByText := true, laidKinds := [.widerDeep, .widerDeep, .widerDeep], laidTests := true, laidLooks := .later }
def ParseParsesCardSaid : Prop := Claim7.holds Tryd.pinned (.plain (OpenSpec.ofChange parseParsesSpec)) parseParsesCard

/-- THE SECOND FORM's CARD OF 'dotterellaw.ParseKept'. -/
def parseKeptUptoCard : Claim7 := { stood := { row := parseKeptUptoRow, standIns := [], harness := (true, "5de506f9d726cdd1675fa4cefa3b95122dcd1479d7c2bfd028262da8fa357d22"), looks := false }, kinds := [], alts := [], laidByText := true, laidKinds := [.widerDeep, .widerDeep], laidTests := true, laidLooks := .later }
def ParseKeptUptoCardSaid : Prop := Claim7.holds Tryd.pinned (.plain (OpenSpec.upto parseKeptSpec)) parseKeptUptoCard

/-- THE SECOND FORM's CARD OF 'dotterellaw.LexChecks'. -/
def lexChecksUptoCard : Claim7 := { stood := { row := lexChecksUptoRow, standIns := [], harness := (true, "5de506f9d726cdd1675fa4cefa3b95122dcd1479d7c2bfd028262da8fa357d22"), looks := false }, kinds := [], alts := [], laidByText := true, laidKinds := [.widerDeep], laidTests := true, laidLooks := .later }
def LexChecksUptoCardSaid : Prop := Claim7.holds Tryd.pinned (.plain (OpenSpec.upto lexChecksSpec)) lexChecksUptoCard

/-- THE SECOND FORM's CARD OF 'dotterellaw.LexCuts'. -/
def lexCutsUptoCard : Claim7 := { stood := { row := lexCutsUptoRow, standIns := [], harness := (true, "5de506f9d726cdd1675fa4cefa3b95122dcd1479d7c2bfd028262da8fa357d22"), looks := false }, kinds := [], alts := [], laidByText := true, laidKinds := [.widerDeep], laidTests := true, laidLooks := .later }
def LexCutsUptoCardSaid : Prop := Claim7.holds Tryd.pinned (.plain (OpenSpec.upto lexCutsSpec)) lexCutsUptoCard

/-- THE SECOND FORM's CARD OF 'dotterellaw.LexJoins'. -/
def lexJoinsUptoCard : Claim7 := { stood := { row := lexJoinsUptoRow, standIns := [], harness := (true, "5de506f9d726cdd1675fa4cefa3b95122dcd1479d7c2bfd028262da8fa357d22"), looks := false }, kinds := [], alts := [], laidByText := true, laidKinds := [.widerDeep], laidTests := true, laidLooks := .later }
def LexJoinsUptoCardSaid : Prop := Claim7.holds Tryd.pinned (.plain (OpenSpec.upto lexJoinsSpec)) lexJoinsUptoCard

/-- THE SECOND FORM's CARD OF 'dotterellaw.ParseParses'. -/
def parseParsesUptoCard : Claim7 := { stood := { row := parseParsesUptoRow, standIns := [], harness := (true, "5de506f9d726cdd1675fa4cefa3b95122dcd1479d7c2bfd028262da8fa357d22"), looks := false }, kinds := [], alts := [], laidByText := true, laidKinds := [.widerDeep, .widerDeep, .widerDeep], laidTests := true, laidLooks := .later }
def ParseParsesUptoCardSaid : Prop := Claim7.holds Tryd.pinned (.plain (OpenSpec.upto parseParsesSpec)) parseParsesUptoCard
end Rows
end Go.Proofs.YtenchgdlkbdpdaaDoor
