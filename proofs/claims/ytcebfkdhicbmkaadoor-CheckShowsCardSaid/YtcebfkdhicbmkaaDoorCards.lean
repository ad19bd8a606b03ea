/-
  DERIVED. GIVEN WITH THE SEED: THE CARDS: each row of YtcebfkdhicbmkaaDoorRows.lean that lists a variable, with what it lists TIED to the program's text (the seventh form; the later family's looks); each row that meets fmt, with fmt's text TOLD by the authors' own Lean function (tested against real Go, not proved from fmt's source: count such statements apart). THE CARD IS WHAT COUNTS. Prove the row's statement (the work); the ties are given (YtcebfkdhicbmkaaDoorTie.lean); close each card by the builder's one call (the guide's Derived/Test/ToyasCard.lean, 'card_holds'). Laid BY PROGRAM, IN A SANDBOX (cutbox-door.mjs). By AI agents, Wed Nov 11 2026. No macro, syntax, notation, axiom, sorry.
-/
import Derived.Test.YtcebfkdhicbmkaaDoorRows
import GoSem.ClaimSeven
namespace Go.Proofs.YtcebfkdhicbmkaaDoor
namespace Rows

/-- THE TIED CARD OF 'dotterellaw.CheckShows'. -/
def checkShowsCard : Claim7 := { stood := { row := checkShowsRow, standIns := [], harness := (true, "b51fc2dfa379c5baaf7a20796b1bf6e1ea4b6f627f5665a360585bf98fb3478b"), looks := false }, kinds := [], alts := [], laidByText := true, laidKinds := [.widerDeep, .widerDeep, .data], laidTests := true, laidLooks := .later }
def CheckShowsCardSaid : Prop := Claim7.holds Tryd.pinned (.plain (OpenSpec.ofChange checkShowsSpec)) checkShowsCard

/-- THE SECOND FORM's CARD OF 'dotterellaw.CheckShows'. -/
def checkShowsUptoCard : Claim7 := { stood := { row := checkShowsUptoRow, standIns := [], harness := (true, "b51fc2dfa379c5baaf7a20796b1bf6e1ea4b6f627f5665a360585bf98fb3478b"), looks := false }, kinds := [], alts := [], laidByText := true, laidKinds := [.widerDeep, .widerDeep, .data], laidTests := true, laidLooks := .later }
def CheckShowsUptoCardSaid : Prop := Claim7.holds Tryd.pinned (.plain (OpenSpec.upto checkShowsSpec)) checkShowsUptoCard
end Rows
end Go.Proofs.YtcebfkdhicbmkaaDoor
