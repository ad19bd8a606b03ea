/-
  No cell of these rows narrows 'for every input' (looked for: loops, veiled, ifaces, maps, wideKeys, modest, calm, conditions, laid).
  DERIVED. THE GIVEN ROWS OF THIS SEAT. 12 by the template 'for every input the law returns true; each argument reads behind the call as it read before'; 0 by the template 'total and deterministic' (their statements: YtjbiimpglmppiaaTotals.lean).
  GIVEN WITH THE SEED: the statements are not yours to turn. If you find one false, say at which input.
  Laid BY PROGRAM, IN A SANDBOX (cutbox-rows.mjs): the forced cells as the released guide's own fill.sh prints them over the translation d12007812787b093… (all of the seat's roots in one cut). By AI agents, Wed Nov 11 2026. No macro, syntax, notation, axiom, sorry.
-/
import Derived.Test.YtjbiimpglmppiaaChecked
import GoSem.Claim
import GoSem.ClaimJoined
import GoSem.ClaimMapViews
import Derived.JoinedTies
import Derived.KernelRfl
namespace Go.Proofs.Ytjbiimpglmppiaa
/- THE CELL 'sum', in the pinned program and in every row, IS THE sha256 OF THE DUMP (.gsa) THAT YtjbiimpglmppiaaProg.lean LOADS. Nothing in Lean hashes anything: it is a label: what it is worth is what the hold of that sum in a sandbox is worth. -/
noncomputable def Try.pinned : Pinned := { name := "ytjbiimpglmppiaa", sum := "d12007812787b0935857d7ecd07e068a174eeb1829352b09710f8fd791c34099", checked := Try.checked }
namespace Rows
def none {H : Type} : Left H := { results := [], args := [] }

/-- 'dotterellaw.ValueNames': WHATEVER THE INPUT: true; the input reads as it did. -/
def valueNamesSpec : ChangeSpec := { name := "valueNames", fn := fun _ => fun
  | [d] => { results := [.lit (.bool true)], args := [d] }
  | _ => none }
def valueNamesRow : OpenClaim := { program := "ytjbiimpglmppiaa", sum := "d12007812787b0935857d7ecd07e068a174eeb1829352b09710f8fd791c34099", func := "dotterel/dotterellaw.ValueNames", spec := "valueNames", apart := false }
def ValueNamesSaid : Prop := valueNamesRow.holds Try.pinned (OpenSpec.ofChange valueNamesSpec)

/-- ITS FALSE NEIGHBOUR: 'it returns false'. Refute it at one input. -/
def valueNamesWrong : ChangeSpec := { name := "valueNames", fn := fun _ => fun
  | [d] => { results := [.lit (.bool false)], args := [d] }
  | _ => none }
def ValueNamesWrongFalsely : Prop := valueNamesRow.holds Try.pinned (OpenSpec.ofChange valueNamesWrong)

/-- 'dotterellaw.SessionBares': WHATEVER THE INPUT: true; the input reads as it did. -/
def sessionBaresSpec : ChangeSpec := { name := "sessionBares", fn := fun _ => fun
  | [d] => { results := [.lit (.bool true)], args := [d] }
  | _ => none }
def sessionBaresRow : OpenClaim := { program := "ytjbiimpglmppiaa", sum := "d12007812787b0935857d7ecd07e068a174eeb1829352b09710f8fd791c34099", func := "dotterel/dotterellaw.SessionBares", spec := "sessionBares", apart := false }
def SessionBaresSaid : Prop := sessionBaresRow.holds Try.pinned (OpenSpec.ofChange sessionBaresSpec)

/-- ITS FALSE NEIGHBOUR: 'it returns false'. Refute it at one input. -/
def sessionBaresWrong : ChangeSpec := { name := "sessionBares", fn := fun _ => fun
  | [d] => { results := [.lit (.bool false)], args := [d] }
  | _ => none }
def SessionBaresWrongFalsely : Prop := sessionBaresRow.holds Try.pinned (OpenSpec.ofChange sessionBaresWrong)

/-- 'dotterellaw.ValueChecks': WHATEVER THE INPUT: true; the input reads as it did. -/
def valueChecksSpec : ChangeSpec := { name := "valueChecks", fn := fun _ => fun
  | [d] => { results := [.lit (.bool true)], args := [d] }
  | _ => none }
def valueChecksRow : OpenClaim := { program := "ytjbiimpglmppiaa", sum := "d12007812787b0935857d7ecd07e068a174eeb1829352b09710f8fd791c34099", func := "dotterel/dotterellaw.ValueChecks", spec := "valueChecks", apart := false }
def ValueChecksSaid : Prop := valueChecksRow.holds Try.pinned (OpenSpec.ofChange valueChecksSpec)

/-- ITS FALSE NEIGHBOUR: 'it returns false'. Refute it at one input. -/
def valueChecksWrong : ChangeSpec := { name := "valueChecks", fn := fun _ => fun
  | [d] => { results := [.lit (.bool false)], args := [d] }
  | _ => none }
def ValueChecksWrongFalsely : Prop := valueChecksRow.holds Try.pinned (OpenSpec.ofChange valueChecksWrong)

/-- 'dotterellaw.ValueTypes': WHATEVER THE INPUT: true; the input reads as it did. -/
def valueTypesSpec : ChangeSpec := { name := "valueTypes", fn := fun _ => fun
  | [d] => { results := [.lit (.bool true)], args := [d] }
  | _ => none }
def valueTypesRow : OpenClaim := { program := "ytjbiimpglmppiaa", sum := "d12007812787b0935857d7ecd07e068a174eeb1829352b09710f8fd791c34099", func := "dotterel/dotterellaw.ValueTypes", spec := "valueTypes", apart := false }
def ValueTypesSaid : Prop := valueTypesRow.holds Try.pinned (OpenSpec.ofChange valueTypesSpec)

/-- ITS FALSE NEIGHBOUR: 'it returns false'. Refute it at one input. -/
def valueTypesWrong : ChangeSpec := { name := "valueTypes", fn := fun _ => fun
  | [d] => { results := [.lit (.bool false)], args := [d] }
  | _ => none }
def ValueTypesWrongFalsely : Prop := valueTypesRow.holds Try.pinned (OpenSpec.ofChange valueTypesWrong)

/-- 'dotterellaw.ValueFields': WHATEVER THE INPUT: true; the input reads as it did. -/
def valueFieldsSpec : ChangeSpec := { name := "valueFields", fn := fun _ => fun
  | [d1, d2] => { results := [.lit (.bool true)], args := [d1, d2] }
  | _ => none }
def valueFieldsRow : OpenClaim := { program := "ytjbiimpglmppiaa", sum := "d12007812787b0935857d7ecd07e068a174eeb1829352b09710f8fd791c34099", func := "dotterel/dotterellaw.ValueFields", spec := "valueFields", apart := false }
def ValueFieldsSaid : Prop := valueFieldsRow.holds Try.pinned (OpenSpec.ofChange valueFieldsSpec)

/-- ITS FALSE NEIGHBOUR: 'it returns false'. Refute it at one input. -/
def valueFieldsWrong : ChangeSpec := { name := "valueFields", fn := fun _ => fun
  | [d1, d2] => { results := [.lit (.bool false)], args := [d1, d2] }
  | _ => none }
def ValueFieldsWrongFalsely : Prop := valueFieldsRow.holds Try.pinned (OpenSpec.ofChange valueFieldsWrong)

/-- 'dotterellaw.ValueCompares': WHATEVER THE INPUT: true; the input reads as it did. -/
def valueComparesSpec : ChangeSpec := { name := "valueCompares", fn := fun _ => fun
  | [d1, d2] => { results := [.lit (.bool true)], args := [d1, d2] }
  | _ => none }
def valueComparesRow : OpenClaim := { program := "ytjbiimpglmppiaa", sum := "d12007812787b0935857d7ecd07e068a174eeb1829352b09710f8fd791c34099", func := "dotterel/dotterellaw.ValueCompares", spec := "valueCompares", inPlace := ["internal/bytealg.abigen_runtime_cmpstring"], apart := false }
def ValueComparesSaid : Prop := valueComparesRow.holds Try.pinned (OpenSpec.ofChange valueComparesSpec)

/-- ITS FALSE NEIGHBOUR: 'it returns false'. Refute it at one input. -/
def valueComparesWrong : ChangeSpec := { name := "valueCompares", fn := fun _ => fun
  | [d1, d2] => { results := [.lit (.bool false)], args := [d1, d2] }
  | _ => none }
def ValueComparesWrongFalsely : Prop := valueComparesRow.holds Try.pinned (OpenSpec.ofChange valueComparesWrong)

/-- 'dotterellaw.ValueFits': WHATEVER THE INPUT: true; the input reads as it did. -/
def valueFitsSpec : ChangeSpec := { name := "valueFits", fn := fun _ => fun
  | [d1, d2] => { results := [.lit (.bool true)], args := [d1, d2] }
  | _ => none }
def valueFitsRow : OpenClaim := { program := "ytjbiimpglmppiaa", sum := "d12007812787b0935857d7ecd07e068a174eeb1829352b09710f8fd791c34099", func := "dotterel/dotterellaw.ValueFits", spec := "valueFits", apart := false }
def ValueFitsSaid : Prop := valueFitsRow.holds Try.pinned (OpenSpec.ofChange valueFitsSpec)

/-- ITS FALSE NEIGHBOUR: 'it returns false'. Refute it at one input. -/
def valueFitsWrong : ChangeSpec := { name := "valueFits", fn := fun _ => fun
  | [d1, d2] => { results := [.lit (.bool false)], args := [d1, d2] }
  | _ => none }
def ValueFitsWrongFalsely : Prop := valueFitsRow.holds Try.pinned (OpenSpec.ofChange valueFitsWrong)

/-- 'dotterellaw.WireChecks': WHATEVER THE INPUT: true; the input reads as it did. -/
def wireChecksSpec : ChangeSpec := { name := "wireChecks", fn := fun _ => fun
  | [d] => { results := [.lit (.bool true)], args := [d] }
  | _ => none }
def wireChecksRow : OpenClaim := { program := "ytjbiimpglmppiaa", sum := "d12007812787b0935857d7ecd07e068a174eeb1829352b09710f8fd791c34099", func := "dotterel/dotterellaw.WireChecks", spec := "wireChecks", apart := false }
def WireChecksSaid : Prop := wireChecksRow.holds Try.pinned (OpenSpec.ofChange wireChecksSpec)

/-- ITS FALSE NEIGHBOUR: 'it returns false'. Refute it at one input. -/
def wireChecksWrong : ChangeSpec := { name := "wireChecks", fn := fun _ => fun
  | [d] => { results := [.lit (.bool false)], args := [d] }
  | _ => none }
def WireChecksWrongFalsely : Prop := wireChecksRow.holds Try.pinned (OpenSpec.ofChange wireChecksWrong)

/-- 'dotterellaw.ValueEvents': WHATEVER THE INPUT: true; the input reads as it did. -/
def valueEventsSpec : ChangeSpec := { name := "valueEvents", fn := fun _ => fun
  | [d1, d2] => { results := [.lit (.bool true)], args := [d1, d2] }
  | _ => none }
def valueEventsRow : OpenClaim := { program := "ytjbiimpglmppiaa", sum := "d12007812787b0935857d7ecd07e068a174eeb1829352b09710f8fd791c34099", func := "dotterel/dotterellaw.ValueEvents", spec := "valueEvents", apart := false }
def ValueEventsSaid : Prop := valueEventsRow.holds Try.pinned (OpenSpec.ofChange valueEventsSpec)

/-- ITS FALSE NEIGHBOUR: 'it returns false'. Refute it at one input. -/
def valueEventsWrong : ChangeSpec := { name := "valueEvents", fn := fun _ => fun
  | [d1, d2] => { results := [.lit (.bool false)], args := [d1, d2] }
  | _ => none }
def ValueEventsWrongFalsely : Prop := valueEventsRow.holds Try.pinned (OpenSpec.ofChange valueEventsWrong)

/-- 'dotterellaw.TapeChecks': WHATEVER THE INPUT: true; the input reads as it did. -/
def tapeChecksSpec : ChangeSpec := { name := "tapeChecks", fn := fun _ => fun
  | [d] => { results := [.lit (.bool true)], args := [d] }
  | _ => none }
def tapeChecksRow : OpenClaim := { program := "ytjbiimpglmppiaa", sum := "d12007812787b0935857d7ecd07e068a174eeb1829352b09710f8fd791c34099", func := "dotterel/dotterellaw.TapeChecks", spec := "tapeChecks", apart := false }
def TapeChecksSaid : Prop := tapeChecksRow.holds Try.pinned (OpenSpec.ofChange tapeChecksSpec)

/-- ITS FALSE NEIGHBOUR: 'it returns false'. Refute it at one input. -/
def tapeChecksWrong : ChangeSpec := { name := "tapeChecks", fn := fun _ => fun
  | [d] => { results := [.lit (.bool false)], args := [d] }
  | _ => none }
def TapeChecksWrongFalsely : Prop := tapeChecksRow.holds Try.pinned (OpenSpec.ofChange tapeChecksWrong)

/-- 'dotterellaw.LinesChecks': WHATEVER THE INPUT: true; the input reads as it did. -/
def linesChecksSpec : ChangeSpec := { name := "linesChecks", fn := fun _ => fun
  | [d] => { results := [.lit (.bool true)], args := [d] }
  | _ => none }
def linesChecksRow : OpenClaim := { program := "ytjbiimpglmppiaa", sum := "d12007812787b0935857d7ecd07e068a174eeb1829352b09710f8fd791c34099", func := "dotterel/dotterellaw.LinesChecks", spec := "linesChecks", apart := false }
def LinesChecksSaid : Prop := linesChecksRow.holds Try.pinned (OpenSpec.ofChange linesChecksSpec)

/-- ITS FALSE NEIGHBOUR: 'it returns false'. Refute it at one input. -/
def linesChecksWrong : ChangeSpec := { name := "linesChecks", fn := fun _ => fun
  | [d] => { results := [.lit (.bool false)], args := [d] }
  | _ => none }
def LinesChecksWrongFalsely : Prop := linesChecksRow.holds Try.pinned (OpenSpec.ofChange linesChecksWrong)

/-- 'dotterellaw.WireEncodes': WHATEVER THE INPUT: true; the input reads as it did. -/
def wireEncodesSpec : ChangeSpec := { name := "wireEncodes", fn := fun _ => fun
  | [d] => { results := [.lit (.bool true)], args := [d] }
  | _ => none }
def wireEncodesRow : OpenClaim := { program := "ytjbiimpglmppiaa", sum := "d12007812787b0935857d7ecd07e068a174eeb1829352b09710f8fd791c34099", func := "dotterel/dotterellaw.WireEncodes", spec := "wireEncodes", recurses := true, apart := false }
def WireEncodesSaid : Prop := wireEncodesRow.holds Try.pinned (OpenSpec.ofChange wireEncodesSpec)

/-- ITS FALSE NEIGHBOUR: 'it returns false'. Refute it at one input. -/
def wireEncodesWrong : ChangeSpec := { name := "wireEncodes", fn := fun _ => fun
  | [d] => { results := [.lit (.bool false)], args := [d] }
  | _ => none }
def WireEncodesWrongFalsely : Prop := wireEncodesRow.holds Try.pinned (OpenSpec.ofChange wireEncodesWrong)

/- THE SECOND FORM. 'bulk': how many values and letters a reading holds, each counted each time it is reached (what is shared counts as often as it is met; a slice's spare places count too). A statement '..UptoSaid' is the law's where the arguments, and the package variables that the reading takes, are together of bulk at most 1048576: NARROWER than '..Said'. Prove '..Said' where nothing that the law and all that it calls make is longer than what came in: it says more and counts as full. Else prove '..UptoSaid'. A law counts once. -/
mutual
def uptoBulk {H : Type} : DataW H → Nat
  | .lit (.string bytes) => bytes.length + 1
  | .lit _ => 1
  | .nil => 1
  | .ptr d => uptoBulk d + 1
  | .slice elems spare => uptoBulkAll elems + uptoBulkAll spare + 1
  | .agg parts => uptoBulkAll parts + 1
  | .iface _ d => uptoBulk d + 1
  | .map entries => uptoBulkEntries entries + 1
  | .held _ => 1
def uptoBulkAll {H : Type} : List (DataW H) → Nat
  | [] => 0
  | d :: r => uptoBulk d + uptoBulkAll r
def uptoBulkEntries {H : Type} : List (Lit × DataW H) → Nat
  | [] => 0
  | x :: r => uptoBulkEntry x + uptoBulkEntries r
def uptoBulkEntry {H : Type} : Lit × DataW H → Nat
  | (.string bytes, d) => bytes.length + uptoBulk d + 1
  | (_, d) => uptoBulk d + 1
 end
def uptoSmall : (H : Type) → List (DataW H) → Bool := fun _ ds => decide (uptoBulkAll ds ≤ 1048576)
def OpenSpec.upto (s : _root_.Go.ChangeSpec) : _root_.Go.OpenSpec := { _root_.Go.OpenSpec.ofChange s with cond := some uptoSmall }

/-- 'dotterellaw.ValueNames', WHERE WHAT IT READS IS OF BULK AT MOST 1048576: true; the input reads as it did. -/
def valueNamesUptoRow : OpenClaim := { program := "ytjbiimpglmppiaa", sum := "d12007812787b0935857d7ecd07e068a174eeb1829352b09710f8fd791c34099", func := "dotterel/dotterellaw.ValueNames", spec := "valueNames", apart := false, narrowed := true }
def ValueNamesUptoSaid : Prop := valueNamesUptoRow.holds Try.pinned (OpenSpec.upto valueNamesSpec)

/-- 'dotterellaw.SessionBares', WHERE WHAT IT READS IS OF BULK AT MOST 1048576: true; the input reads as it did. -/
def sessionBaresUptoRow : OpenClaim := { program := "ytjbiimpglmppiaa", sum := "d12007812787b0935857d7ecd07e068a174eeb1829352b09710f8fd791c34099", func := "dotterel/dotterellaw.SessionBares", spec := "sessionBares", apart := false, narrowed := true }
def SessionBaresUptoSaid : Prop := sessionBaresUptoRow.holds Try.pinned (OpenSpec.upto sessionBaresSpec)

/-- 'dotterellaw.ValueChecks', WHERE WHAT IT READS IS OF BULK AT MOST 1048576: true; the input reads as it did. -/
def valueChecksUptoRow : OpenClaim := { program := "ytjbiimpglmppiaa", sum := "d12007812787b0935857d7ecd07e068a174eeb1829352b09710f8fd791c34099", func := "dotterel/dotterellaw.ValueChecks", spec := "valueChecks", apart := false, narrowed := true }
def ValueChecksUptoSaid : Prop := valueChecksUptoRow.holds Try.pinned (OpenSpec.upto valueChecksSpec)

/-- 'dotterellaw.ValueTypes', WHERE WHAT IT READS IS OF BULK AT MOST 1048576: true; the input reads as it did. -/
def valueTypesUptoRow : OpenClaim := { program := "ytjbiimpglmppiaa", sum := "d12007812787b0935857d7ecd07e068a174eeb1829352b09710f8fd791c34099", func := "dotterel/dotterellaw.ValueTypes", spec := "valueTypes", apart := false, narrowed := true }
def ValueTypesUptoSaid : Prop := valueTypesUptoRow.holds Try.pinned (OpenSpec.upto valueTypesSpec)

/-- 'dotterellaw.ValueFields', WHERE WHAT IT READS IS OF BULK AT MOST 1048576: true; the input reads as it did. -/
def valueFieldsUptoRow : OpenClaim := { program := "ytjbiimpglmppiaa", sum := "d12007812787b0935857d7ecd07e068a174eeb1829352b09710f8fd791c34099", func := "dotterel/dotterellaw.ValueFields", spec := "valueFields", apart := false, narrowed := true }
def ValueFieldsUptoSaid : Prop := valueFieldsUptoRow.holds Try.pinned (OpenSpec.upto valueFieldsSpec)

/-- 'dotterellaw.ValueCompares', WHERE WHAT IT READS IS OF BULK AT MOST 1048576: true; the input reads as it did. -/
def valueComparesUptoRow : OpenClaim := { program := "ytjbiimpglmppiaa", sum := "d12007812787b0935857d7ecd07e068a174eeb1829352b09710f8fd791c34099", func := "dotterel/dotterellaw.ValueCompares", spec := "valueCompares", inPlace := ["internal/bytealg.abigen_runtime_cmpstring"], apart := false, narrowed := true }
def ValueComparesUptoSaid : Prop := valueComparesUptoRow.holds Try.pinned (OpenSpec.upto valueComparesSpec)

/-- 'dotterellaw.ValueFits', WHERE WHAT IT READS IS OF BULK AT MOST 1048576: true; the input reads as it did. -/
def valueFitsUptoRow : OpenClaim := { program := "ytjbiimpglmppiaa", sum := "d12007812787b0935857d7ecd07e068a174eeb1829352b09710f8fd791c34099", func := "dotterel/dotterellaw.ValueFits", spec := "valueFits", apart := false, narrowed := true }
def ValueFitsUptoSaid : Prop := valueFitsUptoRow.holds Try.pinned (OpenSpec.upto valueFitsSpec)

/-- 'dotterellaw.WireChecks', WHERE WHAT IT READS IS OF BULK AT MOST 1048576: true; the input reads as it did. -/
def wireChecksUptoRow : OpenClaim := { program := "ytjbiimpglmppiaa", sum := "d12007812787b0935857d7ecd07e068a174eeb1829352b09710f8fd791c34099", func := "dotterel/dotterellaw.WireChecks", spec := "wireChecks", apart := false, narrowed := true }
def WireChecksUptoSaid : Prop := wireChecksUptoRow.holds Try.pinned (OpenSpec.upto wireChecksSpec)

/-- 'dotterellaw.ValueEvents', WHERE WHAT IT READS IS OF BULK AT MOST 1048576: true; the input reads as it did. -/
def valueEventsUptoRow : OpenClaim := { program := "ytjbiimpglmppiaa", sum := "d12007812787b0935857d7ecd07e068a174eeb1829352b09710f8fd791c34099", func := "dotterel/dotterellaw.ValueEvents", spec := "valueEvents", apart := false, narrowed := true }
def ValueEventsUptoSaid : Prop := valueEventsUptoRow.holds Try.pinned (OpenSpec.upto valueEventsSpec)

/-- 'dotterellaw.TapeChecks', WHERE WHAT IT READS IS OF BULK AT MOST 1048576: true; the input reads as it did. -/
def tapeChecksUptoRow : OpenClaim := { program := "ytjbiimpglmppiaa", sum := "d12007812787b0935857d7ecd07e068a174eeb1829352b09710f8fd791c34099", func := "dotterel/dotterellaw.TapeChecks", spec := "tapeChecks", apart := false, narrowed := true }
def TapeChecksUptoSaid : Prop := tapeChecksUptoRow.holds Try.pinned (OpenSpec.upto tapeChecksSpec)

/-- 'dotterellaw.LinesChecks', WHERE WHAT IT READS IS OF BULK AT MOST 1048576: true; the input reads as it did. -/
def linesChecksUptoRow : OpenClaim := { program := "ytjbiimpglmppiaa", sum := "d12007812787b0935857d7ecd07e068a174eeb1829352b09710f8fd791c34099", func := "dotterel/dotterellaw.LinesChecks", spec := "linesChecks", apart := false, narrowed := true }
def LinesChecksUptoSaid : Prop := linesChecksUptoRow.holds Try.pinned (OpenSpec.upto linesChecksSpec)

/-- 'dotterellaw.WireEncodes', WHERE WHAT IT READS IS OF BULK AT MOST 1048576: true; the input reads as it did. -/
def wireEncodesUptoRow : OpenClaim := { program := "ytjbiimpglmppiaa", sum := "d12007812787b0935857d7ecd07e068a174eeb1829352b09710f8fd791c34099", func := "dotterel/dotterellaw.WireEncodes", spec := "wireEncodes", recurses := true, apart := false, narrowed := true }
def WireEncodesUptoSaid : Prop := wireEncodesUptoRow.holds Try.pinned (OpenSpec.upto wireEncodesSpec)

end Rows
end Go.Proofs.Ytjbiimpglmppiaa
