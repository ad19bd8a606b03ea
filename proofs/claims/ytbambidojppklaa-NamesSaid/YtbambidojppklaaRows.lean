/-
  No cell of these rows narrows 'for every input' (looked for: loops, veiled, ifaces, maps, wideKeys, modest, calm, conditions, laid).
  DERIVED. THE GIVEN ROWS OF THIS SEAT. 9 by the template 'for every input the law returns true; each argument reads behind the call as it read before'; 0 by the template 'total and deterministic' (their statements: YtbambidojppklaaTotals.lean).
  GIVEN WITH THE SEED: the statements are not yours to turn. If you find one false, say at which input.
  Laid BY PROGRAM, IN A SANDBOX (cutbox-rows.mjs): the forced cells as the released guide's own fill.sh prints them over the translation 87f9fdd5e33c169a… (all of the seat's roots in one cut). By AI agents, Wed Nov 11 2026. No macro, syntax, notation, axiom, sorry.
-/
import Derived.Test.YtbambidojppklaaChecked
import GoSem.Claim
import GoSem.ClaimJoined
import GoSem.ClaimMapViews
import Derived.JoinedTies
import Derived.KernelRfl
namespace Go.Proofs.Ytbambidojppklaa
/- THE CELL 'sum', in the pinned program and in every row, IS THE sha256 OF THE DUMP (.gsa) THAT YtbambidojppklaaProg.lean LOADS. Nothing in Lean hashes anything: it is a label: what it is worth is what the hold of that sum in a sandbox is worth. -/
noncomputable def Try.pinned : Pinned := { name := "ytbambidojppklaa", sum := "87f9fdd5e33c169a509ace21a23ed263ca47c5e9ec917c0585848143f7f85a16", checked := Try.checked }
namespace Rows
def none {H : Type} : Left H := { results := [], args := [] }

/-- 'dotterellaw.Names': WHATEVER THE INPUT: true; the input reads as it did. -/
def namesSpec : ChangeSpec := { name := "names", fn := fun _ => fun
  | [] => { results := [.lit (.bool true)], args := [] }
  | _ => none }
def namesRow : OpenClaim := { program := "ytbambidojppklaa", sum := "87f9fdd5e33c169a509ace21a23ed263ca47c5e9ec917c0585848143f7f85a16", func := "dotterel/dotterellaw.Names", spec := "names", apart := false }
def NamesSaid : Prop := namesRow.holds Try.pinned (OpenSpec.ofChange namesSpec)

/-- ITS FALSE NEIGHBOUR: 'it returns false'. Refute it at one input. -/
def namesWrong : ChangeSpec := { name := "names", fn := fun _ => fun
  | [] => { results := [.lit (.bool false)], args := [] }
  | _ => none }
def NamesWrongFalsely : Prop := namesRow.holds Try.pinned (OpenSpec.ofChange namesWrong)

/-- 'dotterellaw.TickAdds': WHATEVER THE INPUT: true; the input reads as it did. -/
def tickAddsSpec : ChangeSpec := { name := "tickAdds", fn := fun _ => fun
  | [d1, d2] => { results := [.lit (.bool true)], args := [d1, d2] }
  | _ => none }
def tickAddsRow : OpenClaim := { program := "ytbambidojppklaa", sum := "87f9fdd5e33c169a509ace21a23ed263ca47c5e9ec917c0585848143f7f85a16", func := "dotterel/dotterellaw.TickAdds", spec := "tickAdds", apart := false }
def TickAddsSaid : Prop := tickAddsRow.holds Try.pinned (OpenSpec.ofChange tickAddsSpec)

/-- ITS FALSE NEIGHBOUR: 'it returns false'. Refute it at one input. -/
def tickAddsWrong : ChangeSpec := { name := "tickAdds", fn := fun _ => fun
  | [d1, d2] => { results := [.lit (.bool false)], args := [d1, d2] }
  | _ => none }
def TickAddsWrongFalsely : Prop := tickAddsRow.holds Try.pinned (OpenSpec.ofChange tickAddsWrong)

/-- 'dotterellaw.TickSpans': WHATEVER THE INPUT: true; the input reads as it did. -/
def tickSpansSpec : ChangeSpec := { name := "tickSpans", fn := fun _ => fun
  | [d] => { results := [.lit (.bool true)], args := [d] }
  | _ => none }
def tickSpansRow : OpenClaim := { program := "ytbambidojppklaa", sum := "87f9fdd5e33c169a509ace21a23ed263ca47c5e9ec917c0585848143f7f85a16", func := "dotterel/dotterellaw.TickSpans", spec := "tickSpans", apart := false }
def TickSpansSaid : Prop := tickSpansRow.holds Try.pinned (OpenSpec.ofChange tickSpansSpec)

/-- ITS FALSE NEIGHBOUR: 'it returns false'. Refute it at one input. -/
def tickSpansWrong : ChangeSpec := { name := "tickSpans", fn := fun _ => fun
  | [d] => { results := [.lit (.bool false)], args := [d] }
  | _ => none }
def TickSpansWrongFalsely : Prop := tickSpansRow.holds Try.pinned (OpenSpec.ofChange tickSpansWrong)

/-- 'dotterellaw.TickInverts': WHATEVER THE INPUT: true; the input reads as it did. -/
def tickInvertsSpec : ChangeSpec := { name := "tickInverts", fn := fun _ => fun
  | [d] => { results := [.lit (.bool true)], args := [d] }
  | _ => none }
def tickInvertsRow : OpenClaim := { program := "ytbambidojppklaa", sum := "87f9fdd5e33c169a509ace21a23ed263ca47c5e9ec917c0585848143f7f85a16", func := "dotterel/dotterellaw.TickInverts", spec := "tickInverts", apart := false }
def TickInvertsSaid : Prop := tickInvertsRow.holds Try.pinned (OpenSpec.ofChange tickInvertsSpec)

/-- ITS FALSE NEIGHBOUR: 'it returns false'. Refute it at one input. -/
def tickInvertsWrong : ChangeSpec := { name := "tickInverts", fn := fun _ => fun
  | [d] => { results := [.lit (.bool false)], args := [d] }
  | _ => none }
def TickInvertsWrongFalsely : Prop := tickInvertsRow.holds Try.pinned (OpenSpec.ofChange tickInvertsWrong)

/-- 'dotterellaw.TickOptions': WHATEVER THE INPUT: true; the input reads as it did. -/
def tickOptionsSpec : ChangeSpec := { name := "tickOptions", fn := fun _ => fun
  | [d] => { results := [.lit (.bool true)], args := [d] }
  | _ => none }
def tickOptionsRow : OpenClaim := { program := "ytbambidojppklaa", sum := "87f9fdd5e33c169a509ace21a23ed263ca47c5e9ec917c0585848143f7f85a16", func := "dotterel/dotterellaw.TickOptions", spec := "tickOptions", apart := false }
def TickOptionsSaid : Prop := tickOptionsRow.holds Try.pinned (OpenSpec.ofChange tickOptionsSpec)

/-- ITS FALSE NEIGHBOUR: 'it returns false'. Refute it at one input. -/
def tickOptionsWrong : ChangeSpec := { name := "tickOptions", fn := fun _ => fun
  | [d] => { results := [.lit (.bool false)], args := [d] }
  | _ => none }
def TickOptionsWrongFalsely : Prop := tickOptionsRow.holds Try.pinned (OpenSpec.ofChange tickOptionsWrong)

/-- 'dotterellaw.TickHolds': WHATEVER THE INPUT: true; the input reads as it did. -/
def tickHoldsSpec : ChangeSpec := { name := "tickHolds", fn := fun _ => fun
  | [d1, d2, d3] => { results := [.lit (.bool true)], args := [d1, d2, d3] }
  | _ => none }
def tickHoldsRow : OpenClaim := { program := "ytbambidojppklaa", sum := "87f9fdd5e33c169a509ace21a23ed263ca47c5e9ec917c0585848143f7f85a16", func := "dotterel/dotterellaw.TickHolds", spec := "tickHolds", recurses := true, apart := false }
def TickHoldsSaid : Prop := tickHoldsRow.holds Try.pinned (OpenSpec.ofChange tickHoldsSpec)

/-- ITS FALSE NEIGHBOUR: 'it returns false'. Refute it at one input. -/
def tickHoldsWrong : ChangeSpec := { name := "tickHolds", fn := fun _ => fun
  | [d1, d2, d3] => { results := [.lit (.bool false)], args := [d1, d2, d3] }
  | _ => none }
def TickHoldsWrongFalsely : Prop := tickHoldsRow.holds Try.pinned (OpenSpec.ofChange tickHoldsWrong)

/-- 'dotterellaw.TickWhich': WHATEVER THE INPUT: true; the input reads as it did. -/
def tickWhichSpec : ChangeSpec := { name := "tickWhich", fn := fun _ => fun
  | [d1, d2] => { results := [.lit (.bool true)], args := [d1, d2] }
  | _ => none }
def tickWhichRow : OpenClaim := { program := "ytbambidojppklaa", sum := "87f9fdd5e33c169a509ace21a23ed263ca47c5e9ec917c0585848143f7f85a16", func := "dotterel/dotterellaw.TickWhich", spec := "tickWhich", recurses := true, apart := false }
def TickWhichSaid : Prop := tickWhichRow.holds Try.pinned (OpenSpec.ofChange tickWhichSpec)

/-- ITS FALSE NEIGHBOUR: 'it returns false'. Refute it at one input. -/
def tickWhichWrong : ChangeSpec := { name := "tickWhich", fn := fun _ => fun
  | [d1, d2] => { results := [.lit (.bool false)], args := [d1, d2] }
  | _ => none }
def TickWhichWrongFalsely : Prop := tickWhichRow.holds Try.pinned (OpenSpec.ofChange tickWhichWrong)

/-- 'dotterellaw.TickDistances': WHATEVER THE INPUT: true; the input reads as it did. -/
def tickDistancesSpec : ChangeSpec := { name := "tickDistances", fn := fun _ => fun
  | [d1, d2, d3] => { results := [.lit (.bool true)], args := [d1, d2, d3] }
  | _ => none }
def tickDistancesRow : OpenClaim := { program := "ytbambidojppklaa", sum := "87f9fdd5e33c169a509ace21a23ed263ca47c5e9ec917c0585848143f7f85a16", func := "dotterel/dotterellaw.TickDistances", spec := "tickDistances", recurses := true, apart := false }
def TickDistancesSaid : Prop := tickDistancesRow.holds Try.pinned (OpenSpec.ofChange tickDistancesSpec)

/-- ITS FALSE NEIGHBOUR: 'it returns false'. Refute it at one input. -/
def tickDistancesWrong : ChangeSpec := { name := "tickDistances", fn := fun _ => fun
  | [d1, d2, d3] => { results := [.lit (.bool false)], args := [d1, d2, d3] }
  | _ => none }
def TickDistancesWrongFalsely : Prop := tickDistancesRow.holds Try.pinned (OpenSpec.ofChange tickDistancesWrong)

/-- 'dotterellaw.TickFits': WHATEVER THE INPUT: true; the input reads as it did. -/
def tickFitsSpec : ChangeSpec := { name := "tickFits", fn := fun _ => fun
  | [d1, d2, d3] => { results := [.lit (.bool true)], args := [d1, d2, d3] }
  | _ => none }
def tickFitsRow : OpenClaim := { program := "ytbambidojppklaa", sum := "87f9fdd5e33c169a509ace21a23ed263ca47c5e9ec917c0585848143f7f85a16", func := "dotterel/dotterellaw.TickFits", spec := "tickFits", recurses := true, apart := false }
def TickFitsSaid : Prop := tickFitsRow.holds Try.pinned (OpenSpec.ofChange tickFitsSpec)

/-- ITS FALSE NEIGHBOUR: 'it returns false'. Refute it at one input. -/
def tickFitsWrong : ChangeSpec := { name := "tickFits", fn := fun _ => fun
  | [d1, d2, d3] => { results := [.lit (.bool false)], args := [d1, d2, d3] }
  | _ => none }
def TickFitsWrongFalsely : Prop := tickFitsRow.holds Try.pinned (OpenSpec.ofChange tickFitsWrong)

/- THE SECOND FORM. 'bulk': how many values and letters a reading holds, each counted each time it is reached (what is shared counts as often as it is met; a slice's spare places count too). A statement '..UptoSaid' is the law's where the arguments, and the package variables that the reading takes, are together of bulk at most 1048576: NARROWER than '..Said'. Prove '..Said' where nothing that the law and all that it calls make is longer than what came in: it says more and counts as full. Else prove '..UptoSaid'. A law counts once. -/
mutual
def uptoBulk {H : Type} : DataW H → Nat
  | .lit (.string bytes) => bytes.length + 1
  | .lit _ => 1
  | .nil => 1
  | .ptr d => uptoBulk d + 1
  | .slice elems spare => uptoBulkAll elems + uptoBulkAll spare + 1
  | .agg parts => uptoBulkAll parts + 1
  | .iface _ d => uptoBulk d + 1
  | .map entries => uptoBulkEntries entries + 1
  | .held _ => 1
def uptoBulkAll {H : Type} : List (DataW H) → Nat
  | [] => 0
  | d :: r => uptoBulk d + uptoBulkAll r
def uptoBulkEntries {H : Type} : List (Lit × DataW H) → Nat
  | [] => 0
  | x :: r => uptoBulkEntry x + uptoBulkEntries r
def uptoBulkEntry {H : Type} : Lit × DataW H → Nat
  | (.string bytes, d) => bytes.length + uptoBulk d + 1
  | (_, d) => uptoBulk d + 1
 end
def uptoSmall : (H : Type) → List (DataW H) → Bool := fun _ ds => decide (uptoBulkAll ds ≤ 1048576)
def OpenSpec.upto (s : _root_.Go.ChangeSpec) : _root_.Go.OpenSpec := { _root_.Go.OpenSpec.ofChange s with cond := some uptoSmall }

/-- 'dotterellaw.Names', WHERE WHAT IT READS IS OF BULK AT MOST 1048576: true; the input reads as it did. -/
def namesUptoRow : OpenClaim := { program := "ytbambidojppklaa", sum := "87f9fdd5e33c169a509ace21a23ed263ca47c5e9ec917c0585848143f7f85a16", func := "dotterel/dotterellaw.Names", spec := "names", apart := false, narrowed := true }
def NamesUptoSaid : Prop := namesUptoRow.holds Try.pinned (OpenSpec.upto namesSpec)

/-- 'dotterellaw.TickAdds', WHERE WHAT IT READS IS OF BULK AT MOST 1048576: true; the input reads as it did. -/
def tickAddsUptoRow : OpenClaim := { program := "ytbambidojppklaa", sum := "87f9fdd5e33c169a509ace21a23ed263ca47c5e9ec917c0585848143f7f85a16", func := "dotterel/dotterellaw.TickAdds", spec := "tickAdds", apart := false, narrowed := true }
def TickAddsUptoSaid : Prop := tickAddsUptoRow.holds Try.pinned (OpenSpec.upto tickAddsSpec)

/-- 'dotterellaw.TickSpans', WHERE WHAT IT READS IS OF BULK AT MOST 1048576: true; the input reads as it did. -/
def tickSpansUptoRow : OpenClaim := { program := "ytbambidojppklaa", sum := "87f9fdd5e33c169a509ace21a23ed263ca47c5e9ec917c0585848143f7f85a16", func := "dotterel/dotterellaw.TickSpans", spec := "tickSpans", apart := false, narrowed := true }
def TickSpansUptoSaid : Prop := tickSpansUptoRow.holds Try.pinned (OpenSpec.upto tickSpansSpec)

/-- 'dotterellaw.TickInverts', WHERE WHAT IT READS IS OF BULK AT MOST 1048576: true; the input reads as it did. -/
def tickInvertsUptoRow : OpenClaim := { program := "ytbambidojppklaa", sum := "87f9fdd5e33c169a509ace21a23ed263ca47c5e9ec917c0585848143f7f85a16", func := "dotterel/dotterellaw.TickInverts", spec := "tickInverts", apart := false, narrowed := true }
def TickInvertsUptoSaid : Prop := tickInvertsUptoRow.holds Try.pinned (OpenSpec.upto tickInvertsSpec)

/-- 'dotterellaw.TickOptions', WHERE WHAT IT READS IS OF BULK AT MOST 1048576: true; the input reads as it did. -/
def tickOptionsUptoRow : OpenClaim := { program := "ytbambidojppklaa", sum := "87f9fdd5e33c169a509ace21a23ed263ca47c5e9ec917c0585848143f7f85a16", func := "dotterel/dotterellaw.TickOptions", spec := "tickOptions", apart := false, narrowed := true }
def TickOptionsUptoSaid : Prop := tickOptionsUptoRow.holds Try.pinned (OpenSpec.upto tickOptionsSpec)

/-- 'dotterellaw.TickHolds', WHERE WHAT IT READS IS OF BULK AT MOST 1048576: true; the input reads as it did. -/
def tickHoldsUptoRow : OpenClaim := { program := "ytbambidojppklaa", sum := "87f9fdd5e33c169a509ace21a23ed263ca47c5e9ec917c0585848143f7f85a16", func := "dotterel/dotterellaw.TickHolds", spec := "tickHolds", recurses := true, apart := false, narrowed := true }
def TickHoldsUptoSaid : Prop := tickHoldsUptoRow.holds Try.pinned (OpenSpec.upto tickHoldsSpec)

/-- 'dotterellaw.TickWhich', WHERE WHAT IT READS IS OF BULK AT MOST 1048576: true; the input reads as it did. -/
def tickWhichUptoRow : OpenClaim := { program := "ytbambidojppklaa", sum := "87f9fdd5e33c169a509ace21a23ed263ca47c5e9ec917c0585848143f7f85a16", func := "dotterel/dotterellaw.TickWhich", spec := "tickWhich", recurses := true, apart := false, narrowed := true }
def TickWhichUptoSaid : Prop := tickWhichUptoRow.holds Try.pinned (OpenSpec.upto tickWhichSpec)

/-- 'dotterellaw.TickDistances', WHERE WHAT IT READS IS OF BULK AT MOST 1048576: true; the input reads as it did. -/
def tickDistancesUptoRow : OpenClaim := { program := "ytbambidojppklaa", sum := "87f9fdd5e33c169a509ace21a23ed263ca47c5e9ec917c0585848143f7f85a16", func := "dotterel/dotterellaw.TickDistances", spec := "tickDistances", recurses := true, apart := false, narrowed := true }
def TickDistancesUptoSaid : Prop := tickDistancesUptoRow.holds Try.pinned (OpenSpec.upto tickDistancesSpec)

/-- 'dotterellaw.TickFits', WHERE WHAT IT READS IS OF BULK AT MOST 1048576: true; the input reads as it did. -/
def tickFitsUptoRow : OpenClaim := { program := "ytbambidojppklaa", sum := "87f9fdd5e33c169a509ace21a23ed263ca47c5e9ec917c0585848143f7f85a16", func := "dotterel/dotterellaw.TickFits", spec := "tickFits", recurses := true, apart := false, narrowed := true }
def TickFitsUptoSaid : Prop := tickFitsUptoRow.holds Try.pinned (OpenSpec.upto tickFitsSpec)

end Rows
end Go.Proofs.Ytbambidojppklaa
