/-
  No cell of these rows narrows 'for every input' (looked for: loops, veiled, ifaces, maps, wideKeys, modest, calm, conditions, laid).
  DERIVED. THE GIVEN ROWS OF THIS SEAT. 11 by the template 'for every input the law returns true; each argument reads behind the call as it read before'; 0 by the template 'total and deterministic' (their statements: YtipemoajdphdfaaTotals.lean).
  GIVEN WITH THE SEED: the statements are not yours to turn. If you find one false, say at which input.
  Laid BY PROGRAM, IN A SANDBOX (cutbox-rows.mjs): the forced cells as the released guide's own fill.sh prints them over the translation 80e4357b148b84e4… (all of the seat's roots in one cut). By AI agents, Wed Nov 11 2026. No macro, syntax, notation, axiom, sorry.
-/
import Derived.Test.YtipemoajdphdfaaChecked
import GoSem.Claim
import GoSem.ClaimJoined
import GoSem.ClaimMapViews
import Derived.JoinedTies
import Derived.KernelRfl
namespace Go.Proofs.Ytipemoajdphdfaa
/- THE CELL 'sum', in the pinned program and in every row, IS THE sha256 OF THE DUMP (.gsa) THAT YtipemoajdphdfaaProg.lean LOADS. Nothing in Lean hashes anything: it is a label: what it is worth is what the hold of that sum in a sandbox is worth. -/
noncomputable def Try.pinned : Pinned := { name := "ytipemoajdphdfaa", sum := "80e4357b148b84e42e82d171e022518435cbc1bf89d9e9986ae6af2ab9154a5f", checked := Try.checked }
namespace Rows
def none {H : Type} : Left H := { results := [], args := [] }

/-- 'dotterellaw.BoundChecks': WHATEVER THE INPUT: true; the input reads as it did. -/
def boundChecksSpec : ChangeSpec := { name := "boundChecks", fn := fun _ => fun
  | [d] => { results := [.lit (.bool true)], args := [d] }
  | _ => none }
def boundChecksRow : OpenClaim := { program := "ytipemoajdphdfaa", sum := "80e4357b148b84e42e82d171e022518435cbc1bf89d9e9986ae6af2ab9154a5f", func := "dotterel/dotterellaw.BoundChecks", spec := "boundChecks", apart := false }
def BoundChecksSaid : Prop := boundChecksRow.holds Try.pinned (OpenSpec.ofChange boundChecksSpec)

/-- ITS FALSE NEIGHBOUR: 'it returns false'. Refute it at one input. -/
def boundChecksWrong : ChangeSpec := { name := "boundChecks", fn := fun _ => fun
  | [d] => { results := [.lit (.bool false)], args := [d] }
  | _ => none }
def BoundChecksWrongFalsely : Prop := boundChecksRow.holds Try.pinned (OpenSpec.ofChange boundChecksWrong)

/-- 'dotterellaw.TapeSyncs': WHATEVER THE INPUT: true; the input reads as it did. -/
def tapeSyncsSpec : ChangeSpec := { name := "tapeSyncs", fn := fun _ => fun
  | [d] => { results := [.lit (.bool true)], args := [d] }
  | _ => none }
def tapeSyncsRow : OpenClaim := { program := "ytipemoajdphdfaa", sum := "80e4357b148b84e42e82d171e022518435cbc1bf89d9e9986ae6af2ab9154a5f", func := "dotterel/dotterellaw.TapeSyncs", spec := "tapeSyncs", apart := false }
def TapeSyncsSaid : Prop := tapeSyncsRow.holds Try.pinned (OpenSpec.ofChange tapeSyncsSpec)

/-- ITS FALSE NEIGHBOUR: 'it returns false'. Refute it at one input. -/
def tapeSyncsWrong : ChangeSpec := { name := "tapeSyncs", fn := fun _ => fun
  | [d] => { results := [.lit (.bool false)], args := [d] }
  | _ => none }
def TapeSyncsWrongFalsely : Prop := tapeSyncsRow.holds Try.pinned (OpenSpec.ofChange tapeSyncsWrong)

/-- 'dotterellaw.TapeCrashes': WHATEVER THE INPUT: true; the input reads as it did. -/
def tapeCrashesSpec : ChangeSpec := { name := "tapeCrashes", fn := fun _ => fun
  | [d1, d2] => { results := [.lit (.bool true)], args := [d1, d2] }
  | _ => none }
def tapeCrashesRow : OpenClaim := { program := "ytipemoajdphdfaa", sum := "80e4357b148b84e42e82d171e022518435cbc1bf89d9e9986ae6af2ab9154a5f", func := "dotterel/dotterellaw.TapeCrashes", spec := "tapeCrashes", apart := false }
def TapeCrashesSaid : Prop := tapeCrashesRow.holds Try.pinned (OpenSpec.ofChange tapeCrashesSpec)

/-- ITS FALSE NEIGHBOUR: 'it returns false'. Refute it at one input. -/
def tapeCrashesWrong : ChangeSpec := { name := "tapeCrashes", fn := fun _ => fun
  | [d1, d2] => { results := [.lit (.bool false)], args := [d1, d2] }
  | _ => none }
def TapeCrashesWrongFalsely : Prop := tapeCrashesRow.holds Try.pinned (OpenSpec.ofChange tapeCrashesWrong)

/-- 'dotterellaw.BoundFrees': WHATEVER THE INPUT: true; the input reads as it did. -/
def boundFreesSpec : ChangeSpec := { name := "boundFrees", fn := fun _ => fun
  | [d] => { results := [.lit (.bool true)], args := [d] }
  | _ => none }
def boundFreesRow : OpenClaim := { program := "ytipemoajdphdfaa", sum := "80e4357b148b84e42e82d171e022518435cbc1bf89d9e9986ae6af2ab9154a5f", func := "dotterel/dotterellaw.BoundFrees", spec := "boundFrees", apart := false }
def BoundFreesSaid : Prop := boundFreesRow.holds Try.pinned (OpenSpec.ofChange boundFreesSpec)

/-- ITS FALSE NEIGHBOUR: 'it returns false'. Refute it at one input. -/
def boundFreesWrong : ChangeSpec := { name := "boundFrees", fn := fun _ => fun
  | [d] => { results := [.lit (.bool false)], args := [d] }
  | _ => none }
def BoundFreesWrongFalsely : Prop := boundFreesRow.holds Try.pinned (OpenSpec.ofChange boundFreesWrong)

/-- 'dotterellaw.BoundBoth': WHATEVER THE INPUT: true; the input reads as it did. -/
def boundBothSpec : ChangeSpec := { name := "boundBoth", fn := fun _ => fun
  | [d1, d2] => { results := [.lit (.bool true)], args := [d1, d2] }
  | _ => none }
def boundBothRow : OpenClaim := { program := "ytipemoajdphdfaa", sum := "80e4357b148b84e42e82d171e022518435cbc1bf89d9e9986ae6af2ab9154a5f", func := "dotterel/dotterellaw.BoundBoth", spec := "boundBoth", unfollowed := true, recurses := true, apart := false }
def BoundBothSaid : Prop := boundBothRow.holds Try.pinned (OpenSpec.ofChange boundBothSpec)

/-- ITS FALSE NEIGHBOUR: 'it returns false'. Refute it at one input. -/
def boundBothWrong : ChangeSpec := { name := "boundBoth", fn := fun _ => fun
  | [d1, d2] => { results := [.lit (.bool false)], args := [d1, d2] }
  | _ => none }
def BoundBothWrongFalsely : Prop := boundBothRow.holds Try.pinned (OpenSpec.ofChange boundBothWrong)

/-- 'dotterellaw.BoundEither': WHATEVER THE INPUT: true; the input reads as it did. -/
def boundEitherSpec : ChangeSpec := { name := "boundEither", fn := fun _ => fun
  | [d1, d2] => { results := [.lit (.bool true)], args := [d1, d2] }
  | _ => none }
def boundEitherRow : OpenClaim := { program := "ytipemoajdphdfaa", sum := "80e4357b148b84e42e82d171e022518435cbc1bf89d9e9986ae6af2ab9154a5f", func := "dotterel/dotterellaw.BoundEither", spec := "boundEither", unfollowed := true, recurses := true, apart := false }
def BoundEitherSaid : Prop := boundEitherRow.holds Try.pinned (OpenSpec.ofChange boundEitherSpec)

/-- ITS FALSE NEIGHBOUR: 'it returns false'. Refute it at one input. -/
def boundEitherWrong : ChangeSpec := { name := "boundEither", fn := fun _ => fun
  | [d1, d2] => { results := [.lit (.bool false)], args := [d1, d2] }
  | _ => none }
def BoundEitherWrongFalsely : Prop := boundEitherRow.holds Try.pinned (OpenSpec.ofChange boundEitherWrong)

/-- 'dotterellaw.ArenaPlays': WHATEVER THE INPUT: true; the input reads as it did. -/
def arenaPlaysSpec : ChangeSpec := { name := "arenaPlays", fn := fun _ => fun
  | [d] => { results := [.lit (.bool true)], args := [d] }
  | _ => none }
def arenaPlaysRow : OpenClaim := { program := "ytipemoajdphdfaa", sum := "80e4357b148b84e42e82d171e022518435cbc1bf89d9e9986ae6af2ab9154a5f", func := "dotterel/dotterellaw.ArenaPlays", spec := "arenaPlays", apart := false }
def ArenaPlaysSaid : Prop := arenaPlaysRow.holds Try.pinned (OpenSpec.ofChange arenaPlaysSpec)

/-- ITS FALSE NEIGHBOUR: 'it returns false'. Refute it at one input. -/
def arenaPlaysWrong : ChangeSpec := { name := "arenaPlays", fn := fun _ => fun
  | [d] => { results := [.lit (.bool false)], args := [d] }
  | _ => none }
def ArenaPlaysWrongFalsely : Prop := arenaPlaysRow.holds Try.pinned (OpenSpec.ofChange arenaPlaysWrong)

/-- 'dotterellaw.BoundCloses': WHATEVER THE INPUT: true; the input reads as it did. -/
def boundClosesSpec : ChangeSpec := { name := "boundCloses", fn := fun _ => fun
  | [d] => { results := [.lit (.bool true)], args := [d] }
  | _ => none }
def boundClosesRow : OpenClaim := { program := "ytipemoajdphdfaa", sum := "80e4357b148b84e42e82d171e022518435cbc1bf89d9e9986ae6af2ab9154a5f", func := "dotterel/dotterellaw.BoundCloses", spec := "boundCloses", apart := false }
def BoundClosesSaid : Prop := boundClosesRow.holds Try.pinned (OpenSpec.ofChange boundClosesSpec)

/-- ITS FALSE NEIGHBOUR: 'it returns false'. Refute it at one input. -/
def boundClosesWrong : ChangeSpec := { name := "boundCloses", fn := fun _ => fun
  | [d] => { results := [.lit (.bool false)], args := [d] }
  | _ => none }
def BoundClosesWrongFalsely : Prop := boundClosesRow.holds Try.pinned (OpenSpec.ofChange boundClosesWrong)

/-- 'dotterellaw.TapeAppends': WHATEVER THE INPUT: true; the input reads as it did. -/
def tapeAppendsSpec : ChangeSpec := { name := "tapeAppends", fn := fun _ => fun
  | [d1, d2] => { results := [.lit (.bool true)], args := [d1, d2] }
  | _ => none }
def tapeAppendsRow : OpenClaim := { program := "ytipemoajdphdfaa", sum := "80e4357b148b84e42e82d171e022518435cbc1bf89d9e9986ae6af2ab9154a5f", func := "dotterel/dotterellaw.TapeAppends", spec := "tapeAppends", recurses := true, apart := false }
def TapeAppendsSaid : Prop := tapeAppendsRow.holds Try.pinned (OpenSpec.ofChange tapeAppendsSpec)

/-- ITS FALSE NEIGHBOUR: 'it returns false'. Refute it at one input. -/
def tapeAppendsWrong : ChangeSpec := { name := "tapeAppends", fn := fun _ => fun
  | [d1, d2] => { results := [.lit (.bool false)], args := [d1, d2] }
  | _ => none }
def TapeAppendsWrongFalsely : Prop := tapeAppendsRow.holds Try.pinned (OpenSpec.ofChange tapeAppendsWrong)

/-- 'dotterellaw.TapeRecovers': WHATEVER THE INPUT: true; the input reads as it did. -/
def tapeRecoversSpec : ChangeSpec := { name := "tapeRecovers", fn := fun _ => fun
  | [d] => { results := [.lit (.bool true)], args := [d] }
  | _ => none }
def tapeRecoversRow : OpenClaim := { program := "ytipemoajdphdfaa", sum := "80e4357b148b84e42e82d171e022518435cbc1bf89d9e9986ae6af2ab9154a5f", func := "dotterel/dotterellaw.TapeRecovers", spec := "tapeRecovers", apart := false }
def TapeRecoversSaid : Prop := tapeRecoversRow.holds Try.pinned (OpenSpec.ofChange tapeRecoversSpec)

/-- ITS FALSE NEIGHBOUR: 'it returns false'. Refute it at one input. -/
def tapeRecoversWrong : ChangeSpec := { name := "tapeRecovers", fn := fun _ => fun
  | [d] => { results := [.lit (.bool false)], args := [d] }
  | _ => none }
def TapeRecoversWrongFalsely : Prop := tapeRecoversRow.holds Try.pinned (OpenSpec.ofChange tapeRecoversWrong)

/-- 'dotterellaw.BoundOptions': WHATEVER THE INPUT: true; the input reads as it did. -/
def boundOptionsSpec : ChangeSpec := { name := "boundOptions", fn := fun _ => fun
  | [d] => { results := [.lit (.bool true)], args := [d] }
  | _ => none }
def boundOptionsRow : OpenClaim := { program := "ytipemoajdphdfaa", sum := "80e4357b148b84e42e82d171e022518435cbc1bf89d9e9986ae6af2ab9154a5f", func := "dotterel/dotterellaw.BoundOptions", spec := "boundOptions", unfollowed := true, recurses := true, apart := false }
def BoundOptionsSaid : Prop := boundOptionsRow.holds Try.pinned (OpenSpec.ofChange boundOptionsSpec)

/-- ITS FALSE NEIGHBOUR: 'it returns false'. Refute it at one input. -/
def boundOptionsWrong : ChangeSpec := { name := "boundOptions", fn := fun _ => fun
  | [d] => { results := [.lit (.bool false)], args := [d] }
  | _ => none }
def BoundOptionsWrongFalsely : Prop := boundOptionsRow.holds Try.pinned (OpenSpec.ofChange boundOptionsWrong)

/- THE SECOND FORM. 'bulk': how many values and letters a reading holds, each counted each time it is reached (what is shared counts as often as it is met; a slice's spare places count too). A statement '..UptoSaid' is the law's where the arguments, and the package variables that the reading takes, are together of bulk at most 1048576: NARROWER than '..Said'. Prove '..Said' where nothing that the law and all that it calls make is longer than what came in: it says more and counts as full. Else prove '..UptoSaid'. A law counts once. -/
mutual
def uptoBulk {H : Type} : DataW H → Nat
  | .lit (.string bytes) => bytes.length + 1
  | .lit _ => 1
  | .nil => 1
  | .ptr d => uptoBulk d + 1
  | .slice elems spare => uptoBulkAll elems + uptoBulkAll spare + 1
  | .agg parts => uptoBulkAll parts + 1
  | .iface _ d => uptoBulk d + 1
  | .map entries => uptoBulkEntries entries + 1
  | .held _ => 1
def uptoBulkAll {H : Type} : List (DataW H) → Nat
  | [] => 0
  | d :: r => uptoBulk d + uptoBulkAll r
def uptoBulkEntries {H : Type} : List (Lit × DataW H) → Nat
  | [] => 0
  | x :: r => uptoBulkEntry x + uptoBulkEntries r
def uptoBulkEntry {H : Type} : Lit × DataW H → Nat
  | (.string bytes, d) => bytes.length + uptoBulk d + 1
  | (_, d) => uptoBulk d + 1
 end
def uptoSmall : (H : Type) → List (DataW H) → Bool := fun _ ds => decide (uptoBulkAll ds ≤ 1048576)
def OpenSpec.upto (s : _root_.Go.ChangeSpec) : _root_.Go.OpenSpec := { _root_.Go.OpenSpec.ofChange s with cond := some uptoSmall }

/-- 'dotterellaw.BoundChecks', WHERE WHAT IT READS IS OF BULK AT MOST 1048576: true; the input reads as it did. -/
def boundChecksUptoRow : OpenClaim := { program := "ytipemoajdphdfaa", sum := "80e4357b148b84e42e82d171e022518435cbc1bf89d9e9986ae6af2ab9154a5f", func := "dotterel/dotterellaw.BoundChecks", spec := "boundChecks", apart := false, narrowed := true }
def BoundChecksUptoSaid : Prop := boundChecksUptoRow.holds Try.pinned (OpenSpec.upto boundChecksSpec)

/-- 'dotterellaw.TapeSyncs', WHERE WHAT IT READS IS OF BULK AT MOST 1048576: true; the input reads as it did. -/
def tapeSyncsUptoRow : OpenClaim := { program := "ytipemoajdphdfaa", sum := "80e4357b148b84e42e82d171e022518435cbc1bf89d9e9986ae6af2ab9154a5f", func := "dotterel/dotterellaw.TapeSyncs", spec := "tapeSyncs", apart := false, narrowed := true }
def TapeSyncsUptoSaid : Prop := tapeSyncsUptoRow.holds Try.pinned (OpenSpec.upto tapeSyncsSpec)

/-- 'dotterellaw.TapeCrashes', WHERE WHAT IT READS IS OF BULK AT MOST 1048576: true; the input reads as it did. -/
def tapeCrashesUptoRow : OpenClaim := { program := "ytipemoajdphdfaa", sum := "80e4357b148b84e42e82d171e022518435cbc1bf89d9e9986ae6af2ab9154a5f", func := "dotterel/dotterellaw.TapeCrashes", spec := "tapeCrashes", apart := false, narrowed := true }
def TapeCrashesUptoSaid : Prop := tapeCrashesUptoRow.holds Try.pinned (OpenSpec.upto tapeCrashesSpec)

/-- 'dotterellaw.BoundFrees', WHERE WHAT IT READS IS OF BULK AT MOST 1048576: true; the input reads as it did. -/
def boundFreesUptoRow : OpenClaim := { program := "ytipemoajdphdfaa", sum := "80e4357b148b84e42e82d171e022518435cbc1bf89d9e9986ae6af2ab9154a5f", func := "dotterel/dotterellaw.BoundFrees", spec := "boundFrees", apart := false, narrowed := true }
def BoundFreesUptoSaid : Prop := boundFreesUptoRow.holds Try.pinned (OpenSpec.upto boundFreesSpec)

/-- 'dotterellaw.BoundBoth', WHERE WHAT IT READS IS OF BULK AT MOST 1048576: true; the input reads as it did. -/
def boundBothUptoRow : OpenClaim := { program := "ytipemoajdphdfaa", sum := "80e4357b148b84e42e82d171e022518435cbc1bf89d9e9986ae6af2ab9154a5f", func := "dotterel/dotterellaw.BoundBoth", spec := "boundBoth", unfollowed := true, recurses := true, apart := false, narrowed := true }
def BoundBothUptoSaid : Prop := boundBothUptoRow.holds Try.pinned (OpenSpec.upto boundBothSpec)

/-- 'dotterellaw.BoundEither', WHERE WHAT IT READS IS OF BULK AT MOST 1048576: true; the input reads as it did. -/
def boundEitherUptoRow : OpenClaim := { program := "ytipemoajdphdfaa", sum := "80e4357b148b84e42e82d171e022518435cbc1bf89d9e9986ae6af2ab9154a5f", func := "dotterel/dotterellaw.BoundEither", spec := "boundEither", unfollowed := true, recurses := true, apart := false, narrowed := true }
def BoundEitherUptoSaid : Prop := boundEitherUptoRow.holds Try.pinned (OpenSpec.upto boundEitherSpec)

/-- 'dotterellaw.ArenaPlays', WHERE WHAT IT READS IS OF BULK AT MOST 1048576: true; the input reads as it did. -/
def arenaPlaysUptoRow : OpenClaim := { program := "ytipemoajdphdfaa", sum := "80e4357b148b84e42e82d171e022518435cbc1bf89d9e9986ae6af2ab9154a5f", func := "dotterel/dotterellaw.ArenaPlays", spec := "arenaPlays", apart := false, narrowed := true }
def ArenaPlaysUptoSaid : Prop := arenaPlaysUptoRow.holds Try.pinned (OpenSpec.upto arenaPlaysSpec)

/-- 'dotterellaw.BoundCloses', WHERE WHAT IT READS IS OF BULK AT MOST 1048576: true; the input reads as it did. -/
def boundClosesUptoRow : OpenClaim := { program := "ytipemoajdphdfaa", sum := "80e4357b148b84e42e82d171e022518435cbc1bf89d9e9986ae6af2ab9154a5f", func := "dotterel/dotterellaw.BoundCloses", spec := "boundCloses", apart := false, narrowed := true }
def BoundClosesUptoSaid : Prop := boundClosesUptoRow.holds Try.pinned (OpenSpec.upto boundClosesSpec)

/-- 'dotterellaw.TapeAppends', WHERE WHAT IT READS IS OF BULK AT MOST 1048576: true; the input reads as it did. -/
def tapeAppendsUptoRow : OpenClaim := { program := "ytipemoajdphdfaa", sum := "80e4357b148b84e42e82d171e022518435cbc1bf89d9e9986ae6af2ab9154a5f", func := "dotterel/dotterellaw.TapeAppends", spec := "tapeAppends", recurses := true, apart := false, narrowed := true }
def TapeAppendsUptoSaid : Prop := tapeAppendsUptoRow.holds Try.pinned (OpenSpec.upto tapeAppendsSpec)

/-- 'dotterellaw.TapeRecovers', WHERE WHAT IT READS IS OF BULK AT MOST 1048576: true; the input reads as it did. -/
def tapeRecoversUptoRow : OpenClaim := { program := "ytipemoajdphdfaa", sum := "80e4357b148b84e42e82d171e022518435cbc1bf89d9e9986ae6af2ab9154a5f", func := "dotterel/dotterellaw.TapeRecovers", spec := "tapeRecovers", apart := false, narrowed := true }
def TapeRecoversUptoSaid : Prop := tapeRecoversUptoRow.holds Try.pinned (OpenSpec.upto tapeRecoversSpec)

/-- 'dotterellaw.BoundOptions', WHERE WHAT IT READS IS OF BULK AT MOST 1048576: true; the input reads as it did. -/
def boundOptionsUptoRow : OpenClaim := { program := "ytipemoajdphdfaa", sum := "80e4357b148b84e42e82d171e022518435cbc1bf89d9e9986ae6af2ab9154a5f", func := "dotterel/dotterellaw.BoundOptions", spec := "boundOptions", unfollowed := true, recurses := true, apart := false, narrowed := true }
def BoundOptionsUptoSaid : Prop := boundOptionsUptoRow.holds Try.pinned (OpenSpec.upto boundOptionsSpec)

end Rows
end Go.Proofs.Ytipemoajdphdfaa
