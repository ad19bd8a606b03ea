/-
  Types of the checker, for the steps over own memory.
-/
import Derived.Test.YtkekbahccihlbaaDoorChkA
namespace Go.Proofs.YtkekbahccihlbaaDoor
open Go.RowKit
set_option linter.unusedVariables false
set_option linter.unusedSimpArgs false

instance : StI Tryd.prog 59 3 := ⟨⟨by kernel_rfl, _, Tryd.underlying59, rfl⟩⟩
instance : ZeI Tryd.prog 59 [.int .i64 0, .int .i64 0, .string ByteArray.empty] := ⟨⟨by kernel_rfl⟩⟩
instance : StI Tryd.prog 55 2 := ⟨⟨by kernel_rfl, _, Tryd.underlying55, rfl⟩⟩
instance : OneI Tryd.prog 4 := ⟨⟨by kernel_rfl, _, Tryd.underlying4, rfl⟩⟩
instance : OneI Tryd.prog 49 := ⟨⟨by kernel_rfl, _, Tryd.underlying49, rfl⟩⟩
instance : OneI Tryd.prog 53 := ⟨⟨by kernel_rfl, _, Tryd.underlying53, rfl⟩⟩
instance : RowI Tryd.prog 49 9 1 := ⟨⟨Tryd.underlying49, ⟨.string ByteArray.empty, by kernel_rfl, rfl⟩, by kernel_rfl, by kernel_rfl, by omega, by omega⟩⟩
end Go.Proofs.YtkekbahccihlbaaDoor
