/-
  Types of the checker, for the steps over own memory.
-/
import Derived.Test.YtnbnmcadoekcfaaDoorChkA
namespace Go.Proofs.YtnbnmcadoekcfaaDoor
open Go.RowKit
set_option linter.unusedVariables false
set_option linter.unusedSimpArgs false

instance : StI Tryd.prog 71 3 := ⟨⟨by kernel_rfl, _, Tryd.underlying71, rfl⟩⟩
instance : ZeI Tryd.prog 71 [.int .i64 0, .int .i64 0, .string ByteArray.empty] := ⟨⟨by kernel_rfl⟩⟩
instance : StI Tryd.prog 122 2 := ⟨⟨by kernel_rfl, _, Tryd.underlying122, rfl⟩⟩
instance : OneI Tryd.prog 4 := ⟨⟨by kernel_rfl, _, Tryd.underlying4, rfl⟩⟩
instance : OneI Tryd.prog 81 := ⟨⟨by kernel_rfl, _, Tryd.underlying81, rfl⟩⟩
instance : OneI Tryd.prog 120 := ⟨⟨by kernel_rfl, _, Tryd.underlying120, rfl⟩⟩
instance : RowI Tryd.prog 81 9 1 := ⟨⟨Tryd.underlying81, ⟨.string ByteArray.empty, by kernel_rfl, rfl⟩, by kernel_rfl, by kernel_rfl, by omega, by omega⟩⟩
end Go.Proofs.YtnbnmcadoekcfaaDoor
