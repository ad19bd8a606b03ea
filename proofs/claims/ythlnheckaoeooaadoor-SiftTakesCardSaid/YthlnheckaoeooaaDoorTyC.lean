/-
  Types of the checker, for the steps over own memory.
-/
import Derived.Test.YthlnheckaoeooaaDoorChkA
namespace Go.Proofs.YthlnheckaoeooaaDoor
open Go.RowKit
set_option linter.unusedVariables false
set_option linter.unusedSimpArgs false

instance : StI Tryd.prog 44 3 := ⟨⟨by kernel_rfl, _, Tryd.underlying44, rfl⟩⟩
instance : ZeI Tryd.prog 44 [.int .i64 0, .int .i64 0, .string ByteArray.empty] := ⟨⟨by kernel_rfl⟩⟩
instance : StI Tryd.prog 120 2 := ⟨⟨by kernel_rfl, _, Tryd.underlying120, rfl⟩⟩
instance : OneI Tryd.prog 4 := ⟨⟨by kernel_rfl, _, Tryd.underlying4, rfl⟩⟩
instance : OneI Tryd.prog 63 := ⟨⟨by kernel_rfl, _, Tryd.underlying63, rfl⟩⟩
instance : OneI Tryd.prog 118 := ⟨⟨by kernel_rfl, _, Tryd.underlying118, rfl⟩⟩
instance : RowI Tryd.prog 63 9 1 := ⟨⟨Tryd.underlying63, ⟨.string ByteArray.empty, by kernel_rfl, rfl⟩, by kernel_rfl, by kernel_rfl, by omega, by omega⟩⟩
end Go.Proofs.YthlnheckaoeooaaDoor
