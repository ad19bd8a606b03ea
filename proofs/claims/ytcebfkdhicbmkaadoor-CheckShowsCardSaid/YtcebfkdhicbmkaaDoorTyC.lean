/-
  Types of the checker, for the steps over own memory.
-/
import Derived.Test.YtcebfkdhicbmkaaDoorChkA
namespace Go.Proofs.YtcebfkdhicbmkaaDoor
open Go.RowKit
set_option linter.unusedVariables false
set_option linter.unusedSimpArgs false
instance :StI Tryd.prog 63 3:=⟨⟨by kernel_rfl,_,Tryd.underlying63,rfl⟩⟩
instance :ZeI Tryd.prog 63 [.int .i64 0,.int .i64 0,.string ByteArray.empty]:=⟨⟨by kernel_rfl⟩⟩
instance :StI Tryd.prog 96 2:=⟨⟨by kernel_rfl,_,Tryd.underlying96,rfl⟩⟩
instance :OneI Tryd.prog 4:=⟨⟨by kernel_rfl,_,Tryd.underlying4,rfl⟩⟩
instance :OneI Tryd.prog 60:=⟨⟨by kernel_rfl,_,Tryd.underlying60,rfl⟩⟩
instance :OneI Tryd.prog 94:=⟨⟨by kernel_rfl,_,Tryd.underlying94,rfl⟩⟩
instance :RowI Tryd.prog 60 9 1:=⟨⟨Tryd.underlying60,⟨.string ByteArray.empty,by kernel_rfl,rfl⟩,by kernel_rfl,by kernel_rfl,by omega,by omega⟩⟩
end Go.Proofs.YtcebfkdhicbmkaaDoor
