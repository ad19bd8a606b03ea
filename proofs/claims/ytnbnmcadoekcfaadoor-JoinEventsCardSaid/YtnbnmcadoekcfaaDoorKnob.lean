/-
  What every law of this seat wants of the program at its lifting. No condition.
-/
import Derived.Test.YtnbnmcadoekcfaaDoorRows
import Derived.Test.YtnbnmcadoekcfaaDoorLaw
import Derived.Test.YtnbnmcadoekcfaaDoorOpen
namespace Go.Proofs.YtnbnmcadoekcfaaDoor
open Go.ChangeShapes Go.WideShapes Go.ChangeAt Go.RowKit Go.Joins Go.Deep
set_option linter.unusedVariables false

theorem own_knob : ownKnob Tryd.prog.godebug = none := by kernel_rfl
theorem laid_out : laidOutB Tryd.prog = true := by kernel_rfl
theorem opens_i : Opens Tryd.prog 3 1 intF := opens_int Tryd.underlying3 (by kernel_rfl)
end Go.Proofs.YtnbnmcadoekcfaaDoor
