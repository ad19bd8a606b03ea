/-
  What every law of this seat wants of the program at its lifting. No condition.
-/
import Derived.Test.YtpnhkkjjdcjmgaaRows
import Derived.Test.YtpnhkkjjdcjmgaaLaw
import Derived.Test.YtpnhkkjjdcjmgaaOpen
namespace Go.Proofs.Ytpnhkkjjdcjmgaa
open Go.ChangeShapes Go.WideShapes Go.ChangeAt Go.RowKit Go.Joins Go.Deep
set_option linter.unusedVariables false
theorem own_knob:ownKnob Try.prog.godebug=none:=by kernel_rfl
theorem laid_out:laidOutB Try.prog=true:=by kernel_rfl
theorem opens_i:Opens Try.prog 3 1 intF:=opens_int Try.underlying3 (by kernel_rfl)
end Go.Proofs.Ytpnhkkjjdcjmgaa
