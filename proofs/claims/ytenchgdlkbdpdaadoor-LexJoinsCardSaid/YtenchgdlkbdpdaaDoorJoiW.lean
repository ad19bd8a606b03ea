/-
  The walks of tokens joined: too many of them. (Builds; the loops are not walked yet.)
-/
import Derived.Test.YtenchgdlkbdpdaaDoorJoiP
import Derived.Test.YtenchgdlkbdpdaaDoorBldW
import Derived.Test.YtenchgdlkbdpdaaDoorTokX
namespace Go.Proofs.YtenchgdlkbdpdaaDoor
open Go.RowKit
set_option linter.unusedVariables false
set_option linter.unusedSimpArgs false

/-- What a join answers. -/
def JoinPost (l : List Tok) (w : World) (e : Ending) (w' : World) : Prop := e = .returned (.tuple #[.string ⟨(joinV l).2.toArray⟩, .int .i64 (joinV l).1]) ∧ Below w.heap.size w w'
set_option maxHeartbeats 4000000 in
set_option maxRecDepth 100000 in
theorem join_many (F : Nat → Prop) (ao : Option Addr) (n cap : Nat) (l : List Tok) (w : World) (hL : SlF F w 3 tkF ao n cap l) (h7 : 700 < n) : Calls Tryd.prog 15 #[.slice ao n cap] w (JoinPost l w) := by
  have h7' : (700 : Int) < n := by omega
  have hle := hL.le
  have HV : Hid (joinV l = (8, [])) := by show _ = _; unfold joinV; rw [if_pos (by have := hL.len; omega)]
  go_enter Tryd.func15, Tryd.ntmps15
  go_wp2
  go_ret2
  unfold JoinPost
  rw [HV.out]
  exact ⟨rfl, Below.refl _ _⟩
set_option maxHeartbeats 4000000 in
set_option maxRecDepth 100000 in
theorem joinOf_many (F : Nat → Prop) (ao : Option Addr) (n cap : Nat) (l : List Tok) (w : World) (hL : SlF F w 3 tkF ao n cap l) (h7 : 700 < n) : Calls Tryd.prog 16 #[.slice ao n cap] w (JoinPost l w) := by
  have h7' : (700 : Int) < n := by omega
  have hle := hL.le
  have HV : Hid (joinV l = (8, [])) := by show _ = _; unfold joinV; rw [if_pos (by have := hL.len; omega)]
  go_enter Tryd.func16, Tryd.ntmps16
  go_wp2
  go_ret2
  unfold JoinPost
  rw [HV.out]
  exact ⟨rfl, Below.refl _ _⟩
end Go.Proofs.YtenchgdlkbdpdaaDoor
