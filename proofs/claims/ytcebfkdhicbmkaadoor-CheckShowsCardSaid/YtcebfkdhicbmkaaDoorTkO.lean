/-
  The walks of tick.CheckOption and of the reference's OptionFault.
-/
import Derived.Test.YtcebfkdhicbmkaaDoorValZ
import Derived.Lib.SmallJoins
namespace Go.Proofs.YtcebfkdhicbmkaaDoor
open Go.RowKit
set_option linter.unusedVariables false
set_option linter.unusedSimpArgs false
def optE(r l h:Int):Int:=if 1≤r∧r≤13 then(if(0≤l∧l≤1073741824)∧(-1≤h∧h≤1073741824)then(if h≠ -1∧h<l then 11 else 0)else 2)else 3
theorem ret_int' {k:IntKind}{a b:Int}(h:a=b):Ending.returned (.int k a)= .returned (.int k b):=by rw[h]
theorem ret_bool' {a b:Bool}(h:a=b):Ending.returned (.bool a)= .returned (.bool b):=by rw[h]
def inB' (n lo hi:Int):Bool:=decide (lo≤n∧n≤hi)
set_option maxHeartbeats 400000 in
theorem relation_any(n:Int)(w:World):
  Calls Tryd.prog 76 #[.int .i64 n] w fun e w' =>e= .returned (.bool (inB' n 1 13))∧w=w' :=by
 go_enter Tryd.func76,Tryd.ntmps76
 go_wp2
 all_goals(go_ret;refine⟨?_,rfl⟩;exact ret_bool' (by go_light;unfold inB';first|(simp;done)|(rw[Bool.eq_iff_iff];simp[];done)|(rw[Bool.eq_iff_iff];simp[];omega)))
set_option maxHeartbeats 400000 in
theorem optCheck_any(r l h:Int)(w:World):
  Calls Tryd.prog 61 #[.agg #[.int .i64 r,.int .i64 l,.int .i64 h]] w fun e w' =>e= .returned (.int .i64 (optE r l h))∧Below w.heap.size w w' :=by
 go_enter Tryd.func61,Tryd.ntmps61
 go_wp2
 all_goals(go_ret;refine⟨?_,(by repeat(first|exact Below.refl _ _|(refine Below.alloc ?_ (by omega) _)))⟩;exact ret_int' (by go_light;unfold optE;(try simp only[Bool.not_eq_true',Bool.not_eq_false',decide_eq_true_eq,decide_eq_false_iff_not]at *);(repeat' split)<;>omega))
set_option maxHeartbeats 400000 in
theorem optFault_any(r l h:Int)(w:World):
  Calls Tryd.prog 73 #[.agg #[.int .i64 r,.int .i64 l,.int .i64 h]] w fun e w' =>e= .returned (.int .i64 (optE r l h))∧Below w.heap.size w w' :=by
 by_cases hh:h= -1
 ·subst hh
  go_enter Tryd.func73,Tryd.ntmps73
  go_wp2
  all_goals(go_ret;refine⟨?_,(by repeat(first|exact Below.refl _ _|(refine Below.alloc ?_ (by omega) _)))⟩;exact ret_int' (by go_light;unfold optE;(try simp only[Bool.not_eq_true',Bool.not_eq_false',decide_eq_true_eq,decide_eq_false_iff_not]at *);(repeat' split)<;>omega))
 ·have hb:(h != -1)=true:=by rw[bne_iff_ne];exact hh
  go_enter Tryd.func73,Tryd.ntmps73
  go_wp2
  all_goals(go_ret;refine⟨?_,(by repeat(first|exact Below.refl _ _|(refine Below.alloc ?_ (by omega) _)))⟩;exact ret_int' (by go_light;unfold optE;(try simp only[Bool.not_eq_true',Bool.not_eq_false',decide_eq_true_eq,decide_eq_false_iff_not]at *);(repeat' split)<;>omega))
end Go.Proofs.YtcebfkdhicbmkaaDoor
