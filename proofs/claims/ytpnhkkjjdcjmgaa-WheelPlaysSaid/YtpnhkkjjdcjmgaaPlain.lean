/-
  Plain functions of numbers and strings: what values, names and types are refused for.
-/
import Derived.WalkKit
namespace Go.Proofs.Ytpnhkkjjdcjmgaa
def firstN(f:Nat→Int):Nat→Int
 |0=>0
 |n+1=>if firstN f n=0 then f n else firstN f n
def AllZ(f:Nat→Int)(k:Nat):Prop:= ∀ j,j<k→f j=0
theorem allZ_zero(f:Nat→Int):AllZ f 0:=fun j h=>absurd h (Nat.not_lt_zero j)
theorem allZ_succ{f:Nat→Int}{k:Nat}(h:AllZ f k)(hk:f k=0):AllZ f (k+1):=fun j hj=>by
 rcases Nat.lt_succ_iff_lt_or_eq.1 hj with h' |rfl
 ·exact h j h'
 ·exact hk
theorem firstN_zero{f:Nat→Int}{n:Nat}(h:AllZ f n):firstN f n=0:=by
 induction n with
 |zero=>rfl
 |succ n ih=>
  have:=ih (fun j hj=>h j (by omega))
  simp[firstN,this,h n (by omega)]
theorem firstN_stays{f:Nat→Int}{k n:Nat}(hk:k≤n)(h:firstN f k≠0):firstN f n=firstN f k:=by
 induction n with
 |zero=>
      obtain rfl:k=0:=by omega
      rfl
 |succ n ih=>
  by_cases e:k=n+1
  ·rw[e]
  ·have:=ih (by omega)
   simp only[firstN]
   rw[if_neg (by rw[this];exact h),this]
theorem firstN_at{f:Nat→Int}{k n:Nat}(h:AllZ f k)(hk:k<n)(hn:f k≠0):firstN f n=f k:=by
 have e:firstN f (k+1)=f k:=by simp[firstN,firstN_zero h]
 rw[firstN_stays (k:=k+1) (by omega) (by rw[e];exact hn),e]
theorem firstN_congr{f g:Nat→Int}{n:Nat}(h: ∀ j,j<n→f j=g j):firstN f n=firstN g n:=by
 induction n with
 |zero=>rfl
 |succ n ih=>simp only[firstN];rw[ih (fun j hj=>h j (by omega)),h n (by omega)]
def inB(n lo hi:Int):Bool:=decide (lo≤n∧n≤hi)
theorem inB_true{n lo hi:Int}:inB n lo hi=true↔lo≤n∧n≤hi:=by simp[inB]
theorem inB_false{n lo hi:Int}:inB n lo hi=false↔ ¬ (lo≤n∧n≤hi):=by simp[inB]
def byteAt(s:ByteArray)(j:Nat):Int:=((s.data.toList.getD j 0).toNat:Int)
theorem byteAt_eq(s:ByteArray)(j:Nat)(h:j<s.size):(s[j].toNat:Int)=byteAt s j:=by
 unfold byteAt
 rw[List.getD_eq_getElem?_getD,List.getElem?_eq_getElem (by simpa using h)]
 rfl
def charE(s:ByteArray)(j:Nat):Int:=if(97≤byteAt s j∧byteAt s j≤122)∨(j≠0∧48≤byteAt s j∧byteAt s j≤57)then 0 else 4
def nameE(s:ByteArray):Int:=if 1≤s.size∧s.size≤10 then firstN (charE s) s.size else 1
structure Val where
 kind:Int
 int:Int
 text:ByteArray
def valC(v:Val):List Value:=[.int .i64 v.kind,.int .i64 v.int,.string v.text]
def valE(v:Val):Int:=
 if v.kind=1 then(if v.text.size=0 then(if -1125899906842624≤v.int∧v.int≤1125899906842624 then 0 else 2)else 4)
 else if v.kind=2 then(if v.int=0 then(if v.text.size≤20 then 0 else 1)else 4)else 3
structure Fld where
 name:ByteArray
 kind:Int
def fldC(f:Fld):List Value:=[.string f.name,.int .i64 f.kind]
instance :Inhabited Fld:=⟨⟨ByteArray.empty,0⟩⟩
instance :Inhabited Val:=⟨⟨0,0,ByteArray.empty⟩⟩
def sameS(a b:ByteArray):Bool:=a.toList==b.toList
def fldTwice(fs:List Fld)(i:Nat)(k:Nat):Int:=if sameS (fs.getD k default).name (fs.getD i default).name=true then 7 else 0
def fldE(fs:List Fld)(i:Nat):Int:=
 if nameE (fs.getD i default).name=0 then(if inB (fs.getD i default).kind 1 2=true then firstN (fldTwice fs i) i else 3)else nameE (fs.getD i default).name
def typE(nm:ByteArray)(fs:List Fld):Int:=if nameE nm=0 then(if fs.length≤4 then firstN (fldE fs) fs.length else 1)else nameE nm
end Go.Proofs.Ytpnhkkjjdcjmgaa
