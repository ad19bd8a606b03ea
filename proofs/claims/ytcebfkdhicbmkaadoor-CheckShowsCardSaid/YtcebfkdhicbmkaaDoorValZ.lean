/-
  The walks of package value and of its reference, fourth part: the fields of a type.
-/
import Derived.Test.YtcebfkdhicbmkaaDoorValY
namespace Go.Proofs.YtcebfkdhicbmkaaDoor
open Go.RowKit
set_option linter.unusedVariables false
set_option linter.unusedSimpArgs false
def fldAt(fs:List Fld)(name:ByteArray):Nat:=fs.findIdx (fun f=>sameS f.name name)
def NoFld(fs:List Fld)(name:ByteArray)(k:Nat):Prop:= ∀ j (h:j<fs.length),j<k→sameS fs[j].name name=false
theorem noFld_zero(fs:List Fld)(name:ByteArray):NoFld fs name 0:=fun j _ h=>absurd h (Nat.not_lt_zero j)
theorem noFld_succ{fs:List Fld}{name:ByteArray}{k:Nat}(h:NoFld fs name k)(hk:k<fs.length)(hs:sameS fs[k].name name=false):NoFld fs name (k+1):=fun j hj hjk=>by
 rcases Nat.lt_succ_iff_lt_or_eq.1 hjk with h' |rfl
 ·exact h j hj h'
 ·exact hs
theorem fldAt_of{fs:List Fld}{name:ByteArray}{k:Nat}(h:NoFld fs name k)(hk:k<fs.length)(hs:sameS fs[k].name name=true):fldAt fs name=k:=by
 unfold fldAt
 rw[List.findIdx_eq hk]
 exact⟨hs,fun j hj=>h j (by omega) hj⟩
theorem fldAt_none{fs:List Fld}{name:ByteArray}(h:NoFld fs name fs.length):fldAt fs name=fs.length:=by
 unfold fldAt
 rw[List.findIdx_eq_length]
 intro f hf
 obtain⟨j,hj,rfl⟩:=List.mem_iff_getElem.1 hf
 exact h j hj hj
def fieldE(nm:ByteArray)(fs:List Fld)(name:ByteArray):Int:=if typE nm fs=0 then(if fldAt fs name<fs.length then 0 else 6)else typE nm fs
def fieldX(nm:ByteArray)(fs:List Fld)(name:ByteArray):Int:=if fieldE nm fs name=0 then(fldAt fs name:Nat)else 0
def fieldK(nm:ByteArray)(fs:List Fld)(name:ByteArray):Int:=if fieldE nm fs name=0 then(fs.getD (fldAt fs name) default).kind else 0
theorem ret_three{a b c d e f:Value}(h:a=d)(k:b=e)(l:c=f):Ending.returned (.tuple #[a,b,c])= .returned (.tuple #[d,e,f]):=by rw[h,k,l]
theorem ret_iii{k k' k'' :IntKind}{a b c d e f:Int}(h:a=d)(h' :b=e)(h'' :c=f):Ending.returned (.tuple #[.int k a,.int k' b,.int k'' c])= .returned (.tuple #[.int k d,.int k' e,.int k'' f]):=by rw[h,h',h'']
set_option maxHeartbeats 1000000 in
theorem field_any(nm:ByteArray)(ao:Option Addr)(n cap:Nat)(fs:List Fld)(name:ByteArray)(w:World)(hnm:nm.size≤maxLen)(hF:SlR w 2 fldR ao n cap fs):
  Calls Tryd.prog 59 #[.agg #[.string nm,.slice ao n cap],.string name] w fun e w' =>e= .returned (.tuple #[.int .i64 (fieldX nm fs name),.int .i64 (fieldK nm fs name),.int .i64 (fieldE nm fs name)])∧Below w.heap.size w w' :=by
 have hnl:=hF.len
 have hle:=hF.le
 have NL:Hid (n=fs.length):=hnl
 clear hnl
 have hF1:=hF.mono fldR_stays (Joins.below_alloc1 w (.cells #[.string nm,.slice ao n cap] 38))
 by_cases hz:typE nm fs=0
 ·have hz1:(typE nm fs !=0)=false:=by simp[hz]
  have H:Hid (typE nm fs=0):=hz;clear hz
  go_enter Tryd.func59,Tryd.ntmps59
  go_wp2_with fail
  refine(checkType_any nm ao n cap fs _ hnm hF1).mono ?_
  rintro e w1 ⟨rfl,hb1⟩
  obtain⟨hc_w1,hf_w1⟩:=bcell hb1;have hs_w1:=hb1.size;(try simp only[World.size_alloc,World.size_drew,World.size_setCell]at hs_w1);have z0_w1:w.heap.size<w1.heap.size:=(by omega)
  have hF2:=hF1.mono fldR_stays hb1
  go_wp2_with fail
  go_loopw [18] (fun i wr=> ∃ k:Nat,k≤n∧i= .int .i64 k∧NoFld fs name k∧Below w1.heap.size w1 wr) (fun i _=>n - (intOf i).toNat)
  case atStart=>exact⟨0,by omega,rfl,noFld_zero _ _,Below.refl _ _⟩
  case round=>
   obtain⟨k,hk,rfl,hno,hbr⟩:=hrel
   obtain⟨hc_wr,hf_wr⟩:=bcell hbr;have hs_wr:=hbr.size;have z0_wr:w.heap.size<wr.heap.size:=(by omega)
   have hFr:=hF2.mono fldR_stays hbr
   by_cases hlt:k<n
   ·obtain⟨b,off,row,hix,hblt,hrow,hrr,hfn⟩:=hFr.index (P:=Tryd.prog) Tryd.underlying36 size_field (i:=k) (by have:=NL.out;omega)
    subst hrr
    obtain⟨c0,c1⟩:=hrow.two
    have hkl:k<fs.length:=by have:=NL.out;omega
    have hgd:Hid (fs.getD k default=fs[k]):=fldE_of fs k hkl
    cases hsm:(fs[k].name.toList==name.toList)with
    |true=>
     have hat:Hid (fldAt fs name=k):=fldAt_of hno hkl hsm
     go_wp2_with fail
     go_quiet (fail)
     go_wp2
     go_ret3
     have he:fieldE nm fs name=0:=by unfold fieldE;rw[if_pos H.out,hat.out,if_pos hkl]
     exact⟨ret_iii (by simp[fieldX,he,hat.out]) (by simp only[fieldK,he,hat.out,hgd.out];simp) he.symm,(by repeat(first|exact Below.refl _ _|refine below_step ?_ (by assumption)|refine below_step ?_ (Joins.below_draws _ _ _)|(refine Below.alloc ?_ (by omega) _)))⟩
    |false=>
     go_wp2
     go_roundw
     case rel=>exact⟨k+1,by omega,by go_num,noFld_succ hno hkl hsm,hbr.trans ((Joins.below_alloc1 _ _).mono hbr.size)⟩
     case measure=>simp[intOf];omega
   ·go_wp2
    go_ret3
    have hkn:k=fs.length:=by have:=NL.out;omega
    subst hkn
    have he:fieldE nm fs name=6:=by unfold fieldE;rw[if_pos H.out,fldAt_none hno,if_neg (by omega)]
    exact⟨ret_iii (by simp[fieldX,he]) (by simp[fieldK,he]) he.symm,(by repeat(first|exact Below.refl _ _|refine below_step ?_ (by assumption)|(refine Below.alloc ?_ (by omega) _)))⟩
 ·have hz1:(typE nm fs !=0)=true:=by simp[hz]
  have H:Hid (¬ typE nm fs=0):=hz;clear hz
  go_enter Tryd.func59,Tryd.ntmps59
  go_wp2_with fail
  refine(checkType_any nm ao n cap fs _ hnm hF1).mono ?_
  rintro e w1 ⟨rfl,hb1⟩
  go_wp2
  go_ret3
  have he:fieldE nm fs name=typE nm fs:=by unfold fieldE;rw[if_neg H.out]
  exact⟨ret_iii (by simp[fieldX,he,H.out]) (by simp[fieldK,he,H.out]) he.symm,(by repeat(first|exact Below.refl _ _|refine below_step ?_ (by assumption)|(refine Below.alloc ?_ (by omega) _)))⟩
def atI(fs:List Fld)(name:ByteArray):Int:=if fldAt fs name<fs.length then(fldAt fs name:Nat)else -1
set_option maxHeartbeats 1000000 in
theorem fieldAt_any(nm:ByteArray)(ao:Option Addr)(n cap:Nat)(fs:List Fld)(name:ByteArray)(w:World)(hF:SlR w 2 fldR ao n cap fs):
  Calls Tryd.prog 71 #[.agg #[.string nm,.slice ao n cap],.string name] w fun e w' =>e= .returned (.int .i64 (atI fs name))∧Below w.heap.size w w' :=by
 have hnl:=hF.len
 have hle:=hF.le
 have NL:Hid (n=fs.length):=hnl
 clear hnl
 have hF1:=hF.mono fldR_stays (Joins.below_alloc1 w (.cells #[.string nm,.slice ao n cap] 38))
 go_enter Tryd.func71,Tryd.ntmps71
 go_wp2_with fail
 go_loop [5] (fun i=> ∃ k:Nat,k≤n∧i= .int .i64 k∧NoFld fs name k) (fun i=>n - (intOf i).toNat)
 case atStart=>exact⟨0,by omega,rfl,noFld_zero _ _⟩
 case round=>
  obtain⟨k,hk,rfl,hno⟩:=hrel
  by_cases hlt:k<n
  ·obtain⟨b,off,row,hix,hblt,hrow,hrr,hfn⟩:=hF1.index (P:=Tryd.prog) Tryd.underlying36 size_field (i:=k) (by have:=NL.out;omega)
   subst hrr
   obtain⟨c0,c1⟩:=hrow.two
   have hkl:k<fs.length:=by have:=NL.out;omega
   cases hsm:(fs[k].name.toList==name.toList)with
   |true=>
    have hat:Hid (fldAt fs name=k):=fldAt_of hno hkl hsm
    go_wp2
    go_ret
    exact⟨ret_int (by simp[atI,hat.out,hkl]),(by repeat(first|exact Below.refl _ _|(refine Below.alloc ?_ (by omega) _)))⟩
   |false=>
    go_wp2
    go_round
    case rel=>exact⟨k+1,by omega,by go_num,noFld_succ hno hkl hsm⟩
    case measure=>simp[intOf];omega
  ·go_wp2
   go_ret
   have hkn:k=fs.length:=by have:=NL.out;omega
   subst hkn
   exact⟨ret_int (by simp[atI,fldAt_none hno]),(by repeat(first|exact Below.refl _ _|(refine Below.alloc ?_ (by omega) _)))⟩
end Go.Proofs.YtcebfkdhicbmkaaDoor
