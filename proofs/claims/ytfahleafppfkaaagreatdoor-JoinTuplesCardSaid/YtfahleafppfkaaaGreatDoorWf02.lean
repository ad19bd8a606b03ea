/-
  The walks of package value and of its reference, fifth part: do values fit a type?
-/
import Derived.Test.YtfahleafppfkaaaGreatDoorWf01
import Derived.Lib.SmallJoins
import Derived.Test.YtfahleafppfkaaaGreatDoorProg
import Derived.Test.YtfahleafppfkaaaGreatDoorWf00
import Derived.Lib.Hide
import Derived.Handy
import Derived.WalkSpells
import Derived.WalkLawsBesides
namespace Go.Proofs.YtfahleafppfkaaaGreatDoor
open Go.RowKit
set_option linter.unusedVariables false
set_option linter.unusedSimpArgs false
def valsE(vs:List Val)(i:Nat):Int:=valE (vs.getD i default)
def kindE(vs:List Val)(fs:List Fld)(i:Nat):Int:=if(vs.getD i default).kind=(fs.getD i default).kind then 0 else 13
def fitE(nm:ByteArray)(fs:List Fld)(vs:List Val):Int:=
 if typE nm fs=0 then(if firstN (valsE vs) vs.length=0 then(if vs.length=fs.length then firstN (kindE vs fs) vs.length else 13)else firstN (valsE vs) vs.length)else typE nm fs
theorem vals_getD(vs:List Val)(i:Nat)(hi:i<vs.length):vs.getD i default=vs[i]:=by simp[List.getD,List.getElem?_eq_getElem hi]
set_option maxHeartbeats 2000000 in
theorem fit_any(nm:ByteArray)(ao:Option Addr)(n cap:Nat)(fs:List Fld)(vo:Option Addr)(m vcap:Nat)(vs:List Val)(w:World)(hnm:nm.size≤maxLen)(hF:SlR w 2 fldR ao n cap fs)(hV:SlR w 3 valR vo m vcap vs):
  Calls Tryz.prog 42 #[.agg #[.string nm,.slice ao n cap],.slice vo m vcap] w fun e w' =>e= .returned (.int .i64 (fitE nm fs vs))∧Below w.heap.size w w' :=by
 have NL:Hid (n=fs.length):=hF.len
 have ML:Hid (m=vs.length):=hV.len
 have hle:=hF.le
 have hvle:=hV.le
 have hF1:=hF.mono fldR_stays (Joins.below_alloc1 w (.cells #[.string nm,.slice ao n cap] 69))
 have hV1:=hV.mono valR_stays (Joins.below_alloc1 w (.cells #[.string nm,.slice ao n cap] 69))
 by_cases hz:typE nm fs=0
 ·have hz1:(typE nm fs !=0)=false:=by simp[hz]
  have H:Hid (typE nm fs=0):=hz;clear hz
  go_enter Tryz.func42,Tryz.ntmps42
  go_wp2_with fail
  refine(checkType_any nm ao n cap fs _ hnm hF1).mono ?_
  rintro e w1 ⟨rfl,hb1⟩
  obtain⟨hc_w1,hf_w1⟩:=bcell hb1;have hs_w1:=hb1.size;(try simp only[World.size_alloc,World.size_drew,World.size_setCell]at hs_w1);have z0_w1:w.heap.size<w1.heap.size:=(by omega)
  have hF2:=hF1.mono fldR_stays hb1
  have hV2:=hV1.mono valR_stays hb1
  go_wp2_with fail
  go_loopw [18] (fun i wr=> ∃ k:Nat,k≤m∧i= .int .i64 k∧AllZ (valsE vs) k∧Below w1.heap.size w1 wr) (fun i _=>m - (intOf i).toNat)
  case atStart=>exact⟨0,by omega,rfl,allZ_zero _,Below.refl _ _⟩
  case round=>
   obtain⟨k,hk,rfl,haz,hbr⟩:=hrel
   obtain⟨hc_wr,hf_wr⟩:=bcell hbr;have hs_wr:=hbr.size;have z0_wr:w.heap.size<wr.heap.size:=(by omega)
   have hFr:=hF2.mono fldR_stays hbr
   have hVr:=hV2.mono valR_stays hbr
   by_cases hlt:k<m
   ·obtain⟨b,off,row,hix,hblt,hrow,hrr,hvn⟩:=hVr.index (P:=Tryz.prog) Tryz.underlying63 size_value (i:=k) (by have:=ML.out;omega)
    subst hrr
    obtain⟨c0,c1,c2⟩:=hrow.three
    have hkl:k<vs.length:=by have:=ML.out;omega
    have hgd:Hid (valsE vs k=valE vs[k]):=by show valsE vs k=_;unfold valsE;rw[vals_getD vs k hkl]
    by_cases hnz:valE vs[k]=0
    ·have hnz1:(valE vs[k]!=0)=false:=by simp[hnz]
     have N:Hid (valE vs[k]=0):=hnz;clear hnz
     go_wp2_with fail
     refine(valCheck_any _ _ _ _ hvn).mono ?_
     rintro e w2 ⟨rfl,hb2⟩
     go_wp2
     go_roundw
     case rel=>exact⟨k+1,by omega,by go_num,allZ_succ haz (by rw[hgd.out];exact N.out),(by repeat(first|assumption|refine below_step ?_ (by assumption)|(refine Below.alloc ?_ (by omega) _)))⟩
     case measure=>simp[intOf];omega
    ·have hnz1:(valE vs[k]!=0)=true:=by simp[hnz]
     have N:Hid (¬ valE vs[k]=0):=hnz;clear hnz
     go_wp2_with fail
     refine(valCheck_any _ _ _ _ hvn).mono ?_
     rintro e w2 ⟨rfl,hb2⟩
     go_wp2
     go_ret
     have h2:=firstN_at haz hkl (by rw[hgd.out];exact N.out)
     rw[hgd.out]at h2
     exact⟨ret_int (by have:=N.out;simp[fitE,H.out,h2,this]),(by repeat(first|exact Below.refl _ _|refine below_step ?_ (by assumption)|(refine Below.alloc ?_ (by omega) _)))⟩
   ·have hkm:k=m:=by omega
    have VZ:Hid (firstN (valsE vs) vs.length=0):=by
     have:=ML.out
     have h1:k=vs.length:=by omega
     subst h1
     exact firstN_zero haz
    clear hlt
    by_cases hnm2:m=n
    ·have hne:((m:Int)!=(n:Int))=false:=by simp[hnm2]
     have EQ:Hid (m=n):=hnm2;clear hnm2
     have KM:Hid (k=m):=hkm
     have hge: ¬ (k:Int)<(m:Int):=by omega
     clear hkm
     obtain⟨wo,rfl⟩: ∃ wo:World,wo=wr:=⟨_,rfl⟩
     go_wp2_with fail
     go_loopw [36] (fun i wr=> ∃ j:Nat,j≤m∧i= .int .i64 j∧AllZ (kindE vs fs) j∧Below wo.heap.size wo wr) (fun i _=>m - (intOf i).toNat)
     case atStart=>exact⟨0,by omega,rfl,allZ_zero _,Below.refl _ _⟩
     case round=>
      obtain⟨j,hj,rfl,haz2,hbr2⟩:=hrel
      obtain⟨hc_wr,hf_wr⟩:=bcell hbr2;have hs_wr:=hbr2.size;have z0_wr:w.heap.size<wr.heap.size:=(by omega)
      have hFj:=hFr.mono fldR_stays hbr2
      have hVj:=hVr.mono valR_stays hbr2
      by_cases hjm:j<m
      ·have hjl:j<vs.length:=by have:=ML.out;omega
       have hjf:j<fs.length:=by have:=NL.out;have:=EQ.out;omega
       obtain⟨b,off,row,hix,hblt,hrow,hrr,hvn⟩:=hVj.index (P:=Tryz.prog) Tryz.underlying63 size_value hjl
       subst hrr
       obtain⟨c0,c1,c2⟩:=hrow.three
       obtain⟨b2,off2,row2,hix2,hblt2,hrow2,hrr2,hfn2⟩:=hFj.index (P:=Tryz.prog) Tryz.underlying67 size_field hjf
       subst hrr2
       obtain⟨d0,d1⟩:=hrow2.two
       have hjn:(j:Int)<(n:Int):=by have:=EQ.out;omega
       by_cases hkd:vs[j].kind=fs[j].kind
       ·have hkd1:(vs[j].kind !=fs[j].kind)=false:=by simp[hkd]
        have K0:Hid (kindE vs fs j=0):=by show kindE vs fs j=0;unfold kindE;rw[vals_getD vs j hjl,fldE_of fs j hjf,if_pos hkd]
        clear hkd
        go_wp2_with fail
        go_quiet (fail)
        go_wp2
        go_roundw
        case rel=>exact⟨j+1,by omega,by go_num,allZ_succ haz2 K0.out,(by repeat(first|assumption|refine below_step ?_ (Joins.below_draws _ _ _)|(refine Below.alloc ?_ (by omega) _)))⟩
        case measure=>simp[intOf];omega
       ·have hkd1:(vs[j].kind !=fs[j].kind)=true:=by simp[hkd]
        have K0:Hid (kindE vs fs j=13):=by show kindE vs fs j=13;unfold kindE;rw[vals_getD vs j hjl,fldE_of fs j hjf,if_neg hkd]
        clear hkd
        go_wp2_with fail
        go_quiet (fail)
        go_wp2
        go_ret
        have h2:=firstN_at haz2 hjl (by rw[K0.out];omega)
        rw[K0.out]at h2
        exact⟨ret_int (by have:=NL.out;have:=ML.out;have:=EQ.out;simp[fitE,H.out,VZ.out,h2];try omega),(by repeat(first|exact Below.refl _ _|refine below_step ?_ (by assumption)|refine below_step ?_ (Joins.below_draws _ _ _)|(refine Below.alloc ?_ (by omega) _)))⟩
      ·go_wp2
       go_ret
       have h1:j=vs.length:=by have:=ML.out;omega
       subst h1
       exact⟨ret_int (by have:=NL.out;have:=ML.out;have:=EQ.out;simp[fitE,H.out,VZ.out,firstN_zero haz2];try omega),(by repeat(first|exact Below.refl _ _|refine below_step ?_ (by assumption)|(refine Below.alloc ?_ (by omega) _)))⟩
    ·have hne:((m:Int)!=(n:Int))=true:=by rw[bne_iff_ne];omega
     have EQ:Hid (¬ m=n):=hnm2;clear hnm2
     have hge: ¬ (k:Int)<(m:Int):=by omega
     clear hkm
     go_wp2
     go_ret
     exact⟨ret_int (by have:=NL.out;have:=ML.out;have:=EQ.out;simp[fitE,H.out,VZ.out];try omega),(by repeat(first|exact Below.refl _ _|refine below_step ?_ (by assumption)|(refine Below.alloc ?_ (by omega) _)))⟩
 ·have hz1:(typE nm fs !=0)=true:=by simp[hz]
  have H:Hid (¬ typE nm fs=0):=hz;clear hz
  go_enter Tryz.func42,Tryz.ntmps42
  go_wp2_with fail
  refine(checkType_any nm ao n cap fs _ hnm hF1).mono ?_
  rintro e w1 ⟨rfl,hb1⟩
  go_wp2
  go_ret
  exact⟨ret_int (by simp[fitE,H.out]),(by repeat(first|exact Below.refl _ _|refine below_step ?_ (by assumption)|(refine Below.alloc ?_ (by omega) _)))⟩
set_option maxHeartbeats 2000000 in
theorem fitFault_any(nm:ByteArray)(ao:Option Addr)(n cap:Nat)(fs:List Fld)(vo:Option Addr)(m vcap:Nat)(vs:List Val)(w:World)(hnm:nm.size≤maxLen)(hF:SlR w 2 fldR ao n cap fs)(hV:SlR w 3 valR vo m vcap vs):
  Calls Tryz.prog 50 #[.agg #[.string nm,.slice ao n cap],.slice vo m vcap] w fun e w' =>e= .returned (.int .i64 (fitE nm fs vs))∧Below w.heap.size w w' :=by
 have NL:Hid (n=fs.length):=hF.len
 have ML:Hid (m=vs.length):=hV.len
 have hle:=hF.le
 have hvle:=hV.le
 have hF1:=hF.mono fldR_stays (Joins.below_alloc1 w (.cells #[.string nm,.slice ao n cap] 69))
 have hV1:=hV.mono valR_stays (Joins.below_alloc1 w (.cells #[.string nm,.slice ao n cap] 69))
 by_cases hz:typE nm fs=0
 ·have H:Hid (typE nm fs=0):=hz;clear hz
  go_enter Tryz.func50,Tryz.ntmps50
  go_wp2_with fail
  refine(typeFault_any nm ao n cap fs _ hnm hF1).mono ?_
  rintro e w1 ⟨rfl,hb1⟩
  obtain⟨hc_w1,hf_w1⟩:=bcell hb1;have hs_w1:=hb1.size;(try simp only[World.size_alloc,World.size_drew,World.size_setCell]at hs_w1);have z0_w1:w.heap.size<w1.heap.size:=(by omega)
  have hF2:=hF1.mono fldR_stays hb1
  have hV2:=hV1.mono valR_stays hb1
  go_wp2_with fail
  go_loopw [5,6] (fun e i wr=> ∃ k:Nat,k≤m∧e= .int .i64 (firstN (valsE vs) k)∧i= .int .i64 k∧Below w1.heap.size w1 wr) (fun _ i _=>m - (intOf i).toNat)
  case atStart=>exact⟨0,by omega,by rw[H.out];rfl,rfl,Below.refl _ _⟩
  case round=>
   obtain⟨k,hk,rfl,rfl,hbr⟩:=hrel
   obtain⟨hc_wr,hf_wr⟩:=bcell hbr;have hs_wr:=hbr.size;have z0_wr:w.heap.size<wr.heap.size:=(by omega)
   have hFr:=hF2.mono fldR_stays hbr
   have hVr:=hV2.mono valR_stays hbr
   by_cases hgo:k<m∧firstN (valsE vs) k=0
   ·obtain⟨hlt,hfz⟩:=hgo
    have hfz1:(firstN (valsE vs) k==0)=true:=by simp[hfz]
    have FZ:Hid (firstN (valsE vs) k=0):=hfz;clear hfz
    obtain⟨b,off,row,hix,hblt,hrow,hrr,hvn⟩:=hVr.index (P:=Tryz.prog) Tryz.underlying63 size_value (i:=k) (by have:=ML.out;omega)
    subst hrr
    obtain⟨c0,c1,c2⟩:=hrow.three
    have hkl:k<vs.length:=by have:=ML.out;omega
    have hgd:Hid (valsE vs k=valE vs[k]):=by show valsE vs k=_;unfold valsE;rw[vals_getD vs k hkl]
    go_wp2_with fail
    refine(valFault_any _ _ _ _ hvn).mono ?_
    rintro e w2 ⟨rfl,hb2⟩
    go_wp2
    go_roundw
    case rel=>exact⟨k+1,by omega,by rw[firstN_succ FZ.out hgd.out],by go_num,(by repeat(first|assumption|refine below_step ?_ (by assumption)))⟩
    case measure=>simp[intOf];omega
   ·have hend:k=m∨firstN (valsE vs) k≠0:=by omega
    have EN:Hid (firstN (valsE vs) k=firstN (valsE vs) vs.length):=by
     have h1:=ML.out
     show firstN (valsE vs) k=_
     rw[firstN_end hk hend,h1]
    have hstop:((k:Int)<(m:Int))→(firstN (valsE vs) k==0)=false:=by
     intro h;rw[beq_eq_false_iff_ne];omega
    by_cases hv0:firstN (valsE vs) k=0
    ·have hkm: ¬ (k:Int)<(m:Int):=by omega
     have hv1:(firstN (valsE vs) k !=0)=false:=by simp[hv0]
     have VZ:Hid (firstN (valsE vs) vs.length=0):=by show _=_;rw[←EN.out];exact hv0
     clear hv0 hgo hend hstop
     by_cases hnm2:m=n
     ·have hne:((m:Int)!=(n:Int))=false:=by simp[hnm2]
      have EQ:Hid (m=n):=hnm2;clear hnm2
      obtain⟨wo,rfl⟩: ∃ wo:World,wo=wr:=⟨_,rfl⟩
      go_wp2_with fail
      go_loopw [7] (fun i wr=> ∃ j:Nat,j≤m∧i= .int .i64 j∧AllZ (kindE vs fs) j∧Below wo.heap.size wo wr) (fun i _=>m - (intOf i).toNat)
      case atStart=>exact⟨0,by omega,rfl,allZ_zero _,Below.refl _ _⟩
      case round=>
       obtain⟨j,hj,rfl,haz2,hbr2⟩:=hrel
       obtain⟨hc_wr,hf_wr⟩:=bcell hbr2;have hs_wr:=hbr2.size;have z0_wr:w.heap.size<wr.heap.size:=(by omega)
       have hFj:=hFr.mono fldR_stays hbr2
       have hVj:=hVr.mono valR_stays hbr2
       by_cases hjm:j<m
       ·have hjl:j<vs.length:=by have:=ML.out;omega
        have hjf:j<fs.length:=by have:=NL.out;have:=EQ.out;omega
        obtain⟨b,off,row,hix,hblt,hrow,hrr,hvn⟩:=hVj.index (P:=Tryz.prog) Tryz.underlying63 size_value hjl
        subst hrr
        obtain⟨c0,c1,c2⟩:=hrow.three
        obtain⟨b2,off2,row2,hix2,hblt2,hrow2,hrr2,hfn2⟩:=hFj.index (P:=Tryz.prog) Tryz.underlying67 size_field hjf
        subst hrr2
        obtain⟨d0,d1⟩:=hrow2.two
        have hjn:(j:Int)<(n:Int):=by have:=EQ.out;omega
        by_cases hkd:vs[j].kind=fs[j].kind
        ·have hkd1:(vs[j].kind !=fs[j].kind)=false:=by simp[hkd]
         have K0:Hid (kindE vs fs j=0):=by show kindE vs fs j=0;unfold kindE;rw[vals_getD vs j hjl,fldE_of fs j hjf,if_pos hkd]
         clear hkd
         go_wp2_with fail
         go_quiet (fail)
         go_wp2
         go_roundw
         case rel=>exact⟨j+1,by omega,by go_num,allZ_succ haz2 K0.out,(by repeat(first|assumption|refine below_step ?_ (Joins.below_draws _ _ _)))⟩
         case measure=>simp[intOf];omega
        ·have hkd1:(vs[j].kind !=fs[j].kind)=true:=by simp[hkd]
         have K0:Hid (kindE vs fs j=13):=by show kindE vs fs j=13;unfold kindE;rw[vals_getD vs j hjl,fldE_of fs j hjf,if_neg hkd]
         clear hkd
         go_wp2_with fail
         go_quiet (fail)
         go_wp2
         go_ret
         have h2:=firstN_at haz2 hjl (by rw[K0.out];omega)
         rw[K0.out]at h2
         exact⟨ret_int (by have:=NL.out;have:=ML.out;have:=EQ.out;simp[fitE,H.out,VZ.out,h2];try omega),(by repeat(first|exact Below.refl _ _|refine below_step ?_ (by assumption)|refine below_step ?_ (Joins.below_draws _ _ _)|(refine Below.alloc ?_ (by omega) _)))⟩
       ·go_wp2
        go_ret
        have h1:j=vs.length:=by have:=ML.out;omega
        subst h1
        exact⟨ret_int (by have:=NL.out;have:=ML.out;have:=EQ.out;simp[fitE,H.out,VZ.out,firstN_zero haz2];try omega),(by repeat(first|exact Below.refl _ _|refine below_step ?_ (by assumption)|(refine Below.alloc ?_ (by omega) _)))⟩
     ·have hne:((m:Int)!=(n:Int))=true:=by rw[bne_iff_ne];omega
      have EQ:Hid (¬ m=n):=hnm2;clear hnm2
      go_wp2
      go_ret
      exact⟨ret_int (by have:=NL.out;have:=ML.out;have:=EQ.out;simp[fitE,H.out,VZ.out];try omega),(by repeat(first|exact Below.refl _ _|refine below_step ?_ (by assumption)|(refine Below.alloc ?_ (by omega) _)))⟩
    ·have hv1:(firstN (valsE vs) k !=0)=true:=by simp[hv0]
     have hv2:(firstN (valsE vs) k==0)=false:=by simp[hv0]
     have VZ:Hid (¬ firstN (valsE vs) vs.length=0):=by show ¬ _=_;rw[←EN.out];exact hv0
     clear hv0 hgo hend hstop
     by_cases hkm:(k:Int)<(m:Int)
     ·go_wp2
      go_ret
      exact⟨ret_int (by rw[EN.out];simp[fitE,H.out,VZ.out]),(by repeat(first|exact Below.refl _ _|refine below_step ?_ (by assumption)|(refine Below.alloc ?_ (by omega) _)))⟩
     ·go_wp2
      go_ret
      exact⟨ret_int (by rw[EN.out];simp[fitE,H.out,VZ.out]),(by repeat(first|exact Below.refl _ _|refine below_step ?_ (by assumption)|(refine Below.alloc ?_ (by omega) _)))⟩
 ·have hz1:(typE nm fs !=0)=true:=by simp[hz]
  have hz2:(typE nm fs==0)=false:=by simp[hz]
  have H:Hid (¬ typE nm fs=0):=hz;clear hz
  go_enter Tryz.func50,Tryz.ntmps50
  go_wp2_with fail
  refine(typeFault_any nm ao n cap fs _ hnm hF1).mono ?_
  rintro e w1 ⟨rfl,hb1⟩
  go_wp2_with fail
  go_loopw [5,6] (fun e i wr=>e= .int .i64 (typE nm fs)∧i= .int .i64 0∧wr=w1) (fun _ _ _=>0)
  case atStart=>exact⟨rfl,rfl,rfl⟩
  case round=>
   obtain⟨rfl,rfl,rfl⟩:=hrel
   by_cases hm0:0<m
   ·go_wp2
    go_ret
    exact⟨ret_int (by simp[fitE,H.out]),(by repeat(first|exact Below.refl _ _|refine below_step ?_ (by assumption)|(refine Below.alloc ?_ (by omega) _)))⟩
   ·go_wp2
    go_ret
    exact⟨ret_int (by simp[fitE,H.out]),(by repeat(first|exact Below.refl _ _|refine below_step ?_ (by assumption)|(refine Below.alloc ?_ (by omega) _)))⟩
end Go.Proofs.YtfahleafppfkaaaGreatDoor
/-
  The walks of package value and of its reference, fourth part: the fields of a type.
-/
namespace Go.Proofs.YtfahleafppfkaaaGreatDoor
open Go.RowKit
set_option linter.unusedVariables false
set_option linter.unusedSimpArgs false
def fldAt(fs:List Fld)(name:ByteArray):Nat:=fs.findIdx (fun f=>sameS f.name name)
def NoFld(fs:List Fld)(name:ByteArray)(k:Nat):Prop:= ∀ j (h:j<fs.length),j<k→sameS fs[j].name name=false
theorem noFld_zero(fs:List Fld)(name:ByteArray):NoFld fs name 0:=fun j _ h=>absurd h (Nat.not_lt_zero j)
theorem noFld_succ{fs:List Fld}{name:ByteArray}{k:Nat}(h:NoFld fs name k)(hk:k<fs.length)(hs:sameS fs[k].name name=false):NoFld fs name (k+1):=fun j hj hjk=>by
 rcases Nat.lt_succ_iff_lt_or_eq.1 hjk with h' |rfl
 ·exact h j hj h'
 ·exact hs
theorem fldAt_of{fs:List Fld}{name:ByteArray}{k:Nat}(h:NoFld fs name k)(hk:k<fs.length)(hs:sameS fs[k].name name=true):fldAt fs name=k:=by
 unfold fldAt
 rw[List.findIdx_eq hk]
 exact⟨hs,fun j hj=>h j (by omega) hj⟩
theorem fldAt_none{fs:List Fld}{name:ByteArray}(h:NoFld fs name fs.length):fldAt fs name=fs.length:=by
 unfold fldAt
 rw[List.findIdx_eq_length]
 intro f hf
 obtain⟨j,hj,rfl⟩:=List.mem_iff_getElem.1 hf
 exact h j hj hj
def fieldE(nm:ByteArray)(fs:List Fld)(name:ByteArray):Int:=if typE nm fs=0 then(if fldAt fs name<fs.length then 0 else 6)else typE nm fs
def fieldX(nm:ByteArray)(fs:List Fld)(name:ByteArray):Int:=if fieldE nm fs name=0 then(fldAt fs name:Nat)else 0
def fieldK(nm:ByteArray)(fs:List Fld)(name:ByteArray):Int:=if fieldE nm fs name=0 then(fs.getD (fldAt fs name) default).kind else 0
theorem ret_iii{k k' k'' :IntKind}{a b c d e f:Int}(h:a=d)(h' :b=e)(h'' :c=f):Ending.returned (.tuple #[.int k a,.int k' b,.int k'' c])= .returned (.tuple #[.int k d,.int k' e,.int k'' f]):=by rw[h,h',h'']
set_option maxHeartbeats 1000000 in
theorem field_any(nm:ByteArray)(ao:Option Addr)(n cap:Nat)(fs:List Fld)(name:ByteArray)(w:World)(hnm:nm.size≤maxLen)(hF:SlR w 2 fldR ao n cap fs):
  Calls Tryz.prog 132 #[.agg #[.string nm,.slice ao n cap],.string name] w fun e w' =>e= .returned (.tuple #[.int .i64 (fieldX nm fs name),.int .i64 (fieldK nm fs name),.int .i64 (fieldE nm fs name)])∧Below w.heap.size w w' :=by
 have hnl:=hF.len
 have hle:=hF.le
 have NL:Hid (n=fs.length):=hnl
 clear hnl
 have hF1:=hF.mono fldR_stays (Joins.below_alloc1 w (.cells #[.string nm,.slice ao n cap] 69))
 by_cases hz:typE nm fs=0
 ·have hz1:(typE nm fs !=0)=false:=by simp[hz]
  have H:Hid (typE nm fs=0):=hz;clear hz
  go_enter Tryz.func132,Tryz.ntmps132
  go_wp2_with fail
  refine(checkType_any nm ao n cap fs _ hnm hF1).mono ?_
  rintro e w1 ⟨rfl,hb1⟩
  obtain⟨hc_w1,hf_w1⟩:=bcell hb1;have hs_w1:=hb1.size;(try simp only[World.size_alloc,World.size_drew,World.size_setCell]at hs_w1);have z0_w1:w.heap.size<w1.heap.size:=(by omega)
  have hF2:=hF1.mono fldR_stays hb1
  go_wp2_with fail
  go_loopw [18] (fun i wr=> ∃ k:Nat,k≤n∧i= .int .i64 k∧NoFld fs name k∧Below w1.heap.size w1 wr) (fun i _=>n - (intOf i).toNat)
  case atStart=>exact⟨0,by omega,rfl,noFld_zero _ _,Below.refl _ _⟩
  case round=>
   obtain⟨k,hk,rfl,hno,hbr⟩:=hrel
   obtain⟨hc_wr,hf_wr⟩:=bcell hbr;have hs_wr:=hbr.size;have z0_wr:w.heap.size<wr.heap.size:=(by omega)
   have hFr:=hF2.mono fldR_stays hbr
   by_cases hlt:k<n
   ·obtain⟨b,off,row,hix,hblt,hrow,hrr,hfn⟩:=hFr.index (P:=Tryz.prog) Tryz.underlying67 size_field (i:=k) (by have:=NL.out;omega)
    subst hrr
    obtain⟨c0,c1⟩:=hrow.two
    have hkl:k<fs.length:=by have:=NL.out;omega
    have hgd:Hid (fs.getD k default=fs[k]):=fldE_of fs k hkl
    cases hsm:(fs[k].name.toList==name.toList)with
    |true=>
     have hat:Hid (fldAt fs name=k):=fldAt_of hno hkl hsm
     go_wp2_with fail
     go_quiet (fail)
     go_wp2
     go_ret3
     have he:fieldE nm fs name=0:=by unfold fieldE;rw[if_pos H.out,hat.out,if_pos hkl]
     exact⟨ret_iii (by simp[fieldX,he,hat.out]) (by simp only[fieldK,he,hat.out,hgd.out];simp) he.symm,(by repeat(first|exact Below.refl _ _|refine below_step ?_ (by assumption)|refine below_step ?_ (Joins.below_draws _ _ _)|(refine Below.alloc ?_ (by omega) _)))⟩
    |false=>
     go_wp2
     go_roundw
     case rel=>exact⟨k+1,by omega,by go_num,noFld_succ hno hkl hsm,hbr.trans ((Joins.below_alloc1 _ _).mono hbr.size)⟩
     case measure=>simp[intOf];omega
   ·go_wp2
    go_ret3
    have hkn:k=fs.length:=by have:=NL.out;omega
    subst hkn
    have he:fieldE nm fs name=6:=by unfold fieldE;rw[if_pos H.out,fldAt_none hno,if_neg (by omega)]
    exact⟨ret_iii (by simp[fieldX,he]) (by simp[fieldK,he]) he.symm,(by repeat(first|exact Below.refl _ _|refine below_step ?_ (by assumption)|(refine Below.alloc ?_ (by omega) _)))⟩
 ·have hz1:(typE nm fs !=0)=true:=by simp[hz]
  have H:Hid (¬ typE nm fs=0):=hz;clear hz
  go_enter Tryz.func132,Tryz.ntmps132
  go_wp2_with fail
  refine(checkType_any nm ao n cap fs _ hnm hF1).mono ?_
  rintro e w1 ⟨rfl,hb1⟩
  go_wp2
  go_ret3
  have he:fieldE nm fs name=typE nm fs:=by unfold fieldE;rw[if_neg H.out]
  exact⟨ret_iii (by simp[fieldX,he,H.out]) (by simp[fieldK,he,H.out]) he.symm,(by repeat(first|exact Below.refl _ _|refine below_step ?_ (by assumption)|(refine Below.alloc ?_ (by omega) _)))⟩
def atI(fs:List Fld)(name:ByteArray):Int:=if fldAt fs name<fs.length then(fldAt fs name:Nat)else -1
set_option maxHeartbeats 1000000 in
theorem fieldAt_any(nm:ByteArray)(ao:Option Addr)(n cap:Nat)(fs:List Fld)(name:ByteArray)(w:World)(hF:SlR w 2 fldR ao n cap fs):
  Calls Tryz.prog 54 #[.agg #[.string nm,.slice ao n cap],.string name] w fun e w' =>e= .returned (.int .i64 (atI fs name))∧Below w.heap.size w w' :=by
 have hnl:=hF.len
 have hle:=hF.le
 have NL:Hid (n=fs.length):=hnl
 clear hnl
 have hF1:=hF.mono fldR_stays (Joins.below_alloc1 w (.cells #[.string nm,.slice ao n cap] 69))
 go_enter Tryz.func54,Tryz.ntmps54
 go_wp2_with fail
 go_loop [5] (fun i=> ∃ k:Nat,k≤n∧i= .int .i64 k∧NoFld fs name k) (fun i=>n - (intOf i).toNat)
 case atStart=>exact⟨0,by omega,rfl,noFld_zero _ _⟩
 case round=>
  obtain⟨k,hk,rfl,hno⟩:=hrel
  by_cases hlt:k<n
  ·obtain⟨b,off,row,hix,hblt,hrow,hrr,hfn⟩:=hF1.index (P:=Tryz.prog) Tryz.underlying67 size_field (i:=k) (by have:=NL.out;omega)
   subst hrr
   obtain⟨c0,c1⟩:=hrow.two
   have hkl:k<fs.length:=by have:=NL.out;omega
   cases hsm:(fs[k].name.toList==name.toList)with
   |true=>
    have hat:Hid (fldAt fs name=k):=fldAt_of hno hkl hsm
    go_wp2
    go_ret
    exact⟨ret_int (by simp[atI,hat.out,hkl]),(by repeat(first|exact Below.refl _ _|(refine Below.alloc ?_ (by omega) _)))⟩
   |false=>
    go_wp2
    go_round
    case rel=>exact⟨k+1,by omega,by go_num,noFld_succ hno hkl hsm⟩
    case measure=>simp[intOf];omega
  ·go_wp2
   go_ret
   have hkn:k=fs.length:=by have:=NL.out;omega
   subst hkn
   exact⟨ret_int (by simp[atI,fldAt_none hno]),(by repeat(first|exact Below.refl _ _|(refine Below.alloc ?_ (by omega) _)))⟩
end Go.Proofs.YtfahleafppfkaaaGreatDoor
/-
  The walks of tick.CheckOption and of the reference's OptionFault.
-/
namespace Go.Proofs.YtfahleafppfkaaaGreatDoor
open Go.RowKit
set_option linter.unusedVariables false
set_option linter.unusedSimpArgs false
def optE(r l h:Int):Int:=if 1≤r∧r≤13 then(if(0≤l∧l≤1073741824)∧(-1≤h∧h≤1073741824)then(if h≠ -1∧h<l then 11 else 0)else 2)else 3
theorem ret_int' {k:IntKind}{a b:Int}(h:a=b):Ending.returned (.int k a)= .returned (.int k b):=by rw[h]
theorem ret_bool' {a b:Bool}(h:a=b):Ending.returned (.bool a)= .returned (.bool b):=by rw[h]
set_option maxHeartbeats 400000 in
theorem optCheck_any(r l h:Int)(w:World):
  Calls Tryz.prog 120 #[.agg #[.int .i64 r,.int .i64 l,.int .i64 h]] w fun e w' =>e= .returned (.int .i64 (optE r l h))∧Below w.heap.size w w' :=by
 go_enter Tryz.func120,Tryz.ntmps120
 go_wp2
 all_goals(go_ret;refine⟨?_,(by repeat(first|exact Below.refl _ _|(refine Below.alloc ?_ (by omega) _)))⟩;exact ret_int' (by go_light;unfold optE;(try simp only[Bool.not_eq_true',Bool.not_eq_false',decide_eq_true_eq,decide_eq_false_iff_not]at *);(repeat' split)<;>omega))
set_option maxHeartbeats 400000 in
theorem optFault_any(r l h:Int)(w:World):
  Calls Tryz.prog 148 #[.agg #[.int .i64 r,.int .i64 l,.int .i64 h]] w fun e w' =>e= .returned (.int .i64 (optE r l h))∧Below w.heap.size w w' :=by
 by_cases hh:h= -1
 ·subst hh
  go_enter Tryz.func148,Tryz.ntmps148
  go_wp2
  all_goals(go_ret;refine⟨?_,(by repeat(first|exact Below.refl _ _|(refine Below.alloc ?_ (by omega) _)))⟩;exact ret_int' (by go_light;unfold optE;(try simp only[Bool.not_eq_true',Bool.not_eq_false',decide_eq_true_eq,decide_eq_false_iff_not]at *);(repeat' split)<;>omega))
 ·have hb:(h != -1)=true:=by rw[bne_iff_ne];exact hh
  go_enter Tryz.func148,Tryz.ntmps148
  go_wp2
  all_goals(go_ret;refine⟨?_,(by repeat(first|exact Below.refl _ _|(refine Below.alloc ?_ (by omega) _)))⟩;exact ret_int' (by go_light;unfold optE;(try simp only[Bool.not_eq_true',Bool.not_eq_false',decide_eq_true_eq,decide_eq_false_iff_not]at *);(repeat' split)<;>omega))
end Go.Proofs.YtfahleafppfkaaaGreatDoor
/-
  Lists of strings in memory; the tables of the program's words as such; slices.Index and slices.Contains at strings, walked.
-/
namespace Go.Proofs.YtfahleafppfkaaaGreatDoor
open Go.RowKit
set_option linter.unusedVariables false
set_option linter.unusedSimpArgs false
def wordF:(Nat→Prop)→World→List Value→ByteArray→Prop:=plainF fun s=>[.string s]
theorem wordF_firm:Firm wordF:=plainF_firm _
theorem wordF_one{F:Nat→Prop}{w:World}{row:List Value}{s:ByteArray}(h:wordF F w row s):row=[.string s]:=h
theorem size_word:SizeIs Tryz.prog 9 1:=fun w=>by kernel_rfl
theorem RowAt.one{w:World}{b o:Nat}{x:Value}(h:RowAt w b o 1 [x]):w.cell? ⟨b,o,none⟩=some x:=h.2 0 (by omega)
theorem words_cells{F:Nat→Prop}{w:World}{g n:Nat}{xs:List ByteArray}(hF:F g)(hlt:g<w.heap.size)(hn:xs.length=n)(hm:n≤1000)(h: ∀ i (h:i<xs.length),w.cell? ⟨g,i,none⟩=some (.string xs[i])):SlF F w 1 wordF (some ⟨g,0,none⟩) n n xs:=by
 subst hn
 refine⟨rfl,Nat.le_refl _,by unfold maxLen;omega,by simp,fun i hi=>⟨g,0,[.string xs[i]],rfl,hF,hlt,⟨rfl,fun j hj=>?_⟩,rfl⟩⟩
 obtain rfl:j=0:=by omega
 simpa using h i hi
def keptL:List ByteArray:=[⟨#[97,110,100]⟩,⟨#[97,110,121]⟩,⟨#[101,109,105,116]⟩,⟨#[105,110,116]⟩,⟨#[108,97,115,116]⟩,⟨#[109,97,110,121]⟩,⟨#[110,111,116]⟩,⟨#[111,102]⟩,⟨#[111,114]⟩,⟨#[111,118,101,114]⟩,⟨#[114,117,108,101]⟩,⟨#[116,101,120,116]⟩,⟨#[116,105,109,101]⟩,⟨#[116,121,112,101]⟩,⟨#[119,104,101,110]⟩,⟨#[119,104,101,114,101]⟩,⟨#[119,105,116,104,105,110]⟩]
def relsL:List ByteArray:=[⟨#[]⟩,⟨#[98,101,102,111,114,101]⟩,⟨#[97,102,116,101,114]⟩,⟨#[109,101,101,116,115]⟩,⟨#[109,101,116,98,121]⟩,⟨#[111,118,101,114,108,97,112,115]⟩,⟨#[111,118,101,114,108,97,112,112,101,100]⟩,⟨#[115,116,97,114,116,115]⟩,⟨#[115,116,97,114,116,101,100,98,121]⟩,⟨#[100,117,114,105,110,103]⟩,⟨#[99,111,110,116,97,105,110,115]⟩,⟨#[102,105,110,105,115,104,101,115]⟩,⟨#[102,105,110,105,115,104,101,100,98,121]⟩,⟨#[101,113,117,97,108,115]⟩]
theorem sameS_comm(a b:ByteArray):sameS a b=sameS b a:=by
 unfold sameS
 rw[Bool.eq_iff_iff]
 simp only[beq_iff_eq]
 exact⟨fun h=>h.symm,fun h=>h.symm⟩
def seekE(xs:List ByteArray)(s:ByteArray)(j:Nat):Int:=if sameS s (xs.getD j ByteArray.empty)=true then(j:Int)+1 else 0
def seekV(xs:List ByteArray)(s:ByteArray):Int:=firstN (seekE xs s) xs.length
theorem word_getD(xs:List ByteArray)(j:Nat)(h:j<xs.length):xs.getD j ByteArray.empty=xs[j]:=by simp[List.getD,List.getElem?_eq_getElem h]
set_option maxHeartbeats 1000000 in
theorem index_any(F:Nat→Prop)(ao:Option Addr)(n cap:Nat)(xs:List ByteArray)(s:ByteArray)(w:World)(hX:SlF F w 1 wordF ao n cap xs):
  Calls Tryz.prog 127 #[.slice ao n cap,.string s] w fun e w' =>e= .returned (.int .i64 (seekV xs s - 1))∧w=w' :=by
 have NL:Hid (n=xs.length):=hX.len
 have hle:=hX.le
 go_enter Tryz.func127,Tryz.ntmps127
 go_wp2_with fail
 go_loop [8] (fun i=> ∃ k:Nat,k≤n∧i= .int .i64 k∧AllZ (seekE xs s) k) (fun i=>n - (intOf i).toNat)
 case atStart=>exact⟨0,by omega,rfl,allZ_zero _⟩
 case round=>
  obtain⟨k,hk,rfl,haz⟩:=hrel
  have AZ:=Lib.hid haz
  clear haz
  by_cases hlt:k<n
  ·have hkl:k<xs.length:=by have:=NL.out;omega
   obtain⟨b,off,row,hix,hblt,hrow,hrr⟩:=hX.toR.index (P:=Tryz.prog) Tryz.underlying125 size_word (i:=k) hkl
   obtain rfl:=wordF_one hrr
   have d0:=hrow.one
   simp only[Nat.mul_one]at hix d0
   by_cases hs:sameS s xs[k]=true
   ·have hE:(s.toList==xs[k].toList)=true:=hs
    have HV:Hid (seekV xs s - 1=k):=by
     show _=_
     have h1:seekE xs s k=(k:Int)+1:=by unfold seekE;rw[word_getD _ _ hkl,if_pos hs]
     have:=firstN_at (n:=xs.length) AZ.out hkl (by rw[h1];omega)
     unfold seekV
     rw[this,h1];omega
    clear hs
    go_wp2
    go_ret
    exact⟨ret_int HV.out.symm,rfl⟩
   ·have hE:(s.toList==xs[k].toList)=false:=by simpa[sameS]using hs
    have HZ:Hid (AllZ (seekE xs s) (k+1)):=allZ_succ AZ.out (by unfold seekE;rw[word_getD _ _ hkl,if_neg hs])
    clear hs
    go_wp2
    go_round
    case rel=>exact⟨k+1,by omega,by go_num,HZ.out⟩
    case measure=>simp[intOf];omega
  ·have hkn:Hid (k=n):=by show _=_;omega
   go_wp2
   go_ret
   refine⟨ret_int ?_,rfl⟩
   have h1:=AZ.out
   rw[hkn.out,NL.out]at h1
   unfold seekV
   rw[firstN_zero h1];rfl
def hasW(xs:List ByteArray)(s:ByteArray):Bool:=decide (1≤seekV xs s)
theorem contains_any(F:Nat→Prop)(ao:Option Addr)(n cap:Nat)(xs:List ByteArray)(s:ByteArray)(w:World)(hX:SlF F w 1 wordF ao n cap xs):
  Calls Tryz.prog 92 #[.slice ao n cap,.string s] w fun e w' =>e= .returned (.bool (hasW xs s))∧w=w' :=by
 have HI:=Lib.hid (index_any F ao n cap xs s w hX)
 go_enter Tryz.func92,Tryz.ntmps92
 go_wp2_with (go_at_call 127;refine HI.out.mono ?_;rintro e w' ⟨rfl,rfl⟩)
 go_ret
 exact⟨ret_bool rfl,rfl⟩
end Go.Proofs.YtfahleafppfkaaaGreatDoor
/-
  The walks of the words that are kept: parse.Kept and its reference; and the law.
-/
namespace Go.Proofs.YtfahleafppfkaaaGreatDoor
open Go.RowKit
set_option linter.unusedVariables false
set_option linter.unusedSimpArgs false
def keptB(s:ByteArray):Bool:=hasW keptL s||(!s.toList.isEmpty&&hasW relsL s)
set_option maxHeartbeats 1000000 in
theorem kept_any(F:Nat→Prop)(s:ByteArray)(w:World)(hK:SlF F w 1 wordF (some ⟨0,0,none⟩) 17 17 keptL)(hR:SlF F w 1 wordF (some ⟨1,0,none⟩) 14 14 relsL):
  Calls Tryz.prog 56 #[.string s] w fun e w' =>e= .returned (.bool (keptB s))∧w=w' :=by
 have HK:=Lib.hid (contains_any F _ _ _ keptL s w hK)
 have HR:=Lib.hid (contains_any F _ _ _ relsL s w hR)
 by_cases h1:hasW keptL s=true
 ·have HB:Hid (keptB s=true):=by show _=_;simp[keptB,h1]
  rw[h1]at HK
  clear h1 hK hR HR
  go_enter Tryz.func56,Tryz.ntmps56
  go_wp2_with (go_at_call 92;refine HK.out.mono ?_;rintro e w' ⟨rfl,rfl⟩)
  go_ret
  exact⟨ret_bool HB.out.symm,rfl⟩
 ·have h1' :hasW keptL s=false:=by simpa using h1
  rw[h1']at HK
  by_cases h2:s.toList=[]
  ·have HB:Hid (keptB s=false):=by show _=_;simp[keptB,h1',h2]
   clear h1 h1' hK hR HR
   go_enter Tryz.func56,Tryz.ntmps56
   go_wp2_with (go_at_call 92;refine HK.out.mono ?_;rintro e w' ⟨rfl,rfl⟩)
   go_ret
   exact⟨ret_bool HB.out.symm,rfl⟩
  ·have h2' :(!s.toList.isEmpty)=true:=by simpa using h2
   have HB:Hid (keptB s=hasW relsL s):=by show _=_;simp[keptB,h1',h2]
   clear h1 h1' hK hR
   go_enter Tryz.func56,Tryz.ntmps56
   go_wp2_with (first|(go_at_call 92;(with_reducible refine HK.out.mono ?_);rintro e w' ⟨rfl,rfl⟩)|(go_at_call 92;(with_reducible refine HR.out.mono ?_);rintro e w' ⟨rfl,rfl⟩))
   go_ret
   exact⟨ret_bool HB.out.symm,rfl⟩
theorem words_new(w:World)(e:TypeId)(xs:List ByteArray)(hm:xs.length≤1000):SlF (from_ w.heap.size) (w.alloc (.cells (xs.map Value.string).toArray e)) 1 wordF (some ⟨w.heap.size,0,none⟩) xs.length xs.length xs:=
 words_cells (Nat.le_refl _) (by simp) rfl hm fun i hi=>by rw[World.cell?_alloc_new];simp[List.getElem?_eq_getElem hi]
set_option maxHeartbeats 1000000 in
theorem relWords_any(w:World):Calls Tryz.prog 145 #[] w fun e w' =>e= .returned (.slice (some ⟨w.heap.size,0,none⟩) 14 14)∧Below w.heap.size w w' ∧SlF (from_ w.heap.size) w' 1 wordF (some ⟨w.heap.size,0,none⟩) 14 14 relsL:=by
 go_enter Tryz.func145,Tryz.ntmps145
 go_wp2
 go_ret
 exact⟨rfl,Joins.below_alloc1 w _,words_new w 9 relsL (by decide)⟩
def behE(xs:List ByteArray)(s:ByteArray)(j:Nat):Int:=if j≠0∧sameS (xs.getD j ByteArray.empty) s=true then(j:Int)else 0
def behV(xs:List ByteArray)(s:ByteArray):Int:=firstN (behE xs s) xs.length
set_option maxHeartbeats 1000000 in
theorem relationOf_any(s:ByteArray)(w:World):Calls Tryz.prog 107 #[.string s] w fun e w' =>e= .returned (.int .i64 (behV relsL s))∧Below w.heap.size w w' :=by
 go_enter Tryz.func107,Tryz.ntmps107
 go_wp2_with fail
 refine(relWords_any w).mono ?_
 rintro e w1 ⟨rfl,hb1,hX⟩
 go_wp2_with fail
 go_loop [4] (fun i=> ∃ k:Nat,1≤k∧k≤14∧i= .int .i64 k∧Hid (AllZ (behE relsL s) k)) (fun i=>14 - (intOf i).toNat)
 case atStart=>exact⟨1,by omega,by omega,rfl,fun j hj=>by unfold behE;rw[if_neg (by omega)]⟩
 case round=>
  obtain⟨k,hk1,hk,rfl,AZ⟩:=hrel
  by_cases hlt:k<14
  ·have hkl:k<relsL.length:=hlt
   have hk14:(k:Int)<14:=by omega
   obtain⟨b,off,row,hix,hblt,hrow,hrr⟩:=hX.toR.index (P:=Tryz.prog) Tryz.underlying125 size_word (i:=k) hkl
   obtain rfl:=wordF_one hrr
   have d0:=hrow.one
   simp only[Nat.mul_one]at hix d0
   by_cases hs:sameS relsL[k] s=true
   ·have hE:(relsL[k].toList==s.toList)=true:=hs
    have HV:Hid (behV relsL s=k):=by
     show _=_
     have h1:behE relsL s k=(k:Int):=by unfold behE;rw[word_getD _ _ hkl,if_pos ⟨by omega,hs⟩]
     have:=firstN_at (n:=relsL.length) AZ.out hkl (by rw[h1];omega)
     unfold behV
     rw[this,h1]
    clear hs
    generalize relsL[k]=x at d0 hE
    go_wp2
    go_ret
    exact⟨ret_int HV.out.symm,hb1⟩
   ·have hE:(relsL[k].toList==s.toList)=false:=by simpa[sameS]using hs
    have HZ:Hid (AllZ (behE relsL s) (k+1)):=allZ_succ AZ.out (by unfold behE;rw[word_getD _ _ hkl,if_neg (fun h=>hs h.2)])
    clear hs
    generalize relsL[k]=x at d0 hE
    go_wp2
    go_round
    case rel=>exact⟨k+1,by omega,by omega,by go_num,HZ⟩
    case measure=>simp[intOf];omega
  ·have hkn:Hid (k=14):=by show _=_;omega
   go_wp2
   go_ret
   refine⟨ret_int ?_,hb1⟩
   have h1:=AZ.out
   rw[hkn.out]at h1
   exact(firstN_zero h1).symm
def isIn(xs:List ByteArray)(s:ByteArray)(j:Nat):Int:=if sameS (xs.getD j ByteArray.empty) s=true then 1 else 0
def keptR(s:ByteArray):Bool:=decide (firstN (isIn keptL s) keptL.length≠0)||decide (0<behV relsL s)
set_option maxHeartbeats 2000000 in
theorem keptWord_any(s:ByteArray)(w:World):Calls Tryz.prog 65 #[.string s] w fun e w' =>e= .returned (.bool (keptR s))∧Below w.heap.size w w' :=by
 have HR:=Lib.hid (relationOf_any s)
 have hX0:=Lib.hid (words_new w 9 keptL (by decide))
 go_enter Tryz.func65,Tryz.ntmps65
 go_wp2_with fail
 have hX:SlF (from_ w.heap.size) (w.alloc (.cells (keptL.map Value.string).toArray 9)) 1 wordF (some ⟨w.heap.size,0,none⟩) 17 17 keptL:=hX0.out
 change Code.wp _ _ _ _ (w.alloc (.cells (keptL.map Value.string).toArray 9))
 generalize hw1:w.alloc (.cells (keptL.map Value.string).toArray 9)=w1 at hX ⊢
 have hb1:Below w.heap.size w w1:=by rw[←hw1];exact Joins.below_alloc1 w _
 clear hw1
 go_loop [4] (fun i=> ∃ k:Nat,k≤17∧i= .int .i64 k∧Hid (AllZ (isIn keptL s) k)) (fun i=>17 - (intOf i).toNat)
 case atStart=>exact⟨0,by omega,rfl,allZ_zero _⟩
 case round=>
  obtain⟨k,hk,rfl,AZ⟩:=hrel
  by_cases hlt:k<17
  ·have hkl:k<keptL.length:=hlt
   have hk14:(k:Int)<17:=by omega
   obtain⟨b,off,row,hix,hblt,hrow,hrr⟩:=hX.toR.index (P:=Tryz.prog) Tryz.underlying125 size_word (i:=k) hkl
   obtain rfl:=wordF_one hrr
   have d0:=hrow.one
   simp only[Nat.mul_one]at hix d0
   by_cases hs:sameS keptL[k] s=true
   ·have hE:(keptL[k].toList==s.toList)=true:=hs
    have HV:Hid (keptR s=true):=by
     show _=_
     have h1:isIn keptL s k=1:=by unfold isIn;rw[word_getD _ _ hkl,if_pos hs]
     have:=firstN_at (n:=keptL.length) AZ.out hkl (by rw[h1];omega)
     unfold keptR
     rw[this,h1];rfl
    clear hs
    generalize keptL[k]=x at d0 hE
    go_wp2
    go_ret
    exact⟨ret_bool HV.out.symm,hb1⟩
   ·have hE:(keptL[k].toList==s.toList)=false:=by simpa[sameS]using hs
    have HZ:Hid (AllZ (isIn keptL s) (k+1)):=allZ_succ AZ.out (by unfold isIn;rw[word_getD _ _ hkl,if_neg hs])
    clear hs
    generalize keptL[k]=x at d0 hE
    go_wp2
    go_round
    case rel=>exact⟨k+1,by omega,by go_num,HZ⟩
    case measure=>simp[intOf];omega
  ·have hkn:Hid (k=17):=by show _=_;omega
   go_wp2_with (go_at_call 107;refine(HR.out _).mono ?_;rintro e w2 ⟨rfl,hb2⟩)
   go_ret
   refine⟨ret_bool ?_,(by repeat(first|assumption|refine below_step ?_ (by assumption)))⟩
   have h1:=AZ.out
   rw[hkn.out]at h1
   have h2:firstN (isIn keptL s) keptL.length=0:=firstN_zero h1
   unfold keptR
   rw[h2]
   simp
theorem firstN_some{f:Nat→Int}{n:Nat}:firstN f n≠0↔ ∃ j,j<n∧f j≠0:=by
 constructor
 ·intro h
  apply Classical.byContradiction
  intro hn
  exact h (firstN_zero fun j hj=>Classical.byContradiction fun hf=>hn ⟨j,hj,hf⟩)
 ·intro ⟨j,hj,hf⟩ h
  have key: ∀ m,firstN f m=0→AllZ f m:=fun m=>by
   induction m with
   |zero=>intro _;exact allZ_zero f
   |succ m ih=>
    intro h
    simp only[firstN]at h
    by_cases h0:firstN f m=0
    ·rw[if_pos h0]at h
     exact allZ_succ (ih h0) h
    ·rw[if_neg h0]at h
     exact absurd h h0
  exact hf (key n h j hj)
theorem firstN_nonneg{f:Nat→Int}(h0: ∀ j,0≤f j)(n:Nat):0≤firstN f n:=by
 induction n with
 |zero=>exact Int.le_refl _
 |succ n ih=>
  simp only[firstN]
  by_cases h:firstN f n=0
  ·rw[if_pos h];exact h0 n
  ·rw[if_neg h];exact ih
theorem hasW_iff{xs:List ByteArray}{s:ByteArray}:hasW xs s=true↔ ∃ j,j<xs.length∧sameS s (xs.getD j ByteArray.empty)=true:=by
 have hn: ∀ j,0≤seekE xs s j:=fun j=>by unfold seekE;split<;>omega
 have h1:hasW xs s=true↔seekV xs s≠0:=by
  have:=firstN_nonneg hn xs.length
  unfold hasW
  rw[decide_eq_true_iff]
  unfold seekV
  omega
 rw[h1]
 unfold seekV
 rw[firstN_some]
 constructor
 ·intro ⟨j,hj,h⟩
  refine⟨j,hj,Classical.byContradiction fun hs=>h ?_⟩
  unfold seekE;rw[if_neg hs]
 ·intro ⟨j,hj,hs⟩
  refine⟨j,hj,?_⟩
  unfold seekE;rw[if_pos hs];omega
theorem isIn_iff{xs:List ByteArray}{s:ByteArray}:firstN (isIn xs s) xs.length≠0↔ ∃ j,j<xs.length∧sameS s (xs.getD j ByteArray.empty)=true:=by
 rw[firstN_some]
 constructor
 ·intro ⟨j,hj,h⟩
  refine⟨j,hj,Classical.byContradiction fun hs=>h ?_⟩
  unfold isIn;rw[sameS_comm,if_neg hs]
 ·intro ⟨j,hj,hs⟩
  refine⟨j,hj,?_⟩
  unfold isIn;rw[sameS_comm,if_pos hs];omega
theorem behV_iff{xs:List ByteArray}{s:ByteArray}:0<behV xs s↔ ∃ j,j<xs.length∧j≠0∧sameS s (xs.getD j ByteArray.empty)=true:=by
 have hn: ∀ j,0≤behE xs s j:=fun j=>by unfold behE;split<;>omega
 have h1:0<behV xs s↔behV xs s≠0:=by
  have:=firstN_nonneg hn xs.length
  unfold behV
  omega
 rw[h1]
 unfold behV
 rw[firstN_some]
 constructor
 ·intro ⟨j,hj,h⟩
  refine Classical.byContradiction fun hs=>h ?_
  unfold behE;rw[if_neg]
  intro ⟨h1,h2⟩
  exact hs ⟨j,hj,h1,by rw[sameS_comm];exact h2⟩
 ·intro ⟨j,hj,h0,hs⟩
  refine⟨j,hj,?_⟩
  unfold behE;rw[if_pos ⟨h0,by rw[sameS_comm];exact hs⟩];omega
theorem rels_nonempty: ∀ j,j<14→j≠0→(relsL.getD j ByteArray.empty).data.toList≠[]:=by decide
theorem kept_same(s:ByteArray):keptB s=keptR s:=by
 rw[Bool.eq_iff_iff]
 unfold keptB keptR
 simp only[Bool.or_eq_true,Bool.and_eq_true,decide_eq_true_iff]
 rw[hasW_iff,hasW_iff,isIn_iff,behV_iff]
 constructor
 ·rintro(h|⟨he,j,hj,hs⟩)
  ·exact Or.inl h
  ·refine Or.inr ⟨j,hj,?_,hs⟩
   rintro rfl
   have h2:s.toList=[]:=by
    have:s.toList=(relsL.getD 0 ByteArray.empty).toList:=by simpa[sameS]using hs
    rw[this,ByteArray.toList_eq];rfl
   rw[h2]at he
   exact absurd he (by decide)
 ·rintro(h|⟨j,hj,h0,hs⟩)
  ·exact Or.inl h
  ·refine Or.inr ⟨?_,j,hj,hs⟩
   have:s.toList=(relsL.getD j ByteArray.empty).toList:=by simpa[sameS]using hs
   have hne:=rels_nonempty j hj h0
   rw[←ByteArray.toList_eq,←this]at hne
   cases h:s.toList with
   |nil=>exact absurd h hne
   |cons a l=>rfl
end Go.Proofs.YtfahleafppfkaaaGreatDoor
