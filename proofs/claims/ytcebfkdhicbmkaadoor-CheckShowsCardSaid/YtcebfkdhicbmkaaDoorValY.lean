/-
  The walks of package value and of its reference, third part: types by the reference, fields.
-/
import Derived.Test.YtcebfkdhicbmkaaDoorValX
namespace Go.Proofs.YtcebfkdhicbmkaaDoor
open Go.RowKit
set_option linter.unusedVariables false
set_option linter.unusedSimpArgs false
theorem firstN_succ{f:Nat→Int}{k:Nat}{x:Int}(hz:firstN f k=0)(h:f k=x):firstN f (k+1)=x:=by simp[firstN,hz,h]
theorem firstN_end{f:Nat→Int}{k n:Nat}(hk:k≤n)(h:k=n∨firstN f k≠0):firstN f k=firstN f n:=by
 rcases h with rfl|h
 ·rfl
 ·exact(firstN_stays hk h).symm
set_option maxHeartbeats 2000000 in
theorem typeFault_any(nm:ByteArray)(ao:Option Addr)(n cap:Nat)(fs:List Fld)(w:World)(hnm:nm.size≤maxLen)(hF:SlR w 2 fldR ao n cap fs):
  Calls Tryd.prog 22 #[.agg #[.string nm,.slice ao n cap]] w fun e w' =>e= .returned (.int .i64 (typE nm fs))∧Below w.heap.size w w' :=by
 have hnl:=hF.len
 have hle:=hF.le
 have NL:Hid (n=fs.length):=hnl
 clear hnl
 have hF1:=hF.mono fldR_stays (Joins.below_alloc1 w (.cells #[.string nm,.slice ao n cap] 38))
 by_cases hz:nameE nm=0∧n≤4
 ·obtain⟨hz,h4⟩:=hz
  have hz1:(nameE nm==0)=true:=by simp[hz]
  have H:Hid (nameE nm=0):=hz
  have h4' :decide ((4:Int)<(n:Int))=false:=by simp;omega
  go_enter Tryd.func22,Tryd.ntmps22
  go_wp2_with (go_at_call 44;refine(nameFault_any _ _ hnm).mono ?_;rintro e w' ⟨rfl,rfl⟩)
  go_loopw [3,4] (fun e i wr=> ∃ k:Nat,k≤n∧e= .int .i64 (firstN (fldE fs) k)∧i= .int .i64 k∧Below (w.alloc (.cells #[.string nm,.slice ao n cap] 38)).heap.size (w.alloc (.cells #[.string nm,.slice ao n cap] 38)) wr) (fun _ i _=>n - (intOf i).toNat)
  case atStart=>exact⟨0,by omega,rfl,rfl,Below.refl _ _⟩
  case round=>
   obtain⟨k,hk,rfl,rfl,hbr⟩:=hrel
   obtain⟨hc_wr,hf_wr⟩:=bcell hbr;have hs_wr:=hbr.size;(try simp only[World.size_alloc,World.size_drew,World.size_setCell]at hs_wr);have z0_wr:w.heap.size<wr.heap.size:=(by omega)
   have hFr:=hF1.mono fldR_stays hbr
   by_cases hgo:k<n∧firstN (fldE fs) k=0
   ·obtain⟨hlt,hfz⟩:=hgo
    have hfz1:(firstN (fldE fs) k==0)=true:=by simp[hfz]
    have FZ:Hid (firstN (fldE fs) k=0):=hfz
    obtain⟨b,off,row,hix,hblt,hrow,hrr,hfn⟩:=hFr.index (P:=Tryd.prog) Tryd.underlying36 size_field (i:=k) (by have:=NL.out;omega)
    subst hrr
    obtain⟨c0,c1⟩:=hrow.two
    have hkl:k<fs.length:=by have:=NL.out;omega
    have hgd:Hid (fs.getD k default=fs[k]):=fldE_of fs k hkl
    clear hz hfz
    obtain⟨wo,rfl⟩: ∃ wo:World,wo=wr:=⟨_,rfl⟩
    by_cases hnz:nameE fs[k].name=0
    ·have hnz1:(nameE fs[k].name==0)=true:=by simp[hnz]
     have N:Hid (nameE fs[k].name=0):=hnz;clear hnz
     cases hkd:inB fs[k].kind 1 2 with
     |true=>
      have hkd2:Hid (inB fs[k].kind 1 2=true):=hkd
      have hfk:Hid (fldE fs k=firstN (fldTwice fs k) k):=by show fldE fs k=_;unfold fldE;rw[hgd.out,if_pos N.out,if_pos hkd2.out]
      go_wp2_with (first|(go_at_call 44;refine(nameFault_any _ _ hfn).mono ?_;rintro e w' ⟨rfl,rfl⟩)|(go_at_call 45;refine(in_any _ _ _ _).mono ?_;rintro e w' ⟨rfl,rfl⟩))
      have hF2:=hFr.mono fldR_stays (Joins.below_alloc1 wo (.cells #[.string fs[k].name,.int .i64 fs[k].kind] 41))
      go_loopw [3,6] (fun e i wr=> ∃ j:Nat,j≤k∧e= .int .i64 (firstN (fldTwice fs k) j)∧i= .int .i64 j∧Below (wo.alloc (.cells #[.string fs[k].name,.int .i64 fs[k].kind] 41)).heap.size (wo.alloc (.cells #[.string fs[k].name,.int .i64 fs[k].kind] 41)) wr) (fun _ i _=>k - (intOf i).toNat)
      case atStart=>exact⟨0,by omega,by rw[N.out];rfl,rfl,Below.refl _ _⟩
      case round=>
       obtain⟨j,hj,rfl,rfl,hbr2⟩:=hrel
       obtain⟨hc_wr,hf_wr⟩:=bcell hbr2;have hs_wr:=hbr2.size;(try simp only[World.size_alloc,World.size_drew,World.size_setCell]at hs_wr);have z0_wr:w.heap.size<wr.heap.size:=(by omega)
       have y0:wo.heap.size<wr.heap.size:=by omega
       have hFj:=hF2.mono fldR_stays hbr2
       by_cases hgo2:j<k∧firstN (fldTwice fs k) j=0
       ·obtain⟨hjk,hfz2⟩:=hgo2
        have hfz3:(firstN (fldTwice fs k) j==0)=true:=by simp[hfz2]
        have FZ2:Hid (firstN (fldTwice fs k) j=0):=hfz2;clear hfz2
        obtain⟨b2,off2,row2,hix2,hblt2,hrow2,hrr2,hfn2⟩:=hFj.index (P:=Tryd.prog) Tryd.underlying36 size_field (i:=j) (by have:=NL.out;omega)
        subst hrr2
        obtain⟨d0,d1⟩:=hrow2.two
        have hgj:Hid (fs.getD j default=fs[j]):=fldE_of fs j (by omega)
        cases hsm:(fs[j].name.toList==fs[k].name.toList)with
        |true=>
         have hft:Hid (fldTwice fs k j=7):=by show fldTwice fs k j=7;unfold fldTwice sameS;rw[hgj.out,hgd.out,if_pos hsm]
         go_wp2_with fail
         go_quiet (fail)
         go_wp2
         exact⟨⟨j+1,by omega,by rw[firstN_succ FZ2.out hft.out],by go_num,hbr2.trans (Joins.below_draws _ _ _)⟩,by simp[intOf];omega⟩
        |false=>
         have hft:Hid (fldTwice fs k j=0):=by show fldTwice fs k j=0;unfold fldTwice sameS;rw[hgj.out,hgd.out,if_neg (by rw[hsm];simp)]
         go_wp2_with fail
         go_quiet (fail)
         go_wp2
         exact⟨⟨j+1,by omega,by rw[firstN_succ FZ2.out hft.out,FZ2.out],by go_num,hbr2.trans (Joins.below_draws _ _ _)⟩,by simp[intOf];omega⟩
       ·have hend:j=k∨firstN (fldTwice fs k) j≠0:=by omega
        have EN:Hid (firstN (fldTwice fs k) j=firstN (fldTwice fs k) k):=firstN_end hj hend
        by_cases hjk:j<k
        ·have hne1:(firstN (fldTwice fs k) j==0)=false:=by simp;omega
         clear hend
         go_wp2
         exact⟨⟨k+1,by omega,by rw[firstN_succ FZ.out hfk.out,EN.out],by go_num,hbr.trans (((Joins.below_alloc1 _ _).trans (hbr2.mono (by simp))).mono (by simp;omega))⟩,by simp[intOf];omega⟩
        ·clear hend
         go_wp2
         exact⟨⟨k+1,by omega,by rw[firstN_succ FZ.out hfk.out,EN.out],by go_num,hbr.trans (((Joins.below_alloc1 _ _).trans (hbr2.mono (by simp))).mono (by simp;omega))⟩,by simp[intOf];omega⟩
     |false=>
      have hfk:Hid (fldE fs k=3):=by show fldE fs k=_;unfold fldE;rw[hgd.out,if_pos N.out,if_neg (by rw[hkd];simp)]
      go_wp2_with (first|(go_at_call 44;refine(nameFault_any _ _ hfn).mono ?_;rintro e w' ⟨rfl,rfl⟩)|(go_at_call 45;refine(in_any _ _ _ _).mono ?_;rintro e w' ⟨rfl,rfl⟩))
      go_loopw [3,6] (fun e i wr=>e= .int .i64 3∧i= .int .i64 0∧Below (wo.alloc (.cells #[.string fs[k].name,.int .i64 fs[k].kind] 41)).heap.size (wo.alloc (.cells #[.string fs[k].name,.int .i64 fs[k].kind] 41)) wr) (fun _ _ _=>0)
      case atStart=>exact⟨rfl,rfl,Below.refl _ _⟩
      case round=>
       obtain⟨rfl,rfl,hbr2⟩:=hrel
       by_cases hk0:0<k
       ·go_wp2
        exact⟨⟨k+1,by omega,by rw[firstN_succ FZ.out hfk.out],by go_num,hbr.trans (((Joins.below_alloc1 _ _).trans (hbr2.mono (by simp))).mono (by simp;omega))⟩,by simp[intOf];omega⟩
       ·go_wp2
        exact⟨⟨k+1,by omega,by rw[firstN_succ FZ.out hfk.out],by go_num,hbr.trans (((Joins.below_alloc1 _ _).trans (hbr2.mono (by simp))).mono (by simp;omega))⟩,by simp[intOf];omega⟩
    ·have hnz1:(nameE fs[k].name==0)=false:=by simp[hnz]
     have hfk:Hid (fldE fs k=nameE fs[k].name):=by show fldE fs k=_;unfold fldE;rw[hgd.out,if_neg hnz]
     clear hnz
     go_wp2_with (go_at_call 44;refine(nameFault_any _ _ hfn).mono ?_;rintro e w' ⟨rfl,rfl⟩)
     go_loopw [3,6] (fun e i wr=>e= .int .i64 (nameE fs[k].name)∧i= .int .i64 0∧Below (wo.alloc (.cells #[.string fs[k].name,.int .i64 fs[k].kind] 41)).heap.size (wo.alloc (.cells #[.string fs[k].name,.int .i64 fs[k].kind] 41)) wr) (fun _ _ _=>0)
     case atStart=>exact⟨rfl,rfl,Below.refl _ _⟩
     case round=>
      obtain⟨rfl,rfl,hbr2⟩:=hrel
      by_cases hk0:0<k
      ·go_wp2
       exact⟨⟨k+1,by omega,by rw[firstN_succ FZ.out hfk.out],by go_num,hbr.trans (((Joins.below_alloc1 _ _).trans (hbr2.mono (by simp))).mono (by simp;omega))⟩,by simp[intOf];omega⟩
      ·go_wp2
       exact⟨⟨k+1,by omega,by rw[firstN_succ FZ.out hfk.out],by go_num,hbr.trans (((Joins.below_alloc1 _ _).trans (hbr2.mono (by simp))).mono (by simp;omega))⟩,by simp[intOf];omega⟩
   ·have hend:k=n∨firstN (fldE fs) k≠0:=by omega
    have EN:Hid (firstN (fldE fs) k=typE nm fs):=by
     have h1:=NL.out
     show firstN (fldE fs) k=_
     rw[firstN_end hk hend,typE,if_pos H.out,if_pos (by omega),h1]
    clear hz hgo
    by_cases hlt:k<n
    ·have hne1:(firstN (fldE fs) k==0)=false:=by simp;omega
     clear hend
     go_wp2
     go_ret
     exact⟨ret_int EN.out,(by repeat(first|exact Below.refl _ _|refine below_step ?_ (by assumption)|(refine Below.alloc ?_ (by omega) _)))⟩
    ·clear hend
     go_wp2
     go_ret
     exact⟨ret_int EN.out,(by repeat(first|exact Below.refl _ _|refine below_step ?_ (by assumption)|(refine Below.alloc ?_ (by omega) _)))⟩
 ·have EN:Hid (typE nm fs=if nameE nm=0 then 1 else nameE nm):=by
   have h1:=NL.out
   show typE nm fs=_
   unfold typE
   split
   ·rw[if_neg (by omega)]
   ·rfl
  by_cases hn0:nameE nm=0
  ·have h4:decide ((4:Int)<(n:Int))=true:=by simp;omega
   have hz1:(nameE nm==0)=true:=by simp[hn0]
   have E2:Hid (typE nm fs=1):=by show _=_;rw[EN.out,if_pos hn0]
   clear hz hn0
   go_enter Tryd.func22,Tryd.ntmps22
   go_wp2_with (go_at_call 44;refine(nameFault_any _ _ hnm).mono ?_;rintro e w' ⟨rfl,rfl⟩)
   go_loopw [3,4] (fun e i wr=>e= .int .i64 1∧i= .int .i64 0∧wr=w.alloc (.cells #[.string nm,.slice ao n cap] 38)) (fun _ _ _=>0)
   case atStart=>exact⟨rfl,rfl,rfl⟩
   case round=>
    obtain⟨rfl,rfl,rfl⟩:=hrel
    have hn1:(0:Int)<(n:Int):=by simp at h4;omega
    go_wp2
    go_ret
    exact⟨ret_int E2.out.symm,(by repeat(first|exact Below.refl _ _|(refine Below.alloc ?_ (by omega) _)))⟩
  ·have hz1:(nameE nm==0)=false:=by simp[hn0]
   have E2:Hid (typE nm fs=nameE nm):=by show _=_;rw[EN.out,if_neg hn0]
   clear hz hn0
   go_enter Tryd.func22,Tryd.ntmps22
   go_wp2_with (go_at_call 44;refine(nameFault_any _ _ hnm).mono ?_;rintro e w' ⟨rfl,rfl⟩)
   go_loopw [3,4] (fun e i wr=>e= .int .i64 (nameE nm)∧i= .int .i64 0∧wr=w.alloc (.cells #[.string nm,.slice ao n cap] 38)) (fun _ _ _=>0)
   case atStart=>exact⟨rfl,rfl,rfl⟩
   case round=>
    obtain⟨rfl,rfl,rfl⟩:=hrel
    by_cases hn1:0<n
    ·go_wp2
     go_ret
     exact⟨ret_int E2.out.symm,(by repeat(first|exact Below.refl _ _|(refine Below.alloc ?_ (by omega) _)))⟩
    ·go_wp2
     go_ret
     exact⟨ret_int E2.out.symm,(by repeat(first|exact Below.refl _ _|(refine Below.alloc ?_ (by omega) _)))⟩
end Go.Proofs.YtcebfkdhicbmkaaDoor
