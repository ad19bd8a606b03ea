/-
  The walks of package value and of its reference, second part: types.
-/
import Derived.Test.YtncmghnhfipklaaGreatDoorPu01
import Derived.Lib.SmallJoins
namespace Go.Proofs.YtncmghnhfipklaaGreatDoor
open Go.RowKit
set_option linter.unusedVariables false
set_option linter.unusedSimpArgs false
def fldR:World→List Value→Fld→Prop:=fun _ row f=>row=fldC f∧f.name.size≤maxLen
theorem fldR_stays:Stays fldR:=fun _ _ _ _ _ h=>h
theorem size_field:SizeIs Tryz.prog 67 2:=fun w=>by kernel_rfl
theorem fldE_of(fs:List Fld)(i:Nat)(hi:i<fs.length):fs.getD i default=fs[i]:=by simp[List.getD,List.getElem?_eq_getElem hi]
set_option maxHeartbeats 1000000 in
theorem checkType_any(nm:ByteArray)(ao:Option Addr)(n cap:Nat)(fs:List Fld)(w:World)(hnm:nm.size≤maxLen)(hF:SlR w 2 fldR ao n cap fs):
    Calls Tryz.prog 18 #[.agg #[.string nm,.slice ao n cap]] w fun e w' =>e= .returned (.int .i64 (typE nm fs))∧Below w.heap.size w w' :=by
  by_cases hz:nameE nm=0
  · have hz1:(nameE nm !=0)=false:=by simp[hz]
    have H:Hid (nameE nm=0):=hz;clear hz
    have hnl:=hF.len
    have hle:=hF.le
    by_cases h4:4<n
    · have h4' :(4:Int)<(n:Int):=by omega
      go_enter Tryz.func18,Tryz.ntmps18
      go_wp2_with (go_at_call 35;refine(name_any _ _ hnm).mono ?_;rintro e w' ⟨rfl,rfl⟩)
      go_ret
      exact⟨ret_int (by simp[typE,H.out];omega),(by repeat(first|exact Below.refl _ _|(refine Below.alloc ?_ (by omega) _)))⟩
    · have h4' : ¬ (4:Int)<(n:Int):=by omega
      have NL:Hid (n=fs.length):=hnl
      clear hnl
      go_enter Tryz.func18,Tryz.ntmps18
      go_wp2_with (go_at_call 35;refine(name_any _ _ hnm).mono ?_;rintro e w' ⟨rfl,rfl⟩)
      have hF1:=hF.mono fldR_stays (Joins.below_alloc1 w (.cells #[.string nm,.slice ao n cap] 51))
      go_loopw [22] (fun i wr=> ∃ k:Nat,k≤n∧i= .int .i64 k∧AllZ (fldE fs) k∧Below (w.alloc (.cells #[.string nm,.slice ao n cap] 51)).heap.size (w.alloc (.cells #[.string nm,.slice ao n cap] 51)) wr) (fun i _=>n - (intOf i).toNat)
      case atStart=>exact⟨0,by omega,rfl,allZ_zero _,Below.refl _ _⟩
      case round=>
        obtain⟨k,hk,rfl,haz,hbr⟩:=hrel
        obtain⟨hc_wr,hf_wr⟩:=bcell hbr;have hs_wr:=hbr.size;(try simp only[World.size_alloc,World.size_drew,World.size_setCell]at hs_wr);have z0_wr:w.heap.size<wr.heap.size:=(by omega)
        have hFr:=hF1.mono fldR_stays hbr
        by_cases hlt:k<n
        · obtain⟨b,off,row,hix,hblt,hrow,hrr,hfn⟩:=hFr.index (P:=Tryz.prog) Tryz.underlying49 size_field (i:=k) (by have:=NL.out;omega)
          subst hrr
          obtain⟨c0,c1⟩:=hrow.two
          have hkl:k<fs.length:=by have:=NL.out;omega
          have hgd:Hid (fs.getD k default=fs[k]):=fldE_of fs k hkl
          by_cases hnz:nameE fs[k].name=0
          · have hnz1:(nameE fs[k].name !=0)=false:=by simp[hnz]
            have N:Hid (nameE fs[k].name=0):=hnz;clear hnz
            by_cases hkd:fs[k].kind=1∨fs[k].kind=2
            · have hkd2:Hid (inB fs[k].kind 1 2=true):=by show inB _ _ _=true;rw[inB_true];omega
              have hfk:Hid (fldE fs k=firstN (fldTwice fs k) k):=by show fldE fs k=_;unfold fldE;rw[hgd.out,if_pos N.out,if_pos hkd2.out]
              have hkd1:((fs[k].kind !=1)=true∧(fs[k].kind !=2)=false)∨((fs[k].kind !=1)=false):=by
                rcases hkd with h|h<;>simp[h]
              clear hkd
              obtain⟨wo,rfl⟩: ∃ wo:World,wo=wr:=⟨_,rfl⟩
              rcases hkd1 with⟨hk1,hk2⟩|hk1
              all_goals
                go_wp2_with (go_at_call 35;refine(name_any _ _ hfn).mono ?_;rintro e w' ⟨rfl,rfl⟩)
                have hF2:=hFr.mono fldR_stays (Joins.below_alloc1 wo (.cells #[.string fs[k].name,.int .i64 fs[k].kind] 67))
                go_loopw [46] (fun i wr=> ∃ j:Nat,j≤k∧i= .int .i64 j∧AllZ (fldTwice fs k) j∧Below (wo.alloc (.cells #[.string fs[k].name,.int .i64 fs[k].kind] 67)).heap.size (wo.alloc (.cells #[.string fs[k].name,.int .i64 fs[k].kind] 67)) wr) (fun i _=>k - (intOf i).toNat)
                case atStart=>exact⟨0,by omega,rfl,allZ_zero _,Below.refl _ _⟩
                case round=>
                  obtain⟨j,hj,rfl,haz2,hbr2⟩:=hrel
                  obtain⟨hc_wr,hf_wr⟩:=bcell hbr2;have hs_wr:=hbr2.size;(try simp only[World.size_alloc,World.size_drew,World.size_setCell]at hs_wr)
                  have y0:wo.heap.size<wr.heap.size:=by omega
                  have hFj:=hF2.mono fldR_stays hbr2
                  by_cases hjk:j<k
                  · obtain⟨b2,off2,row2,hix2,hblt2,hrow2,hrr2,hfn2⟩:=hFj.index_cut (P:=Tryz.prog) Tryz.underlying49 size_field (i:=j) (m:=k) hjk (by have:=NL.out;omega)
                    subst hrr2
                    obtain⟨d0,d1⟩:=hrow2.two
                    have hgj:Hid (fs.getD j default=fs[j]):=fldE_of fs j (by omega)
                    cases hsm:(fs[j].name.toList==fs[k].name.toList)with
                    |true=>
                      have hft:Hid (fldTwice fs k j=7):=by show fldTwice fs k j=7;unfold fldTwice sameS;rw[hgj.out,hgd.out,if_pos hsm]
                      go_wp2
                      go_ret
                      have h2:=firstN_at haz2 hjk (by rw[hft.out];omega)
                      rw[hft.out,←hfk.out]at h2
                      have h3:=firstN_at haz hkl (by rw[h2];omega)
                      exact⟨ret_int (by have h1:=NL.out;rw[h2]at h3;simp[typE,H.out,h3];omega),below_step (below_step (Joins.below_alloc1 _ _) hbr) (below_step (below_step (Joins.below_alloc1 _ _) hbr2) (Joins.below_alloc1 _ _))⟩
                    |false=>
                      have hft:Hid (fldTwice fs k j=0):=by show fldTwice fs k j=0;unfold fldTwice sameS;rw[hgj.out,hgd.out,if_neg (by rw[hsm];simp)]
                      go_wp2
                      exact⟨⟨j+1,by omega,by go_num,allZ_succ haz2 hft.out,hbr2.trans ((Joins.below_alloc1 _ _).mono hbr2.size)⟩,by simp[intOf];omega⟩
                  · go_wp2
                    have hjk' :j=k:=by omega
                    subst hjk'
                    exact⟨⟨j+1,by omega,by go_num,allZ_succ haz (by rw[hfk.out];exact firstN_zero haz2),hbr.trans (((Joins.below_alloc1 _ _).trans (hbr2.mono (by simp))).mono (by simp;omega))⟩,by simp[intOf];omega⟩
            · have hk1:(fs[k].kind !=1)=true:=by rw[bne_iff_ne];omega
              have hk2:(fs[k].kind !=2)=true:=by rw[bne_iff_ne];omega
              have hfk:Hid (fldE fs k=3):=by
                                                   show fldE fs k=_;have:inB fs[k].kind 1 2=false:=by(rw[inB_false];omega)
                                                   unfold fldE;rw[hgd.out,if_pos N.out,if_neg (by rw[this];simp)]
              clear hkd
              go_wp2_with (go_at_call 35;refine(name_any _ _ hfn).mono ?_;rintro e w' ⟨rfl,rfl⟩)
              go_ret
              exact⟨ret_int (by have h1:=NL.out;have h2:=firstN_at haz hkl (by rw[hfk.out];omega);rw[hfk.out]at h2;simp[typE,H.out,h2];omega),(by repeat(first|exact Below.refl _ _|refine below_step ?_ (by assumption)|(refine Below.alloc ?_ (by omega) _)))⟩
          · have hnz1:(nameE fs[k].name !=0)=true:=by simp[hnz]
            have hfk:Hid (fldE fs k=nameE fs[k].name):=by show fldE fs k=_;unfold fldE;rw[hgd.out,if_neg hnz]
            have N:Hid (¬ nameE fs[k].name=0):=hnz;clear hnz
            go_wp2_with (go_at_call 35;refine(name_any _ _ hfn).mono ?_;rintro e w' ⟨rfl,rfl⟩)
            go_ret
            exact⟨ret_int (by have h1:=NL.out;have h2:=firstN_at haz hkl (by rw[hfk.out];exact N.out);rw[hfk.out]at h2;simp[typE,H.out,h2];omega),(by repeat(first|exact Below.refl _ _|refine below_step ?_ (by assumption)|(refine Below.alloc ?_ (by omega) _)))⟩
        · go_wp2
          go_ret
          have hkn:k=fs.length:=by have:=NL.out;omega
          subst hkn
          exact⟨ret_int (by have:=NL.out;simp[typE,H.out,firstN_zero haz];try omega),(by repeat(first|exact Below.refl _ _|refine below_step ?_ (by assumption)|(refine Below.alloc ?_ (by omega) _)))⟩
  · have hz1:(nameE nm !=0)=true:=by simp[hz]
    have H:Hid (¬ nameE nm=0):=hz;clear hz
    go_enter Tryz.func18,Tryz.ntmps18
    go_wp2_with (go_at_call 35;refine(name_any _ _ hnm).mono ?_;rintro e w' ⟨rfl,rfl⟩)
    go_ret
    exact⟨ret_int (by simp[typE,H.out]),(by repeat(first|exact Below.refl _ _|(refine Below.alloc ?_ (by omega) _)))⟩
theorem firstN_succ{f:Nat→Int}{k:Nat}{x:Int}(hz:firstN f k=0)(h:f k=x):firstN f (k+1)=x:=by simp[firstN,hz,h]
theorem firstN_end{f:Nat→Int}{k n:Nat}(hk:k≤n)(h:k=n∨firstN f k≠0):firstN f k=firstN f n:=by
 rcases h with rfl|h
 ·rfl
 ·exact(firstN_stays hk h).symm
set_option maxHeartbeats 2000000 in
theorem typeFault_any(nm:ByteArray)(ao:Option Addr)(n cap:Nat)(fs:List Fld)(w:World)(hnm:nm.size≤maxLen)(hF:SlR w 2 fldR ao n cap fs):
  Calls Tryz.prog 27 #[.agg #[.string nm,.slice ao n cap]] w fun e w' =>e= .returned (.int .i64 (typE nm fs))∧Below w.heap.size w w' :=by
 have hnl:=hF.len
 have hle:=hF.le
 have NL:Hid (n=fs.length):=hnl
 clear hnl
 have hF1:=hF.mono fldR_stays (Joins.below_alloc1 w (.cells #[.string nm,.slice ao n cap] 51))
 by_cases hz:nameE nm=0∧n≤4
 ·obtain⟨hz,h4⟩:=hz
  have hz1:(nameE nm==0)=true:=by simp[hz]
  have H:Hid (nameE nm=0):=hz
  have h4' :decide ((4:Int)<(n:Int))=false:=by simp;omega
  go_enter Tryz.func27,Tryz.ntmps27
  go_wp2_with (go_at_call 50;refine(nameFault_any _ _ hnm).mono ?_;rintro e w' ⟨rfl,rfl⟩)
  go_loopw [3,4] (fun e i wr=> ∃ k:Nat,k≤n∧e= .int .i64 (firstN (fldE fs) k)∧i= .int .i64 k∧Below (w.alloc (.cells #[.string nm,.slice ao n cap] 51)).heap.size (w.alloc (.cells #[.string nm,.slice ao n cap] 51)) wr) (fun _ i _=>n - (intOf i).toNat)
  case atStart=>exact⟨0,by omega,rfl,rfl,Below.refl _ _⟩
  case round=>
   obtain⟨k,hk,rfl,rfl,hbr⟩:=hrel
   obtain⟨hc_wr,hf_wr⟩:=bcell hbr;have hs_wr:=hbr.size;(try simp only[World.size_alloc,World.size_drew,World.size_setCell]at hs_wr);have z0_wr:w.heap.size<wr.heap.size:=(by omega)
   have hFr:=hF1.mono fldR_stays hbr
   by_cases hgo:k<n∧firstN (fldE fs) k=0
   ·obtain⟨hlt,hfz⟩:=hgo
    have hfz1:(firstN (fldE fs) k==0)=true:=by simp[hfz]
    have FZ:Hid (firstN (fldE fs) k=0):=hfz
    obtain⟨b,off,row,hix,hblt,hrow,hrr,hfn⟩:=hFr.index (P:=Tryz.prog) Tryz.underlying49 size_field (i:=k) (by have:=NL.out;omega)
    subst hrr
    obtain⟨c0,c1⟩:=hrow.two
    have hkl:k<fs.length:=by have:=NL.out;omega
    have hgd:Hid (fs.getD k default=fs[k]):=fldE_of fs k hkl
    clear hz hfz
    obtain⟨wo,rfl⟩: ∃ wo:World,wo=wr:=⟨_,rfl⟩
    by_cases hnz:nameE fs[k].name=0
    ·have hnz1:(nameE fs[k].name==0)=true:=by simp[hnz]
     have N:Hid (nameE fs[k].name=0):=hnz;clear hnz
     cases hkd:inB fs[k].kind 1 2 with
     |true=>
      have hkd2:Hid (inB fs[k].kind 1 2=true):=hkd
      have hfk:Hid (fldE fs k=firstN (fldTwice fs k) k):=by show fldE fs k=_;unfold fldE;rw[hgd.out,if_pos N.out,if_pos hkd2.out]
      go_wp2_with (first|(go_at_call 50;refine(nameFault_any _ _ hfn).mono ?_;rintro e w' ⟨rfl,rfl⟩)|(go_at_call 14;refine(in_any _ _ _ _).mono ?_;rintro e w' ⟨rfl,rfl⟩))
      have hF2:=hFr.mono fldR_stays (Joins.below_alloc1 wo (.cells #[.string fs[k].name,.int .i64 fs[k].kind] 67))
      go_loopw [3,6] (fun e i wr=> ∃ j:Nat,j≤k∧e= .int .i64 (firstN (fldTwice fs k) j)∧i= .int .i64 j∧Below (wo.alloc (.cells #[.string fs[k].name,.int .i64 fs[k].kind] 67)).heap.size (wo.alloc (.cells #[.string fs[k].name,.int .i64 fs[k].kind] 67)) wr) (fun _ i _=>k - (intOf i).toNat)
      case atStart=>exact⟨0,by omega,by rw[N.out];rfl,rfl,Below.refl _ _⟩
      case round=>
       obtain⟨j,hj,rfl,rfl,hbr2⟩:=hrel
       obtain⟨hc_wr,hf_wr⟩:=bcell hbr2;have hs_wr:=hbr2.size;(try simp only[World.size_alloc,World.size_drew,World.size_setCell]at hs_wr);have z0_wr:w.heap.size<wr.heap.size:=(by omega)
       have y0:wo.heap.size<wr.heap.size:=by omega
       have hFj:=hF2.mono fldR_stays hbr2
       by_cases hgo2:j<k∧firstN (fldTwice fs k) j=0
       ·obtain⟨hjk,hfz2⟩:=hgo2
        have hfz3:(firstN (fldTwice fs k) j==0)=true:=by simp[hfz2]
        have FZ2:Hid (firstN (fldTwice fs k) j=0):=hfz2;clear hfz2
        obtain⟨b2,off2,row2,hix2,hblt2,hrow2,hrr2,hfn2⟩:=hFj.index (P:=Tryz.prog) Tryz.underlying49 size_field (i:=j) (by have:=NL.out;omega)
        subst hrr2
        obtain⟨d0,d1⟩:=hrow2.two
        have hgj:Hid (fs.getD j default=fs[j]):=fldE_of fs j (by omega)
        cases hsm:(fs[j].name.toList==fs[k].name.toList)with
        |true=>
         have hft:Hid (fldTwice fs k j=7):=by show fldTwice fs k j=7;unfold fldTwice sameS;rw[hgj.out,hgd.out,if_pos hsm]
         go_wp2_with fail
         go_quiet (fail)
         go_wp2
         exact⟨⟨j+1,by omega,by rw[firstN_succ FZ2.out hft.out],by go_num,hbr2.trans (Joins.below_draws _ _ _)⟩,by simp[intOf];omega⟩
        |false=>
         have hft:Hid (fldTwice fs k j=0):=by show fldTwice fs k j=0;unfold fldTwice sameS;rw[hgj.out,hgd.out,if_neg (by rw[hsm];simp)]
         go_wp2_with fail
         go_quiet (fail)
         go_wp2
         exact⟨⟨j+1,by omega,by rw[firstN_succ FZ2.out hft.out,FZ2.out],by go_num,hbr2.trans (Joins.below_draws _ _ _)⟩,by simp[intOf];omega⟩
       ·have hend:j=k∨firstN (fldTwice fs k) j≠0:=by omega
        have EN:Hid (firstN (fldTwice fs k) j=firstN (fldTwice fs k) k):=firstN_end hj hend
        by_cases hjk:j<k
        ·have hne1:(firstN (fldTwice fs k) j==0)=false:=by simp;omega
         clear hend
         go_wp2
         exact⟨⟨k+1,by omega,by rw[firstN_succ FZ.out hfk.out,EN.out],by go_num,hbr.trans (((Joins.below_alloc1 _ _).trans (hbr2.mono (by simp))).mono (by simp;omega))⟩,by simp[intOf];omega⟩
        ·clear hend
         go_wp2
         exact⟨⟨k+1,by omega,by rw[firstN_succ FZ.out hfk.out,EN.out],by go_num,hbr.trans (((Joins.below_alloc1 _ _).trans (hbr2.mono (by simp))).mono (by simp;omega))⟩,by simp[intOf];omega⟩
     |false=>
      have hfk:Hid (fldE fs k=3):=by show fldE fs k=_;unfold fldE;rw[hgd.out,if_pos N.out,if_neg (by rw[hkd];simp)]
      go_wp2_with (first|(go_at_call 50;refine(nameFault_any _ _ hfn).mono ?_;rintro e w' ⟨rfl,rfl⟩)|(go_at_call 14;refine(in_any _ _ _ _).mono ?_;rintro e w' ⟨rfl,rfl⟩))
      go_loopw [3,6] (fun e i wr=>e= .int .i64 3∧i= .int .i64 0∧Below (wo.alloc (.cells #[.string fs[k].name,.int .i64 fs[k].kind] 67)).heap.size (wo.alloc (.cells #[.string fs[k].name,.int .i64 fs[k].kind] 67)) wr) (fun _ _ _=>0)
      case atStart=>exact⟨rfl,rfl,Below.refl _ _⟩
      case round=>
       obtain⟨rfl,rfl,hbr2⟩:=hrel
       by_cases hk0:0<k
       ·go_wp2
        exact⟨⟨k+1,by omega,by rw[firstN_succ FZ.out hfk.out],by go_num,hbr.trans (((Joins.below_alloc1 _ _).trans (hbr2.mono (by simp))).mono (by simp;omega))⟩,by simp[intOf];omega⟩
       ·go_wp2
        exact⟨⟨k+1,by omega,by rw[firstN_succ FZ.out hfk.out],by go_num,hbr.trans (((Joins.below_alloc1 _ _).trans (hbr2.mono (by simp))).mono (by simp;omega))⟩,by simp[intOf];omega⟩
    ·have hnz1:(nameE fs[k].name==0)=false:=by simp[hnz]
     have hfk:Hid (fldE fs k=nameE fs[k].name):=by show fldE fs k=_;unfold fldE;rw[hgd.out,if_neg hnz]
     clear hnz
     go_wp2_with (go_at_call 50;refine(nameFault_any _ _ hfn).mono ?_;rintro e w' ⟨rfl,rfl⟩)
     go_loopw [3,6] (fun e i wr=>e= .int .i64 (nameE fs[k].name)∧i= .int .i64 0∧Below (wo.alloc (.cells #[.string fs[k].name,.int .i64 fs[k].kind] 67)).heap.size (wo.alloc (.cells #[.string fs[k].name,.int .i64 fs[k].kind] 67)) wr) (fun _ _ _=>0)
     case atStart=>exact⟨rfl,rfl,Below.refl _ _⟩
     case round=>
      obtain⟨rfl,rfl,hbr2⟩:=hrel
      by_cases hk0:0<k
      ·go_wp2
       exact⟨⟨k+1,by omega,by rw[firstN_succ FZ.out hfk.out],by go_num,hbr.trans (((Joins.below_alloc1 _ _).trans (hbr2.mono (by simp))).mono (by simp;omega))⟩,by simp[intOf];omega⟩
      ·go_wp2
       exact⟨⟨k+1,by omega,by rw[firstN_succ FZ.out hfk.out],by go_num,hbr.trans (((Joins.below_alloc1 _ _).trans (hbr2.mono (by simp))).mono (by simp;omega))⟩,by simp[intOf];omega⟩
   ·have hend:k=n∨firstN (fldE fs) k≠0:=by omega
    have EN:Hid (firstN (fldE fs) k=typE nm fs):=by
     have h1:=NL.out
     show firstN (fldE fs) k=_
     rw[firstN_end hk hend,typE,if_pos H.out,if_pos (by omega),h1]
    clear hz hgo
    by_cases hlt:k<n
    ·have hne1:(firstN (fldE fs) k==0)=false:=by simp;omega
     clear hend
     go_wp2
     go_ret
     exact⟨ret_int EN.out,(by repeat(first|exact Below.refl _ _|refine below_step ?_ (by assumption)|(refine Below.alloc ?_ (by omega) _)))⟩
    ·clear hend
     go_wp2
     go_ret
     exact⟨ret_int EN.out,(by repeat(first|exact Below.refl _ _|refine below_step ?_ (by assumption)|(refine Below.alloc ?_ (by omega) _)))⟩
 ·have EN:Hid (typE nm fs=if nameE nm=0 then 1 else nameE nm):=by
   have h1:=NL.out
   show typE nm fs=_
   unfold typE
   split
   ·rw[if_neg (by omega)]
   ·rfl
  by_cases hn0:nameE nm=0
  ·have h4:decide ((4:Int)<(n:Int))=true:=by simp;omega
   have hz1:(nameE nm==0)=true:=by simp[hn0]
   have E2:Hid (typE nm fs=1):=by show _=_;rw[EN.out,if_pos hn0]
   clear hz hn0
   go_enter Tryz.func27,Tryz.ntmps27
   go_wp2_with (go_at_call 50;refine(nameFault_any _ _ hnm).mono ?_;rintro e w' ⟨rfl,rfl⟩)
   go_loopw [3,4] (fun e i wr=>e= .int .i64 1∧i= .int .i64 0∧wr=w.alloc (.cells #[.string nm,.slice ao n cap] 51)) (fun _ _ _=>0)
   case atStart=>exact⟨rfl,rfl,rfl⟩
   case round=>
    obtain⟨rfl,rfl,rfl⟩:=hrel
    have hn1:(0:Int)<(n:Int):=by simp at h4;omega
    go_wp2
    go_ret
    exact⟨ret_int E2.out.symm,(by repeat(first|exact Below.refl _ _|(refine Below.alloc ?_ (by omega) _)))⟩
  ·have hz1:(nameE nm==0)=false:=by simp[hn0]
   have E2:Hid (typE nm fs=nameE nm):=by show _=_;rw[EN.out,if_neg hn0]
   clear hz hn0
   go_enter Tryz.func27,Tryz.ntmps27
   go_wp2_with (go_at_call 50;refine(nameFault_any _ _ hnm).mono ?_;rintro e w' ⟨rfl,rfl⟩)
   go_loopw [3,4] (fun e i wr=>e= .int .i64 (nameE nm)∧i= .int .i64 0∧wr=w.alloc (.cells #[.string nm,.slice ao n cap] 51)) (fun _ _ _=>0)
   case atStart=>exact⟨rfl,rfl,rfl⟩
   case round=>
    obtain⟨rfl,rfl,rfl⟩:=hrel
    by_cases hn1:0<n
    ·go_wp2
     go_ret
     exact⟨ret_int E2.out.symm,(by repeat(first|exact Below.refl _ _|(refine Below.alloc ?_ (by omega) _)))⟩
    ·go_wp2
     go_ret
     exact⟨ret_int E2.out.symm,(by repeat(first|exact Below.refl _ _|(refine Below.alloc ?_ (by omega) _)))⟩
def fldAt(fs:List Fld)(name:ByteArray):Nat:=fs.findIdx (fun f=>sameS f.name name)
def NoFld(fs:List Fld)(name:ByteArray)(k:Nat):Prop:= ∀ j (h:j<fs.length),j<k→sameS fs[j].name name=false
theorem noFld_zero(fs:List Fld)(name:ByteArray):NoFld fs name 0:=fun j _ h=>absurd h (Nat.not_lt_zero j)
theorem noFld_succ{fs:List Fld}{name:ByteArray}{k:Nat}(h:NoFld fs name k)(hk:k<fs.length)(hs:sameS fs[k].name name=false):NoFld fs name (k+1):=fun j hj hjk=>by
 rcases Nat.lt_succ_iff_lt_or_eq.1 hjk with h' |rfl
 ·exact h j hj h'
 ·exact hs
theorem fldAt_of{fs:List Fld}{name:ByteArray}{k:Nat}(h:NoFld fs name k)(hk:k<fs.length)(hs:sameS fs[k].name name=true):fldAt fs name=k:=by
 unfold fldAt
 rw[List.findIdx_eq hk]
 exact⟨hs,fun j hj=>h j (by omega) hj⟩
theorem fldAt_none{fs:List Fld}{name:ByteArray}(h:NoFld fs name fs.length):fldAt fs name=fs.length:=by
 unfold fldAt
 rw[List.findIdx_eq_length]
 intro f hf
 obtain⟨j,hj,rfl⟩:=List.mem_iff_getElem.1 hf
 exact h j hj hj
def fieldE(nm:ByteArray)(fs:List Fld)(name:ByteArray):Int:=if typE nm fs=0 then(if fldAt fs name<fs.length then 0 else 6)else typE nm fs
def fieldX(nm:ByteArray)(fs:List Fld)(name:ByteArray):Int:=if fieldE nm fs name=0 then(fldAt fs name:Nat)else 0
def fieldK(nm:ByteArray)(fs:List Fld)(name:ByteArray):Int:=if fieldE nm fs name=0 then(fs.getD (fldAt fs name) default).kind else 0
theorem ret_iii{k k' k'' :IntKind}{a b c d e f:Int}(h:a=d)(h' :b=e)(h'' :c=f):Ending.returned (.tuple #[.int k a,.int k' b,.int k'' c])= .returned (.tuple #[.int k d,.int k' e,.int k'' f]):=by rw[h,h',h'']
set_option maxHeartbeats 1000000 in
theorem field_any(nm:ByteArray)(ao:Option Addr)(n cap:Nat)(fs:List Fld)(name:ByteArray)(w:World)(hnm:nm.size≤maxLen)(hF:SlR w 2 fldR ao n cap fs):
  Calls Tryz.prog 67 #[.agg #[.string nm,.slice ao n cap],.string name] w fun e w' =>e= .returned (.tuple #[.int .i64 (fieldX nm fs name),.int .i64 (fieldK nm fs name),.int .i64 (fieldE nm fs name)])∧Below w.heap.size w w' :=by
 have hnl:=hF.len
 have hle:=hF.le
 have NL:Hid (n=fs.length):=hnl
 clear hnl
 have hF1:=hF.mono fldR_stays (Joins.below_alloc1 w (.cells #[.string nm,.slice ao n cap] 51))
 by_cases hz:typE nm fs=0
 ·have hz1:(typE nm fs !=0)=false:=by simp[hz]
  have H:Hid (typE nm fs=0):=hz;clear hz
  go_enter Tryz.func67,Tryz.ntmps67
  go_wp2_with fail
  refine(checkType_any nm ao n cap fs _ hnm hF1).mono ?_
  rintro e w1 ⟨rfl,hb1⟩
  obtain⟨hc_w1,hf_w1⟩:=bcell hb1;have hs_w1:=hb1.size;(try simp only[World.size_alloc,World.size_drew,World.size_setCell]at hs_w1);have z0_w1:w.heap.size<w1.heap.size:=(by omega)
  have hF2:=hF1.mono fldR_stays hb1
  go_wp2_with fail
  go_loopw [18] (fun i wr=> ∃ k:Nat,k≤n∧i= .int .i64 k∧NoFld fs name k∧Below w1.heap.size w1 wr) (fun i _=>n - (intOf i).toNat)
  case atStart=>exact⟨0,by omega,rfl,noFld_zero _ _,Below.refl _ _⟩
  case round=>
   obtain⟨k,hk,rfl,hno,hbr⟩:=hrel
   obtain⟨hc_wr,hf_wr⟩:=bcell hbr;have hs_wr:=hbr.size;have z0_wr:w.heap.size<wr.heap.size:=(by omega)
   have hFr:=hF2.mono fldR_stays hbr
   by_cases hlt:k<n
   ·obtain⟨b,off,row,hix,hblt,hrow,hrr,hfn⟩:=hFr.index (P:=Tryz.prog) Tryz.underlying49 size_field (i:=k) (by have:=NL.out;omega)
    subst hrr
    obtain⟨c0,c1⟩:=hrow.two
    have hkl:k<fs.length:=by have:=NL.out;omega
    have hgd:Hid (fs.getD k default=fs[k]):=fldE_of fs k hkl
    cases hsm:(fs[k].name.toList==name.toList)with
    |true=>
     have hat:Hid (fldAt fs name=k):=fldAt_of hno hkl hsm
     go_wp2_with fail
     go_quiet (fail)
     go_wp2
     go_ret3
     have he:fieldE nm fs name=0:=by unfold fieldE;rw[if_pos H.out,hat.out,if_pos hkl]
     exact⟨ret_iii (by simp[fieldX,he,hat.out]) (by simp only[fieldK,he,hat.out,hgd.out];simp) he.symm,(by repeat(first|exact Below.refl _ _|refine below_step ?_ (by assumption)|refine below_step ?_ (Joins.below_draws _ _ _)|(refine Below.alloc ?_ (by omega) _)))⟩
    |false=>
     go_wp2
     go_roundw
     case rel=>exact⟨k+1,by omega,by go_num,noFld_succ hno hkl hsm,hbr.trans ((Joins.below_alloc1 _ _).mono hbr.size)⟩
     case measure=>simp[intOf];omega
   ·go_wp2
    go_ret3
    have hkn:k=fs.length:=by have:=NL.out;omega
    subst hkn
    have he:fieldE nm fs name=6:=by unfold fieldE;rw[if_pos H.out,fldAt_none hno,if_neg (by omega)]
    exact⟨ret_iii (by simp[fieldX,he]) (by simp[fieldK,he]) he.symm,(by repeat(first|exact Below.refl _ _|refine below_step ?_ (by assumption)|(refine Below.alloc ?_ (by omega) _)))⟩
 ·have hz1:(typE nm fs !=0)=true:=by simp[hz]
  have H:Hid (¬ typE nm fs=0):=hz;clear hz
  go_enter Tryz.func67,Tryz.ntmps67
  go_wp2_with fail
  refine(checkType_any nm ao n cap fs _ hnm hF1).mono ?_
  rintro e w1 ⟨rfl,hb1⟩
  go_wp2
  go_ret3
  have he:fieldE nm fs name=typE nm fs:=by unfold fieldE;rw[if_neg H.out]
  exact⟨ret_iii (by simp[fieldX,he,H.out]) (by simp[fieldK,he,H.out]) he.symm,(by repeat(first|exact Below.refl _ _|refine below_step ?_ (by assumption)|(refine Below.alloc ?_ (by omega) _)))⟩
def atI(fs:List Fld)(name:ByteArray):Int:=if fldAt fs name<fs.length then(fldAt fs name:Nat)else -1
set_option maxHeartbeats 1000000 in
theorem fieldAt_any(nm:ByteArray)(ao:Option Addr)(n cap:Nat)(fs:List Fld)(name:ByteArray)(w:World)(hF:SlR w 2 fldR ao n cap fs):
  Calls Tryz.prog 85 #[.agg #[.string nm,.slice ao n cap],.string name] w fun e w' =>e= .returned (.int .i64 (atI fs name))∧Below w.heap.size w w' :=by
 have hnl:=hF.len
 have hle:=hF.le
 have NL:Hid (n=fs.length):=hnl
 clear hnl
 have hF1:=hF.mono fldR_stays (Joins.below_alloc1 w (.cells #[.string nm,.slice ao n cap] 51))
 go_enter Tryz.func85,Tryz.ntmps85
 go_wp2_with fail
 go_loop [5] (fun i=> ∃ k:Nat,k≤n∧i= .int .i64 k∧NoFld fs name k) (fun i=>n - (intOf i).toNat)
 case atStart=>exact⟨0,by omega,rfl,noFld_zero _ _⟩
 case round=>
  obtain⟨k,hk,rfl,hno⟩:=hrel
  by_cases hlt:k<n
  ·obtain⟨b,off,row,hix,hblt,hrow,hrr,hfn⟩:=hF1.index (P:=Tryz.prog) Tryz.underlying49 size_field (i:=k) (by have:=NL.out;omega)
   subst hrr
   obtain⟨c0,c1⟩:=hrow.two
   have hkl:k<fs.length:=by have:=NL.out;omega
   cases hsm:(fs[k].name.toList==name.toList)with
   |true=>
    have hat:Hid (fldAt fs name=k):=fldAt_of hno hkl hsm
    go_wp2
    go_ret
    exact⟨ret_int (by simp[atI,hat.out,hkl]),(by repeat(first|exact Below.refl _ _|(refine Below.alloc ?_ (by omega) _)))⟩
   |false=>
    go_wp2
    go_round
    case rel=>exact⟨k+1,by omega,by go_num,noFld_succ hno hkl hsm⟩
    case measure=>simp[intOf];omega
  ·go_wp2
   go_ret
   have hkn:k=fs.length:=by have:=NL.out;omega
   subst hkn
   exact⟨ret_int (by simp[atI,fldAt_none hno]),(by repeat(first|exact Below.refl _ _|(refine Below.alloc ?_ (by omega) _)))⟩
def optE(r l h:Int):Int:=if 1≤r∧r≤13 then(if(0≤l∧l≤1073741824)∧(-1≤h∧h≤1073741824)then(if h≠ -1∧h<l then 11 else 0)else 2)else 3
theorem ret_int' {k:IntKind}{a b:Int}(h:a=b):Ending.returned (.int k a)= .returned (.int k b):=by rw[h]
theorem ret_bool' {a b:Bool}(h:a=b):Ending.returned (.bool a)= .returned (.bool b):=by rw[h]
set_option maxHeartbeats 400000 in
theorem optCheck_any(r l h:Int)(w:World):
  Calls Tryz.prog 69 #[.agg #[.int .i64 r,.int .i64 l,.int .i64 h]] w fun e w' =>e= .returned (.int .i64 (optE r l h))∧Below w.heap.size w w' :=by
 go_enter Tryz.func69,Tryz.ntmps69
 go_wp2
 all_goals(go_ret;refine⟨?_,(by repeat(first|exact Below.refl _ _|(refine Below.alloc ?_ (by omega) _)))⟩;exact ret_int' (by go_light;unfold optE;(try simp only[Bool.not_eq_true',Bool.not_eq_false',decide_eq_true_eq,decide_eq_false_iff_not]at *);(repeat' split)<;>omega))
set_option maxHeartbeats 400000 in
theorem optFault_any(r l h:Int)(w:World):
  Calls Tryz.prog 86 #[.agg #[.int .i64 r,.int .i64 l,.int .i64 h]] w fun e w' =>e= .returned (.int .i64 (optE r l h))∧Below w.heap.size w w' :=by
 by_cases hh:h= -1
 ·subst hh
  go_enter Tryz.func86,Tryz.ntmps86
  go_wp2
  all_goals(go_ret;refine⟨?_,(by repeat(first|exact Below.refl _ _|(refine Below.alloc ?_ (by omega) _)))⟩;exact ret_int' (by go_light;unfold optE;(try simp only[Bool.not_eq_true',Bool.not_eq_false',decide_eq_true_eq,decide_eq_false_iff_not]at *);(repeat' split)<;>omega))
 ·have hb:(h != -1)=true:=by rw[bne_iff_ne];exact hh
  go_enter Tryz.func86,Tryz.ntmps86
  go_wp2
  all_goals(go_ret;refine⟨?_,(by repeat(first|exact Below.refl _ _|(refine Below.alloc ?_ (by omega) _)))⟩;exact ret_int' (by go_light;unfold optE;(try simp only[Bool.not_eq_true',Bool.not_eq_false',decide_eq_true_eq,decide_eq_false_iff_not]at *);(repeat' split)<;>omega))
end Go.Proofs.YtncmghnhfipklaaGreatDoor
