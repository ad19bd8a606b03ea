/-
  The walks of package value and of its reference, second part: types.
-/
import Derived.Test.YtcebfkdhicbmkaaDoorValW
namespace Go.Proofs.YtcebfkdhicbmkaaDoor
open Go.RowKit
set_option linter.unusedVariables false
set_option linter.unusedSimpArgs false
def fldR:World→List Value→Fld→Prop:=fun _ row f=>row=fldC f∧f.name.size≤maxLen
theorem fldR_stays:Stays fldR:=fun _ _ _ _ _ h=>h
def valR:World→List Value→Val→Prop:=fun _ row v=>row=valC v∧v.text.size≤maxLen
theorem valR_stays:Stays valR:=fun _ _ _ _ _ h=>h
theorem size_field:SizeIs Tryd.prog 41 2:=fun w=>by kernel_rfl
theorem size_value:SizeIs Tryd.prog 63 3:=fun w=>by kernel_rfl
theorem fldE_of(fs:List Fld)(i:Nat)(hi:i<fs.length):fs.getD i default=fs[i]:=by simp[List.getD,List.getElem?_eq_getElem hi]
set_option maxHeartbeats 1000000 in
theorem checkType_any(nm:ByteArray)(ao:Option Addr)(n cap:Nat)(fs:List Fld)(w:World)(hnm:nm.size≤maxLen)(hF:SlR w 2 fldR ao n cap fs):
    Calls Tryd.prog 14 #[.agg #[.string nm,.slice ao n cap]] w fun e w' =>e= .returned (.int .i64 (typE nm fs))∧Below w.heap.size w w' :=by
  by_cases hz:nameE nm=0
  · have hz1:(nameE nm !=0)=false:=by simp[hz]
    have H:Hid (nameE nm=0):=hz;clear hz
    have hnl:=hF.len
    have hle:=hF.le
    by_cases h4:4<n
    · have h4' :(4:Int)<(n:Int):=by omega
      go_enter Tryd.func14,Tryd.ntmps14
      go_wp2_with (go_at_call 32;refine(name_any _ _ hnm).mono ?_;rintro e w' ⟨rfl,rfl⟩)
      go_ret
      exact⟨ret_int (by simp[typE,H.out];omega),(by repeat(first|exact Below.refl _ _|(refine Below.alloc ?_ (by omega) _)))⟩
    · have h4' : ¬ (4:Int)<(n:Int):=by omega
      have NL:Hid (n=fs.length):=hnl
      clear hnl
      go_enter Tryd.func14,Tryd.ntmps14
      go_wp2_with (go_at_call 32;refine(name_any _ _ hnm).mono ?_;rintro e w' ⟨rfl,rfl⟩)
      have hF1:=hF.mono fldR_stays (Joins.below_alloc1 w (.cells #[.string nm,.slice ao n cap] 38))
      go_loopw [22] (fun i wr=> ∃ k:Nat,k≤n∧i= .int .i64 k∧AllZ (fldE fs) k∧Below (w.alloc (.cells #[.string nm,.slice ao n cap] 38)).heap.size (w.alloc (.cells #[.string nm,.slice ao n cap] 38)) wr) (fun i _=>n - (intOf i).toNat)
      case atStart=>exact⟨0,by omega,rfl,allZ_zero _,Below.refl _ _⟩
      case round=>
        obtain⟨k,hk,rfl,haz,hbr⟩:=hrel
        obtain⟨hc_wr,hf_wr⟩:=bcell hbr;have hs_wr:=hbr.size;(try simp only[World.size_alloc,World.size_drew,World.size_setCell]at hs_wr);have z0_wr:w.heap.size<wr.heap.size:=(by omega)
        have hFr:=hF1.mono fldR_stays hbr
        by_cases hlt:k<n
        · obtain⟨b,off,row,hix,hblt,hrow,hrr,hfn⟩:=hFr.index (P:=Tryd.prog) Tryd.underlying36 size_field (i:=k) (by have:=NL.out;omega)
          subst hrr
          obtain⟨c0,c1⟩:=hrow.two
          have hkl:k<fs.length:=by have:=NL.out;omega
          have hgd:Hid (fs.getD k default=fs[k]):=fldE_of fs k hkl
          by_cases hnz:nameE fs[k].name=0
          · have hnz1:(nameE fs[k].name !=0)=false:=by simp[hnz]
            have N:Hid (nameE fs[k].name=0):=hnz;clear hnz
            by_cases hkd:fs[k].kind=1∨fs[k].kind=2
            · have hkd2:Hid (inB fs[k].kind 1 2=true):=by show inB _ _ _=true;rw[inB_true];omega
              have hfk:Hid (fldE fs k=firstN (fldTwice fs k) k):=by show fldE fs k=_;unfold fldE;rw[hgd.out,if_pos N.out,if_pos hkd2.out]
              have hkd1:((fs[k].kind !=1)=true∧(fs[k].kind !=2)=false)∨((fs[k].kind !=1)=false):=by
                rcases hkd with h|h<;>simp[h]
              clear hkd
              obtain⟨wo,rfl⟩: ∃ wo:World,wo=wr:=⟨_,rfl⟩
              rcases hkd1 with⟨hk1,hk2⟩|hk1
              all_goals
                go_wp2_with (go_at_call 32;refine(name_any _ _ hfn).mono ?_;rintro e w' ⟨rfl,rfl⟩)
                have hF2:=hFr.mono fldR_stays (Joins.below_alloc1 wo (.cells #[.string fs[k].name,.int .i64 fs[k].kind] 41))
                go_loopw [46] (fun i wr=> ∃ j:Nat,j≤k∧i= .int .i64 j∧AllZ (fldTwice fs k) j∧Below (wo.alloc (.cells #[.string fs[k].name,.int .i64 fs[k].kind] 41)).heap.size (wo.alloc (.cells #[.string fs[k].name,.int .i64 fs[k].kind] 41)) wr) (fun i _=>k - (intOf i).toNat)
                case atStart=>exact⟨0,by omega,rfl,allZ_zero _,Below.refl _ _⟩
                case round=>
                  obtain⟨j,hj,rfl,haz2,hbr2⟩:=hrel
                  obtain⟨hc_wr,hf_wr⟩:=bcell hbr2;have hs_wr:=hbr2.size;(try simp only[World.size_alloc,World.size_drew,World.size_setCell]at hs_wr)
                  have y0:wo.heap.size<wr.heap.size:=by omega
                  have hFj:=hF2.mono fldR_stays hbr2
                  by_cases hjk:j<k
                  · obtain⟨b2,off2,row2,hix2,hblt2,hrow2,hrr2,hfn2⟩:=hFj.index_cut (P:=Tryd.prog) Tryd.underlying36 size_field (i:=j) (m:=k) hjk (by have:=NL.out;omega)
                    subst hrr2
                    obtain⟨d0,d1⟩:=hrow2.two
                    have hgj:Hid (fs.getD j default=fs[j]):=fldE_of fs j (by omega)
                    cases hsm:(fs[j].name.toList==fs[k].name.toList)with
                    |true=>
                      have hft:Hid (fldTwice fs k j=7):=by show fldTwice fs k j=7;unfold fldTwice sameS;rw[hgj.out,hgd.out,if_pos hsm]
                      go_wp2
                      go_ret
                      have h2:=firstN_at haz2 hjk (by rw[hft.out];omega)
                      rw[hft.out,←hfk.out]at h2
                      have h3:=firstN_at haz hkl (by rw[h2];omega)
                      exact⟨ret_int (by have h1:=NL.out;rw[h2]at h3;simp[typE,H.out,h3];omega),below_step (below_step (Joins.below_alloc1 _ _) hbr) (below_step (below_step (Joins.below_alloc1 _ _) hbr2) (Joins.below_alloc1 _ _))⟩
                    |false=>
                      have hft:Hid (fldTwice fs k j=0):=by show fldTwice fs k j=0;unfold fldTwice sameS;rw[hgj.out,hgd.out,if_neg (by rw[hsm];simp)]
                      go_wp2
                      exact⟨⟨j+1,by omega,by go_num,allZ_succ haz2 hft.out,hbr2.trans ((Joins.below_alloc1 _ _).mono hbr2.size)⟩,by simp[intOf];omega⟩
                  · go_wp2
                    have hjk' :j=k:=by omega
                    subst hjk'
                    exact⟨⟨j+1,by omega,by go_num,allZ_succ haz (by rw[hfk.out];exact firstN_zero haz2),hbr.trans (((Joins.below_alloc1 _ _).trans (hbr2.mono (by simp))).mono (by simp;omega))⟩,by simp[intOf];omega⟩
            · have hk1:(fs[k].kind !=1)=true:=by rw[bne_iff_ne];omega
              have hk2:(fs[k].kind !=2)=true:=by rw[bne_iff_ne];omega
              have hfk:Hid (fldE fs k=3):=by
                                                   show fldE fs k=_;have:inB fs[k].kind 1 2=false:=by(rw[inB_false];omega)
                                                   unfold fldE;rw[hgd.out,if_pos N.out,if_neg (by rw[this];simp)]
              clear hkd
              go_wp2_with (go_at_call 32;refine(name_any _ _ hfn).mono ?_;rintro e w' ⟨rfl,rfl⟩)
              go_ret
              exact⟨ret_int (by have h1:=NL.out;have h2:=firstN_at haz hkl (by rw[hfk.out];omega);rw[hfk.out]at h2;simp[typE,H.out,h2];omega),(by repeat(first|exact Below.refl _ _|refine below_step ?_ (by assumption)|(refine Below.alloc ?_ (by omega) _)))⟩
          · have hnz1:(nameE fs[k].name !=0)=true:=by simp[hnz]
            have hfk:Hid (fldE fs k=nameE fs[k].name):=by show fldE fs k=_;unfold fldE;rw[hgd.out,if_neg hnz]
            have N:Hid (¬ nameE fs[k].name=0):=hnz;clear hnz
            go_wp2_with (go_at_call 32;refine(name_any _ _ hfn).mono ?_;rintro e w' ⟨rfl,rfl⟩)
            go_ret
            exact⟨ret_int (by have h1:=NL.out;have h2:=firstN_at haz hkl (by rw[hfk.out];exact N.out);rw[hfk.out]at h2;simp[typE,H.out,h2];omega),(by repeat(first|exact Below.refl _ _|refine below_step ?_ (by assumption)|(refine Below.alloc ?_ (by omega) _)))⟩
        · go_wp2
          go_ret
          have hkn:k=fs.length:=by have:=NL.out;omega
          subst hkn
          exact⟨ret_int (by have:=NL.out;simp[typE,H.out,firstN_zero haz];try omega),(by repeat(first|exact Below.refl _ _|refine below_step ?_ (by assumption)|(refine Below.alloc ?_ (by omega) _)))⟩
  · have hz1:(nameE nm !=0)=true:=by simp[hz]
    have H:Hid (¬ nameE nm=0):=hz;clear hz
    go_enter Tryd.func14,Tryd.ntmps14
    go_wp2_with (go_at_call 32;refine(name_any _ _ hnm).mono ?_;rintro e w' ⟨rfl,rfl⟩)
    go_ret
    exact⟨ret_int (by simp[typE,H.out]),(by repeat(first|exact Below.refl _ _|(refine Below.alloc ?_ (by omega) _)))⟩
end Go.Proofs.YtcebfkdhicbmkaaDoor
