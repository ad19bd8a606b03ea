/-
  The walks of the reference's BookFault, ninth part: does a rule speak of a type? Printed by chki.py.
-/
import Derived.Test.YtncmghnhfipklaaGreatDoorPw21
namespace Go.Proofs.YtncmghnhfipklaaGreatDoor
open Go.RowKit
set_option linter.unusedVariables false
set_option linter.unusedSimpArgs false
section
variable {g:Nat} {F:Nat→Prop} {w0:World}
set_option maxRecDepth 8000 in
set_option maxHeartbeats 4000000 in
theorem speaksOf_any(hg:g<w0.heap.size)(x:Rul)(row:List Value)(h:rulF F w0 row x)(nm:ByteArray):
  Calls Tryz.prog 57 #[.agg row.toArray,.string nm] w0 fun e w' =>e= .returned (.bool (speaks x nm))∧Below w0.heap.size w0 w' :=by
 obtain⟨a1,n1,c1,a2,n2,c2,a3,n3,c3,a4,n4,c4,a6,n6,c6,rfl,X1,X2,X3,X4,X6⟩:=h
 have M:=Mem.begin hg ⟨0,0⟩
 have hle1:=X1.le
 have hle2:=X2.le
 have hle3:=X3.le
 have NLn1:=Lib.hid X1.len
 have NLn2:=Lib.hid X2.len
 have NLn3:=Lib.hid X3.len
 have HXn1:=Lib.hid X1
 have HXn2:=Lib.hid X2
 have HXn3:=Lib.hid X3
 unfold rulC
 clear X1 X2 X3 X4 X6 hg
 go_enter Tryz.func57,Tryz.ntmps57
 go_wp2_with (with_reducible (refine wB (L:=[]) M ?_;clear M;intro za w1 M))
 go_loopw [5] (fun i wr=> ∃ j:Nat,j≤n1∧i= .int .i64 j∧Mem (StaysB g w0) g w0 wr ⟨0,0⟩ (own za [.string x.name,.slice a1 n1 c1,.slice a2 n2 c2,.slice a3 n3 c3,.slice a4 n4 c4,.string x.etype,.slice a6 n6 c6] 47::[])∧Hid (NoB x.whens (fun p=>sameS p.type nm) j)) (fun i _=>n1 - (intOf i).toNat)
 case atStart=>exact⟨0,by omega,rfl,M,noB_zero _ _⟩
 case round=>
  clear M
  obtain⟨j,hj,rfl,M,HB⟩:=hrel
  by_cases hltj:j<n1
  ·have hkl:j<x.whens.length:=by have:=NLn1.out;omega
   obtain⟨ca,oa,rowa,hixa, -,hrra,hwa⟩:=SlF.rowAt (P:=Tryz.prog) HXn1.out patF_firm Tryz.underlying40 size_pat (i:=j) hkl
   obtain⟨p1,q1,s1,ea,u1⟩:=hrra
   subst ea
   have HA0:Hid (∀ wx,Below w0.heap.size w0 wx→wx.cell? ⟨ca,oa+1,none⟩=some (.string x.whens[j].type)):=fun wx hb=>(hwa wx hb).1 1 _ rfl
   have HP:Hid (∀ b,sameS x.whens[j].type nm=b→(x.whens[j].type.toList==nm.toList)=b):=fun b h=>h
   have HT:Hid (sameS x.whens[j].type nm=false→NoB x.whens (fun p=>sameS p.type nm) (j+1)):=fun h=>noB_succ HB.out hkl h
   have HN:Hid (sameS x.whens[j].type nm=true→speaks x nm=true):=fun h=>by
    have e:x.whens.any (fun p=>sameS p.type nm)=true:=List.any_eq_true.2 ⟨_,List.getElem_mem hkl,h⟩
    unfold speaks
    rw[e];simp
   clear hwa u1 HB
   generalize x.whens[j].type=y at HA0 HP HT HN
   cases hsm:sameS y nm with
   |true=>
    have hq:=HP.out _ hsm
    have HV2:=Lib.hid (HN.out hsm)
    clear HP HT HN hsm
    go_wp2_with (with_reducible (first|refine wq M ?_|refine wC (HA0.out _ M.new) ?_))
    go_ret
    rw[HV2.out]
    exact⟨rfl,M.new⟩
   |false=>
    have hq:=HP.out _ hsm
    have HV2:=Lib.hid (HT.out hsm)
    clear HP HT HN hsm
    go_wp2_with (with_reducible (first|refine wq M ?_|refine wC (HA0.out _ M.new) ?_))
    go_roundw
    case rel=>exact⟨j+1,by omega,by go_num,M,HV2⟩
    case measure=>simp[intOf];omega
  ·have HZj:Hid (x.whens.any (fun p=>sameS p.type nm)=false):=List.any_eq_false.2 (fun q hq=>by
    obtain⟨i,hi,rfl⟩:=List.mem_iff_getElem.1 hq
    have e:=HB.out i hi (by have:=NLn1.out;omega)
    simpa using e)
   clear HB
   go_wp2_with (with_reducible refine wq M ?_)
   go_loopw [6] (fun i wr=> ∃ j:Nat,j≤n2∧i= .int .i64 j∧Mem (StaysB g w0) g w0 wr ⟨0,0⟩ (own za [.string x.name,.slice a1 n1 c1,.slice a2 n2 c2,.slice a3 n3 c3,.slice a4 n4 c4,.string x.etype,.slice a6 n6 c6] 47::[])∧Hid (NoB x.nots (fun p=>sameS p.type nm) j)) (fun i _=>n2 - (intOf i).toNat)
   case atStart=>exact⟨0,by omega,rfl,M,noB_zero _ _⟩
   case round=>
    clear M
    obtain⟨k,hk,rfl,M,HB⟩:=hrel
    by_cases hltk:k<n2
    ·have hkl:k<x.nots.length:=by have:=NLn2.out;omega
     obtain⟨ca,oa,rowa,hixa, -,hrra,hwa⟩:=SlF.rowAt (P:=Tryz.prog) HXn2.out patF_firm Tryz.underlying40 size_pat (i:=k) hkl
     obtain⟨p1,q1,s1,ea,u1⟩:=hrra
     subst ea
     have HA0:Hid (∀ wx,Below w0.heap.size w0 wx→wx.cell? ⟨ca,oa+1,none⟩=some (.string x.nots[k].type)):=fun wx hb=>(hwa wx hb).1 1 _ rfl
     have HP:Hid (∀ b,sameS x.nots[k].type nm=b→(x.nots[k].type.toList==nm.toList)=b):=fun b h=>h
     have HT:Hid (sameS x.nots[k].type nm=false→NoB x.nots (fun p=>sameS p.type nm) (k+1)):=fun h=>noB_succ HB.out hkl h
     have HN:Hid (sameS x.nots[k].type nm=true→speaks x nm=true):=fun h=>by
      have e:x.nots.any (fun p=>sameS p.type nm)=true:=List.any_eq_true.2 ⟨_,List.getElem_mem hkl,h⟩
      unfold speaks
      rw[e];simp
     clear hwa u1 HB
     generalize x.nots[k].type=y at HA0 HP HT HN
     cases hsm:sameS y nm with
     |true=>
      have hq:=HP.out _ hsm
      have HV2:=Lib.hid (HN.out hsm)
      clear HP HT HN hsm
      go_wp2_with (with_reducible (first|refine wq M ?_|refine wC (HA0.out _ M.new) ?_))
      go_ret
      rw[HV2.out]
      exact⟨rfl,M.new⟩
     |false=>
      have hq:=HP.out _ hsm
      have HV2:=Lib.hid (HT.out hsm)
      clear HP HT HN hsm
      go_wp2_with (with_reducible (first|refine wq M ?_|refine wC (HA0.out _ M.new) ?_))
      go_roundw
      case rel=>exact⟨k+1,by omega,by go_num,M,HV2⟩
      case measure=>simp[intOf];omega
    ·have HZk:Hid (x.nots.any (fun p=>sameS p.type nm)=false):=List.any_eq_false.2 (fun q hq=>by
      obtain⟨i,hi,rfl⟩:=List.mem_iff_getElem.1 hq
      have e:=HB.out i hi (by have:=NLn2.out;omega)
      simpa using e)
     clear HB
     go_wp2_with (with_reducible refine wq M ?_)
     go_loopw [7] (fun i wr=> ∃ j:Nat,j≤n3∧i= .int .i64 j∧Mem (StaysB g w0) g w0 wr ⟨0,0⟩ (own za [.string x.name,.slice a1 n1 c1,.slice a2 n2 c2,.slice a3 n3 c3,.slice a4 n4 c4,.string x.etype,.slice a6 n6 c6] 47::[])∧Hid (NoB x.manies (fun p=>sameS p.pat.type nm) j)) (fun i _=>n3 - (intOf i).toNat)
     case atStart=>exact⟨0,by omega,rfl,M,noB_zero _ _⟩
     case round=>
      clear M
      obtain⟨m,hm,rfl,M,HB⟩:=hrel
      by_cases hltm:m<n3
      ·have hkl:m<x.manies.length:=by have:=NLn3.out;omega
       obtain⟨ca,oa,rowa,hixa, -,hrra,hwa⟩:=SlF.rowAt (P:=Tryz.prog) HXn3.out manF_firm Tryz.underlying41 size_man (i:=m) hkl
       obtain⟨p1,q1,s1,ea,u1⟩:=hrra
       subst ea
       have HA0:Hid (∀ wx,Below w0.heap.size w0 wx→wx.cell? ⟨ca,oa+3,none⟩=some (.string x.manies[m].pat.type)):=fun wx hb=>(hwa wx hb).1 3 _ rfl
       have HP:Hid (∀ b,sameS x.manies[m].pat.type nm=b→(x.manies[m].pat.type.toList==nm.toList)=b):=fun b h=>h
       have HT:Hid (sameS x.manies[m].pat.type nm=false→NoB x.manies (fun p=>sameS p.pat.type nm) (m+1)):=fun h=>noB_succ HB.out hkl h
       have HN:Hid (sameS x.manies[m].pat.type nm=true→speaks x nm=true):=fun h=>by
        have e:x.manies.any (fun p=>sameS p.pat.type nm)=true:=List.any_eq_true.2 ⟨_,List.getElem_mem hkl,h⟩
        unfold speaks
        rw[e];simp
       clear hwa u1 HB
       generalize x.manies[m].pat.type=y at HA0 HP HT HN
       cases hsm:sameS y nm with
       |true=>
        have hq:=HP.out _ hsm
        have HV2:=Lib.hid (HN.out hsm)
        clear HP HT HN hsm
        go_wp2_with (with_reducible (first|refine wq M ?_|refine wC (HA0.out _ M.new) ?_))
        go_ret
        rw[HV2.out]
        exact⟨rfl,M.new⟩
       |false=>
        have hq:=HP.out _ hsm
        have HV2:=Lib.hid (HT.out hsm)
        clear HP HT HN hsm
        go_wp2_with (with_reducible (first|refine wq M ?_|refine wC (HA0.out _ M.new) ?_))
        go_roundw
        case rel=>exact⟨m+1,by omega,by go_num,M,HV2⟩
        case measure=>simp[intOf];omega
      ·have HZm:Hid (x.manies.any (fun p=>sameS p.pat.type nm)=false):=List.any_eq_false.2 (fun q hq=>by
        obtain⟨i,hi,rfl⟩:=List.mem_iff_getElem.1 hq
        have e:=HB.out i hi (by have:=NLn3.out;omega)
        simpa using e)
       clear HB
       go_wp2_with (with_reducible refine wq M ?_)
       go_ret
       have e:speaks x nm=false:=by unfold speaks;rw[HZj.out,HZk.out,HZm.out];rfl
       rw[e]
       exact⟨rfl,M.new⟩
end
section
variable {g:Nat} {F:Nat→Prop} {w0:World} {rs:List Rul}
def comesQ(rs:List Rul)(k:Nat)(to fr:ByteArray)(x:Rul):Bool:=!emS x.etype&&speaks x fr&&(sameS x.etype to||comesB rs k to x.etype)
theorem comes_succ(k:Nat)(to fr:ByteArray):comesB rs (k+1) to fr=rs.any (comesQ rs k to fr):=rfl
set_option maxRecDepth 8000 in
set_option maxHeartbeats 4000000 in
theorem comesOf_zero(to fr:ByteArray)(a1:Option Addr)(n1 c1:Nat)(a2:Option Addr)(n2 c2:Nat)(hX:SlF F w0 7 rulF a2 n2 c2 rs)(hg:g<w0.heap.size):
  Calls Tryz.prog 31 #[.agg #[.slice a1 n1 c1,.slice a2 n2 c2],.string to,.string fr,.int .i64 0] w0 fun e w' =>e= .returned (.bool (comesB rs 0 to fr))∧Below w0.heap.size w0 w' :=by
 have M:=Mem.begin hg ⟨0,0⟩
 have hle:=hX.le
 show Calls Tryz.prog 31 #[.agg #[.slice a1 n1 c1,.slice a2 n2 c2],.string to,.string fr,.int .i64 0] w0 fun e w' =>e= .returned (.bool false)∧Below w0.heap.size w0 w'
 clear hX hg
 go_enter Tryz.func31,Tryz.ntmps31
 go_wp2_with (with_reducible (refine wB (L:=[]) M ?_;clear M;intro za w1 M))
 go_loopw [9] (fun i wr=> ∃ j:Nat,j≤n2∧i= .int .i64 j∧Mem (StaysB g w0) g w0 wr ⟨0,0⟩ (own za [.slice a1 n1 c1,.slice a2 n2 c2] 25::[])) (fun i _=>n2 - (intOf i).toNat)
 case atStart=>exact⟨0,by omega,rfl,M⟩
 case round=>
  clear M
  obtain⟨j,hj,rfl,M⟩:=hrel
  by_cases hlt:j<n2
  ·have hd:decide (j<n2)=true:=by simpa using hlt
   go_wp2_with (with_reducible refine wq M ?_)
   go_ret
   exact⟨rfl,M.new⟩
  ·have hd:decide (j<n2)=false:=by simpa using hlt
   go_wp2_with (with_reducible refine wq M ?_)
   go_ret
   exact⟨rfl,M.new⟩
set_option maxRecDepth 8000 in
set_option maxHeartbeats 8000000 in
theorem comesOf_succ(k:Nat)(hk:k≤1000000)(to fr:ByteArray)(a1:Option Addr)(n1 c1:Nat)(a2:Option Addr)(n2 c2:Nat)(hX:SlF F w0 7 rulF a2 n2 c2 rs)(hg:g<w0.heap.size)
  (hI: ∀ (f2:ByteArray) (wx:World),Below w0.heap.size w0 wx→Calls Tryz.prog 31 #[.agg #[.slice a1 n1 c1,.slice a2 n2 c2],.string to,.string f2,.int .i64 k] wx fun e w' =>e= .returned (.bool (comesB rs k to f2))∧Below wx.heap.size wx w'):
  Calls Tryz.prog 31 #[.agg #[.slice a1 n1 c1,.slice a2 n2 c2],.string to,.string fr,.int .i64 ((k+1:Nat):Int)] w0 fun e w' =>e= .returned (.bool (comesB rs (k+1) to fr))∧Below w0.heap.size w0 w' :=by
 have M:=Mem.begin hg ⟨0,0⟩
 have hle:=hX.le
 have NL:=Lib.hid hX.len
 have HX:=Lib.hid hX
 have HI:=Lib.hid hI
 have HG:=Lib.hid hg
 have hkw:IntKind.i64.wrap (((k+1:Nat):Int) - 1)=k:=by rw[IntWalk.i64_in _ (by omega)];omega
 have hkp:(0:Int)<((k+1:Nat):Int):=by omega
 rw[comes_succ]
 generalize ((k+1:Nat):Int)=kk at hkw hkp ⊢
 clear hX hg hI hk
 go_enter Tryz.func31,Tryz.ntmps31
 go_wp2_with (with_reducible (refine wB (L:=[]) M ?_;clear M;intro za w1 M))
 go_loopw [9] (fun i wr=> ∃ j:Nat,j≤n2∧i= .int .i64 j∧Mem (StaysB g w0) g w0 wr ⟨0,0⟩ (own za [.slice a1 n1 c1,.slice a2 n2 c2] 25::[])∧Hid (NoB rs (comesQ rs k to fr) j)) (fun i _=>n2 - (intOf i).toNat)
 case atStart=>exact⟨0,by omega,rfl,M,noB_zero _ _⟩
 case round=>
  clear M
  obtain⟨j,hj,rfl,M,HB⟩:=hrel
  by_cases hlt:j<n2
  ·have hd:decide (j<n2)=true:=by simpa using hlt
   have hkl:j<rs.length:=by have:=NL.out;omega
   obtain⟨ca,oa,rowa,hixa, -,hrra,hwa⟩:=SlF.rowAt (P:=Tryz.prog) HX.out rulF_firm Tryz.underlying23 size_rul (i:=j) hkl
   have HS:Hid (∀ wx,Below w0.heap.size w0 wx→Calls Tryz.prog 57 #[.agg rowa.toArray,.string fr] wx fun e w' =>e= .returned (.bool (speaks rs[j] fr))∧Below wx.heap.size wx w'):=fun wx hb=>
    speaksOf_any (Nat.lt_of_lt_of_le HG.out hb.size) rs[j] rowa (hwa wx hb).2 fr
   have HA:=Lib.hid (fun wx hb=>(hwa wx hb).1)
   obtain⟨e1,f1,g1,e2,f2,g2,e3,f3,g3,e4,f4,g4,e6,f6,g6,rfl, -⟩:=hrra
   have HC:Hid (∀ wx,Below w0.heap.size w0 wx→Calls Tryz.prog 31 #[.agg #[.slice a1 n1 c1,.slice a2 n2 c2],.string to,.string rs[j].etype,.int .i64 k] wx fun e w' =>e= .returned (.bool (comesB rs k to rs[j].etype))∧Below wx.heap.size wx w'):=fun wx hb=>HI.out _ wx hb
   have HY:Hid (comesQ rs k to fr rs[j]=true→rs.any (comesQ rs k to fr)=true):=fun h=>List.any_eq_true.2 ⟨_,List.getElem_mem hkl,h⟩
   have HN:Hid (comesQ rs k to fr rs[j]=false→NoB rs (comesQ rs k to fr) (j+1)):=fun h=>noB_succ HB.out hkl h
   unfold rulC at HS HA
   have HQ:Hid (comesQ rs k to fr rs[j]=(!emS rs[j].etype&&speaks rs[j] fr&&(sameS rs[j].etype to||comesB rs k to rs[j].etype))):=rfl
   clear hwa HB
   generalize comesQ rs k to fr rs[j]=qq at HY HN HQ
   generalize comesB rs k to rs[j].etype=cc at HC HQ
   generalize speaks rs[j] fr=ss at HS HQ
   have HE:Hid (∀ b,emS rs[j].etype=b→rs[j].etype.toList.isEmpty=b):=fun b h=>h
   have HT:Hid (∀ b,sameS rs[j].etype to=b→(rs[j].etype.toList==to.toList)=b):=fun b h=>h
   generalize rs[j].name=rn at HS HA
   generalize rs[j].etype=et at HS HA HC HQ HE HT
   cases hem:emS et with
   |true=>
    have he0:et.toList=[]:=by simpa using HE.out _ hem
    have HV2:=Lib.hid (HN.out (by rw[HQ.out,hem];rfl))
    clear hem HS HC HY HN HQ HE HT
    go_wp2_with (with_reducible (first|refine wq M ?_|(refine wS M ?_;clear M;intro w M)|(refine wV M ?_;clear M;intro z w M)|refine wA (HA.out _ M.new) ?_))
    go_roundw
    case rel=>exact⟨j+1,by omega,by go_num,M.drop,HV2⟩
    case measure=>simp[intOf];omega
   |false=>
    have he0:=HE.out _ hem
    cases ss with
    |false=>
     have HV2:=Lib.hid (HN.out (by rw[HQ.out,hem];rfl))
     clear hem HC HY HN HQ HE HT
     go_wp2_with (first|(with_reducible (first|refine wq M ?_|(refine wS M ?_;clear M;intro w M)|(refine wV M ?_;clear M;intro z w M)|refine wA (HA.out _ M.new) ?_))|(go_at_call 57;with_reducible refine(HS.out _ M.new).mono ?_;rintro e w5 ⟨rfl,hb5⟩;replace M:=M.below hb5;clear hb5))
     go_roundw
     case rel=>exact⟨j+1,by omega,by go_num,M.drop,HV2⟩
     case measure=>simp[intOf];omega
    |true=>
     cases hst:sameS et to with
     |true=>
      have ht0:=HT.out _ hst
      have HV2:=Lib.hid (HY.out (by rw[HQ.out,hem,hst];rfl))
      clear hem hst HC HY HN HQ HE HT
      go_wp2_with (first|(with_reducible (first|refine wq M ?_|(refine wS M ?_;clear M;intro w M)|(refine wV M ?_;clear M;intro z w M)|refine wA (HA.out _ M.new) ?_))|(go_at_call 57;with_reducible refine(HS.out _ M.new).mono ?_;rintro e w5 ⟨rfl,hb5⟩;replace M:=M.below hb5;clear hb5))
      go_ret
      rw[HV2.out]
      exact⟨rfl,M.new⟩
     |false=>
      have ht0:=HT.out _ hst
      cases cc with
      |true=>
       have HV2:=Lib.hid (HY.out (by rw[HQ.out,hem,hst];rfl))
       clear hem hst HY HN HQ HE HT
       go_wp2_with (first|(with_reducible (first|refine wq M ?_|(refine wS M ?_;clear M;intro w M)|(refine wV M ?_;clear M;intro z w M)|refine wA (HA.out _ M.new) ?_))|(go_at_call 57;with_reducible refine(HS.out _ M.new).mono ?_;rintro e w5 ⟨rfl,hb5⟩;replace M:=M.below hb5;clear hb5)|(go_at_call 31;with_reducible refine(HC.out _ M.new).mono ?_;rintro e w5 ⟨rfl,hb5⟩;replace M:=M.below hb5;clear hb5))
       go_ret
       rw[HV2.out]
       exact⟨rfl,M.new⟩
      |false=>
       have HV2:=Lib.hid (HN.out (by rw[HQ.out,hem,hst];rfl))
       clear hem hst HY HN HQ HE HT
       go_wp2_with (first|(with_reducible (first|refine wq M ?_|(refine wS M ?_;clear M;intro w M)|(refine wV M ?_;clear M;intro z w M)|refine wA (HA.out _ M.new) ?_))|(go_at_call 57;with_reducible refine(HS.out _ M.new).mono ?_;rintro e w5 ⟨rfl,hb5⟩;replace M:=M.below hb5;clear hb5)|(go_at_call 31;with_reducible refine(HC.out _ M.new).mono ?_;rintro e w5 ⟨rfl,hb5⟩;replace M:=M.below hb5;clear hb5))
       go_roundw
       case rel=>exact⟨j+1,by omega,by go_num,M.drop,HV2⟩
       case measure=>simp[intOf];omega
  ·have hd:decide (j<n2)=false:=by simpa using hlt
   have HZ:Hid (rs.any (comesQ rs k to fr)=false):=List.any_eq_false.2 (fun q hq=>by
    obtain⟨i,hi,rfl⟩:=List.mem_iff_getElem.1 hq
    have e:=HB.out i hi (by have:=NL.out;omega)
    rw[e];simp)
   clear HB
   go_wp2_with (with_reducible refine wq M ?_)
   go_ret
   rw[HZ.out]
   exact⟨rfl,M.new⟩
theorem comesOf_any(to:ByteArray)(a1:Option Addr)(n1 c1:Nat)(a2:Option Addr)(n2 c2:Nat)(hX:SlF F w0 7 rulF a2 n2 c2 rs)(hg:g<w0.heap.size):
  ∀ (k:Nat),k≤1000000→ ∀ (fr:ByteArray) (wx:World),Below w0.heap.size w0 wx→Calls Tryz.prog 31 #[.agg #[.slice a1 n1 c1,.slice a2 n2 c2],.string to,.string fr,.int .i64 k] wx fun e w' =>e= .returned (.bool (comesB rs k to fr))∧Below wx.heap.size wx w' :=by
 intro k
 induction k with
 |zero=>intro _ fr wx hb;exact comesOf_zero to fr a1 n1 c1 a2 n2 c2 (hX.below rulF_firm hb) (Nat.lt_of_lt_of_le hg hb.size)
 |succ k ih=>
  intro hk fr wx hb
  exact comesOf_succ k (by omega) to fr a1 n1 c1 a2 n2 c2 (hX.below rulF_firm hb) (Nat.lt_of_lt_of_le hg hb.size) (fun f2 wy hby=>ih (by omega) f2 wy (hb.trans (hby.mono hb.size)))
end
end Go.Proofs.YtncmghnhfipklaaGreatDoor
