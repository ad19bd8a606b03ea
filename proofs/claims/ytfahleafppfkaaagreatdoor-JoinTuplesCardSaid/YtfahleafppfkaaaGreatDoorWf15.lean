/-
  The walks of the reference's BookFault, ninth part: does a rule speak of a type? Printed by chki.py.
-/
import Derived.Test.YtfahleafppfkaaaGreatDoorWf14
namespace Go.Proofs.YtfahleafppfkaaaGreatDoor
open Go.RowKit
set_option linter.unusedVariables false
set_option linter.unusedSimpArgs false
section
variable {g:Nat} {F:Nat→Prop} {w0:World}
set_option maxRecDepth 8000 in
set_option maxHeartbeats 4000000 in
theorem speaksOf_any(hg:g<w0.heap.size)(x:Rul)(row:List Value)(h:rulF F w0 row x)(nm:ByteArray):
  Calls Tryz.prog 113 #[.agg row.toArray,.string nm] w0 fun e w' =>e= .returned (.bool (speaks x nm))∧Below w0.heap.size w0 w' :=by
 obtain⟨a1,n1,c1,a2,n2,c2,a3,n3,c3,a4,n4,c4,a6,n6,c6,rfl,X1,X2,X3,X4,X6⟩:=h
 have M:=Mem.begin hg ⟨0,0⟩
 have hle1:=X1.le
 have hle2:=X2.le
 have hle3:=X3.le
 have NLn1:=Lib.hid X1.len
 have NLn2:=Lib.hid X2.len
 have NLn3:=Lib.hid X3.len
 have HXn1:=Lib.hid X1
 have HXn2:=Lib.hid X2
 have HXn3:=Lib.hid X3
 unfold rulC
 clear X1 X2 X3 X4 X6 hg
 go_enter Tryz.func113,Tryz.ntmps113
 go_wp2_with (with_reducible (refine wB (L:=[]) M ?_;clear M;intro za w1 M))
 go_loopw [5] (fun i wr=> ∃ j:Nat,j≤n1∧i= .int .i64 j∧Mem (StaysB g w0) g w0 wr ⟨0,0⟩ (own za [.string x.name,.slice a1 n1 c1,.slice a2 n2 c2,.slice a3 n3 c3,.slice a4 n4 c4,.string x.etype,.slice a6 n6 c6] 60::[])∧Hid (NoB x.whens (fun p=>sameS p.type nm) j)) (fun i _=>n1 - (intOf i).toNat)
 case atStart=>exact⟨0,by omega,rfl,M,noB_zero _ _⟩
 case round=>
  clear M
  obtain⟨j,hj,rfl,M,HB⟩:=hrel
  by_cases hltj:j<n1
  ·have hkl:j<x.whens.length:=by have:=NLn1.out;omega
   obtain⟨ca,oa,rowa,hixa, -,hrra,hwa⟩:=SlF.rowAt (P:=Tryz.prog) HXn1.out patF_firm Tryz.underlying53 size_pat (i:=j) hkl
   obtain⟨p1,q1,s1,ea,u1⟩:=hrra
   subst ea
   have HA0:Hid (∀ wx,Below w0.heap.size w0 wx→wx.cell? ⟨ca,oa+1,none⟩=some (.string x.whens[j].type)):=fun wx hb=>(hwa wx hb).1 1 _ rfl
   have HP:Hid (∀ b,sameS x.whens[j].type nm=b→(x.whens[j].type.toList==nm.toList)=b):=fun b h=>h
   have HT:Hid (sameS x.whens[j].type nm=false→NoB x.whens (fun p=>sameS p.type nm) (j+1)):=fun h=>noB_succ HB.out hkl h
   have HN:Hid (sameS x.whens[j].type nm=true→speaks x nm=true):=fun h=>by
    have e:x.whens.any (fun p=>sameS p.type nm)=true:=List.any_eq_true.2 ⟨_,List.getElem_mem hkl,h⟩
    unfold speaks
    rw[e];simp
   clear hwa u1 HB
   generalize x.whens[j].type=y at HA0 HP HT HN
   cases hsm:sameS y nm with
   |true=>
    have hq:=HP.out _ hsm
    have HV2:=Lib.hid (HN.out hsm)
    clear HP HT HN hsm
    go_wp2_with (with_reducible (first|refine wq M ?_|refine wC (HA0.out _ M.new) ?_))
    go_ret
    rw[HV2.out]
    exact⟨rfl,M.new⟩
   |false=>
    have hq:=HP.out _ hsm
    have HV2:=Lib.hid (HT.out hsm)
    clear HP HT HN hsm
    go_wp2_with (with_reducible (first|refine wq M ?_|refine wC (HA0.out _ M.new) ?_))
    go_roundw
    case rel=>exact⟨j+1,by omega,by go_num,M,HV2⟩
    case measure=>simp[intOf];omega
  ·have HZj:Hid (x.whens.any (fun p=>sameS p.type nm)=false):=List.any_eq_false.2 (fun q hq=>by
    obtain⟨i,hi,rfl⟩:=List.mem_iff_getElem.1 hq
    have e:=HB.out i hi (by have:=NLn1.out;omega)
    simpa using e)
   clear HB
   go_wp2_with (with_reducible refine wq M ?_)
   go_loopw [6] (fun i wr=> ∃ j:Nat,j≤n2∧i= .int .i64 j∧Mem (StaysB g w0) g w0 wr ⟨0,0⟩ (own za [.string x.name,.slice a1 n1 c1,.slice a2 n2 c2,.slice a3 n3 c3,.slice a4 n4 c4,.string x.etype,.slice a6 n6 c6] 60::[])∧Hid (NoB x.nots (fun p=>sameS p.type nm) j)) (fun i _=>n2 - (intOf i).toNat)
   case atStart=>exact⟨0,by omega,rfl,M,noB_zero _ _⟩
   case round=>
    clear M
    obtain⟨k,hk,rfl,M,HB⟩:=hrel
    by_cases hltk:k<n2
    ·have hkl:k<x.nots.length:=by have:=NLn2.out;omega
     obtain⟨ca,oa,rowa,hixa, -,hrra,hwa⟩:=SlF.rowAt (P:=Tryz.prog) HXn2.out patF_firm Tryz.underlying53 size_pat (i:=k) hkl
     obtain⟨p1,q1,s1,ea,u1⟩:=hrra
     subst ea
     have HA0:Hid (∀ wx,Below w0.heap.size w0 wx→wx.cell? ⟨ca,oa+1,none⟩=some (.string x.nots[k].type)):=fun wx hb=>(hwa wx hb).1 1 _ rfl
     have HP:Hid (∀ b,sameS x.nots[k].type nm=b→(x.nots[k].type.toList==nm.toList)=b):=fun b h=>h
     have HT:Hid (sameS x.nots[k].type nm=false→NoB x.nots (fun p=>sameS p.type nm) (k+1)):=fun h=>noB_succ HB.out hkl h
     have HN:Hid (sameS x.nots[k].type nm=true→speaks x nm=true):=fun h=>by
      have e:x.nots.any (fun p=>sameS p.type nm)=true:=List.any_eq_true.2 ⟨_,List.getElem_mem hkl,h⟩
      unfold speaks
      rw[e];simp
     clear hwa u1 HB
     generalize x.nots[k].type=y at HA0 HP HT HN
     cases hsm:sameS y nm with
     |true=>
      have hq:=HP.out _ hsm
      have HV2:=Lib.hid (HN.out hsm)
      clear HP HT HN hsm
      go_wp2_with (with_reducible (first|refine wq M ?_|refine wC (HA0.out _ M.new) ?_))
      go_ret
      rw[HV2.out]
      exact⟨rfl,M.new⟩
     |false=>
      have hq:=HP.out _ hsm
      have HV2:=Lib.hid (HT.out hsm)
      clear HP HT HN hsm
      go_wp2_with (with_reducible (first|refine wq M ?_|refine wC (HA0.out _ M.new) ?_))
      go_roundw
      case rel=>exact⟨k+1,by omega,by go_num,M,HV2⟩
      case measure=>simp[intOf];omega
    ·have HZk:Hid (x.nots.any (fun p=>sameS p.type nm)=false):=List.any_eq_false.2 (fun q hq=>by
      obtain⟨i,hi,rfl⟩:=List.mem_iff_getElem.1 hq
      have e:=HB.out i hi (by have:=NLn2.out;omega)
      simpa using e)
     clear HB
     go_wp2_with (with_reducible refine wq M ?_)
     go_loopw [7] (fun i wr=> ∃ j:Nat,j≤n3∧i= .int .i64 j∧Mem (StaysB g w0) g w0 wr ⟨0,0⟩ (own za [.string x.name,.slice a1 n1 c1,.slice a2 n2 c2,.slice a3 n3 c3,.slice a4 n4 c4,.string x.etype,.slice a6 n6 c6] 60::[])∧Hid (NoB x.manies (fun p=>sameS p.pat.type nm) j)) (fun i _=>n3 - (intOf i).toNat)
     case atStart=>exact⟨0,by omega,rfl,M,noB_zero _ _⟩
     case round=>
      clear M
      obtain⟨m,hm,rfl,M,HB⟩:=hrel
      by_cases hltm:m<n3
      ·have hkl:m<x.manies.length:=by have:=NLn3.out;omega
       obtain⟨ca,oa,rowa,hixa, -,hrra,hwa⟩:=SlF.rowAt (P:=Tryz.prog) HXn3.out manF_firm Tryz.underlying54 size_man (i:=m) hkl
       obtain⟨p1,q1,s1,ea,u1⟩:=hrra
       subst ea
       have HA0:Hid (∀ wx,Below w0.heap.size w0 wx→wx.cell? ⟨ca,oa+3,none⟩=some (.string x.manies[m].pat.type)):=fun wx hb=>(hwa wx hb).1 3 _ rfl
       have HP:Hid (∀ b,sameS x.manies[m].pat.type nm=b→(x.manies[m].pat.type.toList==nm.toList)=b):=fun b h=>h
       have HT:Hid (sameS x.manies[m].pat.type nm=false→NoB x.manies (fun p=>sameS p.pat.type nm) (m+1)):=fun h=>noB_succ HB.out hkl h
       have HN:Hid (sameS x.manies[m].pat.type nm=true→speaks x nm=true):=fun h=>by
        have e:x.manies.any (fun p=>sameS p.pat.type nm)=true:=List.any_eq_true.2 ⟨_,List.getElem_mem hkl,h⟩
        unfold speaks
        rw[e];simp
       clear hwa u1 HB
       generalize x.manies[m].pat.type=y at HA0 HP HT HN
       cases hsm:sameS y nm with
       |true=>
        have hq:=HP.out _ hsm
        have HV2:=Lib.hid (HN.out hsm)
        clear HP HT HN hsm
        go_wp2_with (with_reducible (first|refine wq M ?_|refine wC (HA0.out _ M.new) ?_))
        go_ret
        rw[HV2.out]
        exact⟨rfl,M.new⟩
       |false=>
        have hq:=HP.out _ hsm
        have HV2:=Lib.hid (HT.out hsm)
        clear HP HT HN hsm
        go_wp2_with (with_reducible (first|refine wq M ?_|refine wC (HA0.out _ M.new) ?_))
        go_roundw
        case rel=>exact⟨m+1,by omega,by go_num,M,HV2⟩
        case measure=>simp[intOf];omega
      ·have HZm:Hid (x.manies.any (fun p=>sameS p.pat.type nm)=false):=List.any_eq_false.2 (fun q hq=>by
        obtain⟨i,hi,rfl⟩:=List.mem_iff_getElem.1 hq
        have e:=HB.out i hi (by have:=NLn3.out;omega)
        simpa using e)
       clear HB
       go_wp2_with (with_reducible refine wq M ?_)
       go_ret
       have e:speaks x nm=false:=by unfold speaks;rw[HZj.out,HZk.out,HZm.out];rfl
       rw[e]
       exact⟨rfl,M.new⟩
end
end Go.Proofs.YtfahleafppfkaaaGreatDoor
/-
  The walks of the reference's BookFault, tenth part: does an event of a type come of events of another one? Printed by chkj.py.
-/
namespace Go.Proofs.YtfahleafppfkaaaGreatDoor
open Go.RowKit
set_option linter.unusedVariables false
set_option linter.unusedSimpArgs false
section
variable {g:Nat} {F:Nat→Prop} {w0:World} {rs:List Rul}
def comesQ(rs:List Rul)(k:Nat)(to fr:ByteArray)(x:Rul):Bool:=!emS x.etype&&speaks x fr&&(sameS x.etype to||comesB rs k to x.etype)
theorem comes_succ(k:Nat)(to fr:ByteArray):comesB rs (k+1) to fr=rs.any (comesQ rs k to fr):=rfl
set_option maxRecDepth 8000 in
set_option maxHeartbeats 4000000 in
theorem comesOf_zero(to fr:ByteArray)(a1:Option Addr)(n1 c1:Nat)(a2:Option Addr)(n2 c2:Nat)(hX:SlF F w0 7 rulF a2 n2 c2 rs)(hg:g<w0.heap.size):
  Calls Tryz.prog 68 #[.agg #[.slice a1 n1 c1,.slice a2 n2 c2],.string to,.string fr,.int .i64 0] w0 fun e w' =>e= .returned (.bool (comesB rs 0 to fr))∧Below w0.heap.size w0 w' :=by
 have M:=Mem.begin hg ⟨0,0⟩
 have hle:=hX.le
 show Calls Tryz.prog 68 #[.agg #[.slice a1 n1 c1,.slice a2 n2 c2],.string to,.string fr,.int .i64 0] w0 fun e w' =>e= .returned (.bool false)∧Below w0.heap.size w0 w'
 clear hX hg
 go_enter Tryz.func68,Tryz.ntmps68
 go_wp2_with (with_reducible (refine wB (L:=[]) M ?_;clear M;intro za w1 M))
 go_loopw [9] (fun i wr=> ∃ j:Nat,j≤n2∧i= .int .i64 j∧Mem (StaysB g w0) g w0 wr ⟨0,0⟩ (own za [.slice a1 n1 c1,.slice a2 n2 c2] 25::[])) (fun i _=>n2 - (intOf i).toNat)
 case atStart=>exact⟨0,by omega,rfl,M⟩
 case round=>
  clear M
  obtain⟨j,hj,rfl,M⟩:=hrel
  by_cases hlt:j<n2
  ·have hd:decide (j<n2)=true:=by simpa using hlt
   go_wp2_with (with_reducible refine wq M ?_)
   go_ret
   exact⟨rfl,M.new⟩
  ·have hd:decide (j<n2)=false:=by simpa using hlt
   go_wp2_with (with_reducible refine wq M ?_)
   go_ret
   exact⟨rfl,M.new⟩
set_option maxRecDepth 8000 in
set_option maxHeartbeats 8000000 in
theorem comesOf_succ(k:Nat)(hk:k≤1000000)(to fr:ByteArray)(a1:Option Addr)(n1 c1:Nat)(a2:Option Addr)(n2 c2:Nat)(hX:SlF F w0 7 rulF a2 n2 c2 rs)(hg:g<w0.heap.size)
  (hI: ∀ (f2:ByteArray) (wx:World),Below w0.heap.size w0 wx→Calls Tryz.prog 68 #[.agg #[.slice a1 n1 c1,.slice a2 n2 c2],.string to,.string f2,.int .i64 k] wx fun e w' =>e= .returned (.bool (comesB rs k to f2))∧Below wx.heap.size wx w'):
  Calls Tryz.prog 68 #[.agg #[.slice a1 n1 c1,.slice a2 n2 c2],.string to,.string fr,.int .i64 ((k+1:Nat):Int)] w0 fun e w' =>e= .returned (.bool (comesB rs (k+1) to fr))∧Below w0.heap.size w0 w' :=by
 have M:=Mem.begin hg ⟨0,0⟩
 have hle:=hX.le
 have NL:=Lib.hid hX.len
 have HX:=Lib.hid hX
 have HI:=Lib.hid hI
 have HG:=Lib.hid hg
 have hkw:IntKind.i64.wrap (((k+1:Nat):Int) - 1)=k:=by rw[IntWalk.i64_in _ (by omega)];omega
 have hkp:(0:Int)<((k+1:Nat):Int):=by omega
 rw[comes_succ]
 generalize ((k+1:Nat):Int)=kk at hkw hkp ⊢
 clear hX hg hI hk
 go_enter Tryz.func68,Tryz.ntmps68
 go_wp2_with (with_reducible (refine wB (L:=[]) M ?_;clear M;intro za w1 M))
 go_loopw [9] (fun i wr=> ∃ j:Nat,j≤n2∧i= .int .i64 j∧Mem (StaysB g w0) g w0 wr ⟨0,0⟩ (own za [.slice a1 n1 c1,.slice a2 n2 c2] 25::[])∧Hid (NoB rs (comesQ rs k to fr) j)) (fun i _=>n2 - (intOf i).toNat)
 case atStart=>exact⟨0,by omega,rfl,M,noB_zero _ _⟩
 case round=>
  clear M
  obtain⟨j,hj,rfl,M,HB⟩:=hrel
  by_cases hlt:j<n2
  ·have hd:decide (j<n2)=true:=by simpa using hlt
   have hkl:j<rs.length:=by have:=NL.out;omega
   obtain⟨ca,oa,rowa,hixa, -,hrra,hwa⟩:=SlF.rowAt (P:=Tryz.prog) HX.out rulF_firm Tryz.underlying23 size_rul (i:=j) hkl
   have HS:Hid (∀ wx,Below w0.heap.size w0 wx→Calls Tryz.prog 113 #[.agg rowa.toArray,.string fr] wx fun e w' =>e= .returned (.bool (speaks rs[j] fr))∧Below wx.heap.size wx w'):=fun wx hb=>
    speaksOf_any (Nat.lt_of_lt_of_le HG.out hb.size) rs[j] rowa (hwa wx hb).2 fr
   have HA:=Lib.hid (fun wx hb=>(hwa wx hb).1)
   obtain⟨e1,f1,g1,e2,f2,g2,e3,f3,g3,e4,f4,g4,e6,f6,g6,rfl, -⟩:=hrra
   have HC:Hid (∀ wx,Below w0.heap.size w0 wx→Calls Tryz.prog 68 #[.agg #[.slice a1 n1 c1,.slice a2 n2 c2],.string to,.string rs[j].etype,.int .i64 k] wx fun e w' =>e= .returned (.bool (comesB rs k to rs[j].etype))∧Below wx.heap.size wx w'):=fun wx hb=>HI.out _ wx hb
   have HY:Hid (comesQ rs k to fr rs[j]=true→rs.any (comesQ rs k to fr)=true):=fun h=>List.any_eq_true.2 ⟨_,List.getElem_mem hkl,h⟩
   have HN:Hid (comesQ rs k to fr rs[j]=false→NoB rs (comesQ rs k to fr) (j+1)):=fun h=>noB_succ HB.out hkl h
   unfold rulC at HS HA
   have HQ:Hid (comesQ rs k to fr rs[j]=(!emS rs[j].etype&&speaks rs[j] fr&&(sameS rs[j].etype to||comesB rs k to rs[j].etype))):=rfl
   clear hwa HB
   generalize comesQ rs k to fr rs[j]=qq at HY HN HQ
   generalize comesB rs k to rs[j].etype=cc at HC HQ
   generalize speaks rs[j] fr=ss at HS HQ
   have HE:Hid (∀ b,emS rs[j].etype=b→rs[j].etype.toList.isEmpty=b):=fun b h=>h
   have HT:Hid (∀ b,sameS rs[j].etype to=b→(rs[j].etype.toList==to.toList)=b):=fun b h=>h
   generalize rs[j].name=rn at HS HA
   generalize rs[j].etype=et at HS HA HC HQ HE HT
   cases hem:emS et with
   |true=>
    have he0:et.toList=[]:=by simpa using HE.out _ hem
    have HV2:=Lib.hid (HN.out (by rw[HQ.out,hem];rfl))
    clear hem HS HC HY HN HQ HE HT
    go_wp2_with (with_reducible (first|refine wq M ?_|(refine wS M ?_;clear M;intro w M)|(refine wV M ?_;clear M;intro z w M)|refine wA (HA.out _ M.new) ?_))
    go_roundw
    case rel=>exact⟨j+1,by omega,by go_num,M.drop,HV2⟩
    case measure=>simp[intOf];omega
   |false=>
    have he0:=HE.out _ hem
    cases ss with
    |false=>
     have HV2:=Lib.hid (HN.out (by rw[HQ.out,hem];rfl))
     clear hem HC HY HN HQ HE HT
     go_wp2_with (first|(with_reducible (first|refine wq M ?_|(refine wS M ?_;clear M;intro w M)|(refine wV M ?_;clear M;intro z w M)|refine wA (HA.out _ M.new) ?_))|(go_at_call 113;with_reducible refine(HS.out _ M.new).mono ?_;rintro e w5 ⟨rfl,hb5⟩;replace M:=M.below hb5;clear hb5))
     go_roundw
     case rel=>exact⟨j+1,by omega,by go_num,M.drop,HV2⟩
     case measure=>simp[intOf];omega
    |true=>
     cases hst:sameS et to with
     |true=>
      have ht0:=HT.out _ hst
      have HV2:=Lib.hid (HY.out (by rw[HQ.out,hem,hst];rfl))
      clear hem hst HC HY HN HQ HE HT
      go_wp2_with (first|(with_reducible (first|refine wq M ?_|(refine wS M ?_;clear M;intro w M)|(refine wV M ?_;clear M;intro z w M)|refine wA (HA.out _ M.new) ?_))|(go_at_call 113;with_reducible refine(HS.out _ M.new).mono ?_;rintro e w5 ⟨rfl,hb5⟩;replace M:=M.below hb5;clear hb5))
      go_ret
      rw[HV2.out]
      exact⟨rfl,M.new⟩
     |false=>
      have ht0:=HT.out _ hst
      cases cc with
      |true=>
       have HV2:=Lib.hid (HY.out (by rw[HQ.out,hem,hst];rfl))
       clear hem hst HY HN HQ HE HT
       go_wp2_with (first|(with_reducible (first|refine wq M ?_|(refine wS M ?_;clear M;intro w M)|(refine wV M ?_;clear M;intro z w M)|refine wA (HA.out _ M.new) ?_))|(go_at_call 113;with_reducible refine(HS.out _ M.new).mono ?_;rintro e w5 ⟨rfl,hb5⟩;replace M:=M.below hb5;clear hb5)|(go_at_call 68;with_reducible refine(HC.out _ M.new).mono ?_;rintro e w5 ⟨rfl,hb5⟩;replace M:=M.below hb5;clear hb5))
       go_ret
       rw[HV2.out]
       exact⟨rfl,M.new⟩
      |false=>
       have HV2:=Lib.hid (HN.out (by rw[HQ.out,hem,hst];rfl))
       clear hem hst HY HN HQ HE HT
       go_wp2_with (first|(with_reducible (first|refine wq M ?_|(refine wS M ?_;clear M;intro w M)|(refine wV M ?_;clear M;intro z w M)|refine wA (HA.out _ M.new) ?_))|(go_at_call 113;with_reducible refine(HS.out _ M.new).mono ?_;rintro e w5 ⟨rfl,hb5⟩;replace M:=M.below hb5;clear hb5)|(go_at_call 68;with_reducible refine(HC.out _ M.new).mono ?_;rintro e w5 ⟨rfl,hb5⟩;replace M:=M.below hb5;clear hb5))
       go_roundw
       case rel=>exact⟨j+1,by omega,by go_num,M.drop,HV2⟩
       case measure=>simp[intOf];omega
  ·have hd:decide (j<n2)=false:=by simpa using hlt
   have HZ:Hid (rs.any (comesQ rs k to fr)=false):=List.any_eq_false.2 (fun q hq=>by
    obtain⟨i,hi,rfl⟩:=List.mem_iff_getElem.1 hq
    have e:=HB.out i hi (by have:=NL.out;omega)
    rw[e];simp)
   clear HB
   go_wp2_with (with_reducible refine wq M ?_)
   go_ret
   rw[HZ.out]
   exact⟨rfl,M.new⟩
theorem comesOf_any(to:ByteArray)(a1:Option Addr)(n1 c1:Nat)(a2:Option Addr)(n2 c2:Nat)(hX:SlF F w0 7 rulF a2 n2 c2 rs)(hg:g<w0.heap.size):
  ∀ (k:Nat),k≤1000000→ ∀ (fr:ByteArray) (wx:World),Below w0.heap.size w0 wx→Calls Tryz.prog 68 #[.agg #[.slice a1 n1 c1,.slice a2 n2 c2],.string to,.string fr,.int .i64 k] wx fun e w' =>e= .returned (.bool (comesB rs k to fr))∧Below wx.heap.size wx w' :=by
 intro k
 induction k with
 |zero=>intro _ fr wx hb;exact comesOf_zero to fr a1 n1 c1 a2 n2 c2 (hX.below rulF_firm hb) (Nat.lt_of_lt_of_le hg hb.size)
 |succ k ih=>
  intro hk fr wx hb
  exact comesOf_succ k (by omega) to fr a1 n1 c1 a2 n2 c2 (hX.below rulF_firm hb) (Nat.lt_of_lt_of_le hg hb.size) (fun f2 wy hby=>ih (by omega) f2 wy (hb.trans (hby.mono hb.size)))
end
end Go.Proofs.YtfahleafppfkaaaGreatDoor
/-
  The walks of the reference's BookFault, eleventh part: links. Printed by chkk.py.
-/
namespace Go.Proofs.YtfahleafppfkaaaGreatDoor
open Go.RowKit
set_option linter.unusedVariables false
set_option linter.unusedSimpArgs false

theorem place_neg (l : List Pat) (nm : ByteArray) : decide (placeV (patI l nm) l.length < 0) = !hasP l nm := by
  unfold placeV hasP
  by_cases h : patI l nm < l.length
  · rw [if_pos h]; simp [h]
  · rw [if_neg h]; simp [h]
section
variable {g : Nat} {F G : Nat → Prop} {w0 : World}
def linkC1 (A1 B C D : Bool) : Bool := (!A1 && !B) || (!C && !D)
def linkC2 (S A1 C : Bool) : Bool := S || (!A1 && !C)
theorem linkE_eq (x : Rul) (k : Lnk) : linkE x k = if linkC1 (hasP x.whens k.left) (hasP x.nots k.left) (hasP x.whens k.right) (hasP x.nots k.right) = true then 6
  else if linkC2 (sameS k.left k.right) (hasP x.whens k.left) (hasP x.whens k.right) = true then 4
  else if k.opts.length < 1 ∨ 6 < k.opts.length then 1
  else firstN (fun i => optE (k.opts.getD i ⟨0, 0, 0⟩).rel (k.opts.getD i ⟨0, 0, 0⟩).lo (k.opts.getD i ⟨0, 0, 0⟩).hi) k.opts.length := rfl
set_option maxRecDepth 8000 in
set_option maxHeartbeats 8000000 in
theorem linkFault_none (hg : g < w0.heap.size) (x : Rul) (row : List Value) (h : rulF F w0 row x) (k : Lnk) (oo : Option Addr) (on ocap : Nat) (hO : SlF G w0 3 (plainF optC) oo on ocap k.opts) (h1 : linkC1 (hasP x.whens k.left) (hasP x.nots k.left) (hasP x.whens k.right) (hasP x.nots k.right) = true) :
    Calls Tryz.prog 111 #[.agg row.toArray, .agg (lnkC k oo on ocap).toArray] w0 fun e w' => e = .returned (.int .i64 (linkE x k)) ∧ Below w0.heap.size w0 w' := by
  rw [linkE_eq, if_pos h1]
  have HL := h1
  clear h1
  obtain ⟨a1, n1, c1, a2, n2, c2, a3, n3, c3, a4, n4, c4, a6, n6, c6, rfl, X1, X2, X3, X4, X6⟩ := h
  have M := Mem.begin hg ⟨0, 0⟩
  have HA := Lib.hid (fun wx (hb : Below w0.heap.size w0 wx) => patternNamed_any (Nat.lt_of_lt_of_le hg hb.size) (X1.below patF_firm hb) k.left)
  have HB := Lib.hid (fun wx (hb : Below w0.heap.size w0 wx) => patternNamed_any (Nat.lt_of_lt_of_le hg hb.size) (X2.below patF_firm hb) k.left)
  have HC := Lib.hid (fun wx (hb : Below w0.heap.size w0 wx) => patternNamed_any (Nat.lt_of_lt_of_le hg hb.size) (X1.below patF_firm hb) k.right)
  have HD := Lib.hid (fun wx (hb : Below w0.heap.size w0 wx) => patternNamed_any (Nat.lt_of_lt_of_le hg hb.size) (X2.below patF_firm hb) k.right)
  have hA := place_neg x.whens k.left
  have hB := place_neg x.nots k.left
  have hC := place_neg x.whens k.right
  have hD := place_neg x.nots k.right
  have hST : ∀ b, sameS k.left k.right = b → (k.left.toList == k.right.toList) = b := fun b h => h
  generalize placeV (patI x.whens k.left) x.whens.length = vA at HA hA
  generalize placeV (patI x.nots k.left) x.nots.length = vB at HB hB
  generalize placeV (patI x.whens k.right) x.whens.length = vC at HC hC
  generalize placeV (patI x.nots k.right) x.nots.length = vD at HD hD
  generalize hasP x.whens k.left = A1 at hA HL
  generalize hasP x.nots k.left = B at hB HL
  generalize hasP x.whens k.right = C at hC HL
  generalize hasP x.nots k.right = D at hD HL
  unfold rulC lnkC
  clear hg hO X1 X2 X3 X4 X6 hST
  cases A1 <;> cases B <;> cases C <;> cases D
  all_goals first
    | (exfalso; revert HL; decide)
    | (clear HL
       simp only [Bool.not_true, Bool.not_false] at hA hB hC hD
       go_enter Tryz.func111, Tryz.ntmps111
       go_wp2_with (first | (with_reducible (first | (refine wB (L := []) M ?_; clear M; intro za w1 M) | (refine wB M ?_; clear M; intro zb w2 M) | refine wq M ?_)) | (go_at_call 81; with_reducible refine (HA.out _ M.new).mono ?_; rintro e w5 ⟨rfl, hb5⟩; replace M := M.below hb5; clear hb5) | (go_at_call 81; with_reducible refine (HB.out _ M.new).mono ?_; rintro e w5 ⟨rfl, hb5⟩; replace M := M.below hb5; clear hb5) | (go_at_call 81; with_reducible refine (HC.out _ M.new).mono ?_; rintro e w5 ⟨rfl, hb5⟩; replace M := M.below hb5; clear hb5) | (go_at_call 81; with_reducible refine (HD.out _ M.new).mono ?_; rintro e w5 ⟨rfl, hb5⟩; replace M := M.below hb5; clear hb5))
       go_ret
       exact ⟨rfl, M.new⟩)
set_option maxRecDepth 8000 in
set_option maxHeartbeats 8000000 in
theorem linkFault_form (hg : g < w0.heap.size) (x : Rul) (row : List Value) (h : rulF F w0 row x) (k : Lnk) (oo : Option Addr) (on ocap : Nat) (hO : SlF G w0 3 (plainF optC) oo on ocap k.opts) (h1 : linkC1 (hasP x.whens k.left) (hasP x.nots k.left) (hasP x.whens k.right) (hasP x.nots k.right) = false) (h2 : linkC2 (sameS k.left k.right) (hasP x.whens k.left) (hasP x.whens k.right) = true) :
    Calls Tryz.prog 111 #[.agg row.toArray, .agg (lnkC k oo on ocap).toArray] w0 fun e w' => e = .returned (.int .i64 (linkE x k)) ∧ Below w0.heap.size w0 w' := by
  rw [linkE_eq, h1, if_neg (by simp), if_pos h2]
  have HL := And.intro h1 h2
  clear h1 h2
  obtain ⟨a1, n1, c1, a2, n2, c2, a3, n3, c3, a4, n4, c4, a6, n6, c6, rfl, X1, X2, X3, X4, X6⟩ := h
  have M := Mem.begin hg ⟨0, 0⟩
  have HA := Lib.hid (fun wx (hb : Below w0.heap.size w0 wx) => patternNamed_any (Nat.lt_of_lt_of_le hg hb.size) (X1.below patF_firm hb) k.left)
  have HB := Lib.hid (fun wx (hb : Below w0.heap.size w0 wx) => patternNamed_any (Nat.lt_of_lt_of_le hg hb.size) (X2.below patF_firm hb) k.left)
  have HC := Lib.hid (fun wx (hb : Below w0.heap.size w0 wx) => patternNamed_any (Nat.lt_of_lt_of_le hg hb.size) (X1.below patF_firm hb) k.right)
  have HD := Lib.hid (fun wx (hb : Below w0.heap.size w0 wx) => patternNamed_any (Nat.lt_of_lt_of_le hg hb.size) (X2.below patF_firm hb) k.right)
  have hA := place_neg x.whens k.left
  have hB := place_neg x.nots k.left
  have hC := place_neg x.whens k.right
  have hD := place_neg x.nots k.right
  have hST : ∀ b, sameS k.left k.right = b → (k.left.toList == k.right.toList) = b := fun b h => h
  generalize placeV (patI x.whens k.left) x.whens.length = vA at HA hA
  generalize placeV (patI x.nots k.left) x.nots.length = vB at HB hB
  generalize placeV (patI x.whens k.right) x.whens.length = vC at HC hC
  generalize placeV (patI x.nots k.right) x.nots.length = vD at HD hD
  generalize hasP x.whens k.left = A1 at hA HL
  generalize hasP x.nots k.left = B at hB HL
  generalize hasP x.whens k.right = C at hC HL
  generalize hasP x.nots k.right = D at hD HL
  unfold rulC lnkC
  generalize hS : sameS k.left k.right = S at HL
  have hs0 := hST _ hS
  clear hg hO X1 X2 X3 X4 X6 hST hS
  cases A1 <;> cases B <;> cases C <;> cases D <;> cases S
  all_goals first
    | (exfalso; revert HL; decide)
    | (clear HL
       simp only [Bool.not_true, Bool.not_false] at hA hB hC hD
       go_enter Tryz.func111, Tryz.ntmps111
       go_wp2_with (first | (with_reducible (first | (refine wB (L := []) M ?_; clear M; intro za w1 M) | (refine wB M ?_; clear M; intro zb w2 M) | refine wq M ?_)) | (go_at_call 81; with_reducible refine (HA.out _ M.new).mono ?_; rintro e w5 ⟨rfl, hb5⟩; replace M := M.below hb5; clear hb5) | (go_at_call 81; with_reducible refine (HB.out _ M.new).mono ?_; rintro e w5 ⟨rfl, hb5⟩; replace M := M.below hb5; clear hb5) | (go_at_call 81; with_reducible refine (HC.out _ M.new).mono ?_; rintro e w5 ⟨rfl, hb5⟩; replace M := M.below hb5; clear hb5) | (go_at_call 81; with_reducible refine (HD.out _ M.new).mono ?_; rintro e w5 ⟨rfl, hb5⟩; replace M := M.below hb5; clear hb5))
       go_ret
       exact ⟨rfl, M.new⟩)
set_option maxRecDepth 8000 in
set_option maxHeartbeats 8000000 in
theorem linkFault_size (hg : g < w0.heap.size) (x : Rul) (row : List Value) (h : rulF F w0 row x) (k : Lnk) (oo : Option Addr) (on ocap : Nat) (hO : SlF G w0 3 (plainF optC) oo on ocap k.opts) (h1 : linkC1 (hasP x.whens k.left) (hasP x.nots k.left) (hasP x.whens k.right) (hasP x.nots k.right) = false) (h2 : linkC2 (sameS k.left k.right) (hasP x.whens k.left) (hasP x.whens k.right) = false) (h3 : k.opts.length < 1 ∨ 6 < k.opts.length) :
    Calls Tryz.prog 111 #[.agg row.toArray, .agg (lnkC k oo on ocap).toArray] w0 fun e w' => e = .returned (.int .i64 (linkE x k)) ∧ Below w0.heap.size w0 w' := by
  rw [linkE_eq, h1, if_neg (by simp), h2, if_neg (by simp), if_pos h3]
  have HL := And.intro h1 h2
  have hsz : inB (on : Int) 1 6 = false := by rw [inB_false]; have := hO.len; omega
  clear h1 h2 h3
  obtain ⟨a1, n1, c1, a2, n2, c2, a3, n3, c3, a4, n4, c4, a6, n6, c6, rfl, X1, X2, X3, X4, X6⟩ := h
  have M := Mem.begin hg ⟨0, 0⟩
  have HA := Lib.hid (fun wx (hb : Below w0.heap.size w0 wx) => patternNamed_any (Nat.lt_of_lt_of_le hg hb.size) (X1.below patF_firm hb) k.left)
  have HB := Lib.hid (fun wx (hb : Below w0.heap.size w0 wx) => patternNamed_any (Nat.lt_of_lt_of_le hg hb.size) (X2.below patF_firm hb) k.left)
  have HC := Lib.hid (fun wx (hb : Below w0.heap.size w0 wx) => patternNamed_any (Nat.lt_of_lt_of_le hg hb.size) (X1.below patF_firm hb) k.right)
  have HD := Lib.hid (fun wx (hb : Below w0.heap.size w0 wx) => patternNamed_any (Nat.lt_of_lt_of_le hg hb.size) (X2.below patF_firm hb) k.right)
  have hA := place_neg x.whens k.left
  have hB := place_neg x.nots k.left
  have hC := place_neg x.whens k.right
  have hD := place_neg x.nots k.right
  have hST : ∀ b, sameS k.left k.right = b → (k.left.toList == k.right.toList) = b := fun b h => h
  generalize placeV (patI x.whens k.left) x.whens.length = vA at HA hA
  generalize placeV (patI x.nots k.left) x.nots.length = vB at HB hB
  generalize placeV (patI x.whens k.right) x.whens.length = vC at HC hC
  generalize placeV (patI x.nots k.right) x.nots.length = vD at HD hD
  generalize hasP x.whens k.left = A1 at hA HL
  generalize hasP x.nots k.left = B at hB HL
  generalize hasP x.whens k.right = C at hC HL
  generalize hasP x.nots k.right = D at hD HL
  unfold rulC lnkC
  generalize hS : sameS k.left k.right = S at HL
  have hs0 := hST _ hS
  clear hg hO X1 X2 X3 X4 X6 hST hS
  cases A1 <;> cases B <;> cases C <;> cases D <;> cases S
  all_goals first
    | (exfalso; revert HL; decide)
    | (clear HL
       simp only [Bool.not_true, Bool.not_false] at hA hB hC hD
       go_enter Tryz.func111, Tryz.ntmps111
       go_wp2_with (first | (with_reducible (first | (refine wB (L := []) M ?_; clear M; intro za w1 M) | (refine wB M ?_; clear M; intro zb w2 M) | refine wq M ?_)) | (go_at_call 81; with_reducible refine (HA.out _ M.new).mono ?_; rintro e w5 ⟨rfl, hb5⟩; replace M := M.below hb5; clear hb5) | (go_at_call 81; with_reducible refine (HB.out _ M.new).mono ?_; rintro e w5 ⟨rfl, hb5⟩; replace M := M.below hb5; clear hb5) | (go_at_call 81; with_reducible refine (HC.out _ M.new).mono ?_; rintro e w5 ⟨rfl, hb5⟩; replace M := M.below hb5; clear hb5) | (go_at_call 81; with_reducible refine (HD.out _ M.new).mono ?_; rintro e w5 ⟨rfl, hb5⟩; replace M := M.below hb5; clear hb5) | (go_at_call 21; refine (in_any _ _ _ _).mono ?_; rintro e w4 ⟨rfl, rfl⟩; (try rw [hsz])))
       go_ret
       exact ⟨rfl, M.new⟩)
set_option maxRecDepth 8000 in
set_option maxHeartbeats 16000000 in
theorem linkFault_opts (hg : g < w0.heap.size) (x : Rul) (row : List Value) (h : rulF F w0 row x) (k : Lnk) (oo : Option Addr) (on ocap : Nat) (hO : SlF G w0 3 (plainF optC) oo on ocap k.opts) (h1 : linkC1 (hasP x.whens k.left) (hasP x.nots k.left) (hasP x.whens k.right) (hasP x.nots k.right) = false) (h2 : linkC2 (sameS k.left k.right) (hasP x.whens k.left) (hasP x.whens k.right) = false) (h3 : ¬ (k.opts.length < 1 ∨ 6 < k.opts.length)) :
    Calls Tryz.prog 111 #[.agg row.toArray, .agg (lnkC k oo on ocap).toArray] w0 fun e w' => e = .returned (.int .i64 (linkE x k)) ∧ Below w0.heap.size w0 w' := by
  rw [linkE_eq, h1, if_neg (by simp), h2, if_neg (by simp), if_neg h3]
  have HL := And.intro h1 h2
  have hsz : inB (on : Int) 1 6 = true := by rw [inB_true]; have := hO.len; omega
  have hleO := hO.le
  have NO := Lib.hid hO.len
  have HOO := Lib.hid hO
  clear h1 h2 h3
  obtain ⟨a1, n1, c1, a2, n2, c2, a3, n3, c3, a4, n4, c4, a6, n6, c6, rfl, X1, X2, X3, X4, X6⟩ := h
  have M := Mem.begin hg ⟨0, 0⟩
  have HA := Lib.hid (fun wx (hb : Below w0.heap.size w0 wx) => patternNamed_any (Nat.lt_of_lt_of_le hg hb.size) (X1.below patF_firm hb) k.left)
  have HB := Lib.hid (fun wx (hb : Below w0.heap.size w0 wx) => patternNamed_any (Nat.lt_of_lt_of_le hg hb.size) (X2.below patF_firm hb) k.left)
  have HC := Lib.hid (fun wx (hb : Below w0.heap.size w0 wx) => patternNamed_any (Nat.lt_of_lt_of_le hg hb.size) (X1.below patF_firm hb) k.right)
  have HD := Lib.hid (fun wx (hb : Below w0.heap.size w0 wx) => patternNamed_any (Nat.lt_of_lt_of_le hg hb.size) (X2.below patF_firm hb) k.right)
  have hA := place_neg x.whens k.left
  have hB := place_neg x.nots k.left
  have hC := place_neg x.whens k.right
  have hD := place_neg x.nots k.right
  have hST : ∀ b, sameS k.left k.right = b → (k.left.toList == k.right.toList) = b := fun b h => h
  generalize placeV (patI x.whens k.left) x.whens.length = vA at HA hA
  generalize placeV (patI x.nots k.left) x.nots.length = vB at HB hB
  generalize placeV (patI x.whens k.right) x.whens.length = vC at HC hC
  generalize placeV (patI x.nots k.right) x.nots.length = vD at HD hD
  generalize hasP x.whens k.left = A1 at hA HL
  generalize hasP x.nots k.left = B at hB HL
  generalize hasP x.whens k.right = C at hC HL
  generalize hasP x.nots k.right = D at hD HL
  unfold rulC lnkC
  generalize hS : sameS k.left k.right = S at HL
  have hs0 := hST _ hS
  have HF : Hid (∀ i, i < k.opts.length → (fun i => optE (k.opts.getD i ⟨0, 0, 0⟩).rel (k.opts.getD i ⟨0, 0, 0⟩).lo (k.opts.getD i ⟨0, 0, 0⟩).hi) i = optE (k.opts.getD i ⟨0, 0, 0⟩).rel (k.opts.getD i ⟨0, 0, 0⟩).lo (k.opts.getD i ⟨0, 0, 0⟩).hi) := fun i _ => rfl
  generalize (fun i => optE (k.opts.getD i ⟨0, 0, 0⟩).rel (k.opts.getD i ⟨0, 0, 0⟩).lo (k.opts.getD i ⟨0, 0, 0⟩).hi) = f at HF ⊢
  clear hg hO X1 X2 X3 X4 X6 hST hS
  cases A1 <;> cases B <;> cases C <;> cases D <;> cases S
  all_goals first
    | (exfalso; revert HL; decide)
    | (clear HL
       simp only [Bool.not_true, Bool.not_false] at hA hB hC hD
       go_enter Tryz.func111, Tryz.ntmps111
       go_wp2_with (first | (with_reducible (first | (refine wB (L := []) M ?_; clear M; intro za w1 M) | (refine wB M ?_; clear M; intro zb w2 M) | refine wq M ?_)) | (go_at_call 81; with_reducible refine (HA.out _ M.new).mono ?_; rintro e w5 ⟨rfl, hb5⟩; replace M := M.below hb5; clear hb5) | (go_at_call 81; with_reducible refine (HB.out _ M.new).mono ?_; rintro e w5 ⟨rfl, hb5⟩; replace M := M.below hb5; clear hb5) | (go_at_call 81; with_reducible refine (HC.out _ M.new).mono ?_; rintro e w5 ⟨rfl, hb5⟩; replace M := M.below hb5; clear hb5) | (go_at_call 81; with_reducible refine (HD.out _ M.new).mono ?_; rintro e w5 ⟨rfl, hb5⟩; replace M := M.below hb5; clear hb5) | (go_at_call 21; refine (in_any _ _ _ _).mono ?_; rintro e w4 ⟨rfl, rfl⟩; (try rw [hsz])))
       go_loopw [7] (fun i wr => ∃ j : Nat, j ≤ on ∧ i = .int .i64 j ∧ Mem (StaysB g w0) g w0 wr ⟨0, 0⟩ (own zb [.string k.left, .slice oo on ocap, .string k.right] 134 :: own za [.string x.name, .slice a1 n1 c1, .slice a2 n2 c2, .slice a3 n3 c3, .slice a4 n4 c4, .string x.etype, .slice a6 n6 c6] 60 :: []) ∧ Hid (AllZ f j)) (fun i _ => on - (intOf i).toNat)
       case atStart => exact ⟨0, by omega, rfl, M, allZ_zero _⟩
       case round =>
         clear M
         obtain ⟨j, hj, rfl, M, HZ⟩ := hrel
         by_cases hlt : j < on
         · have hkl : j < k.opts.length := by have := NO.out; omega
           obtain ⟨ca, oa, rowa, hixa, -, hrra, hwa⟩ := SlF.rowAt (P := Tryz.prog) HOO.out (plainF_firm _) Tryz.underlying132 size_opt (i := j) hkl
           have e1 : rowa = optC k.opts[j] := hrra
           subst e1
           have HR := Lib.hid (fun wx hb => (hwa wx hb).1)
           have hfj : f j = optE k.opts[j].rel k.opts[j].lo k.opts[j].hi := by rw [HF.out j hkl, List.getD_eq_getElem?_getD, List.getElem?_eq_getElem hkl]; rfl
           have HO : Hid (∀ wx, Below w0.heap.size w0 wx → Calls Tryz.prog 148 #[.agg #[.int .i64 k.opts[j].rel, .int .i64 k.opts[j].lo, .int .i64 k.opts[j].hi]] wx fun e w' => e = .returned (.int .i64 (f j)) ∧ Below wx.heap.size wx w') := fun wx hb => by rw [hfj]; exact optFault_any _ _ _ wx
           have HV : Hid (f j ≠ 0 → firstN f k.opts.length = f j) := fun h => firstN_at HZ.out hkl h
           have HW : Hid (f j = 0 → AllZ f (j + 1)) := fun h => allZ_succ HZ.out h
           clear hwa hrra hfj HZ
           generalize k.opts[j] = o at HR HO
           unfold optC at HR
           generalize f j = q at HO HV HW
           by_cases hq : q = 0
           · subst hq
             have HZ2 := Lib.hid (HW.out rfl)
             clear HV HW
             go_wp2_with (first | (with_reducible (first | refine wq M ?_ | refine wA (HR.out _ M.new) ?_)) | (go_at_call 148; with_reducible refine (HO.out _ M.new).mono ?_; rintro e w5 ⟨rfl, hb5⟩; replace M := M.below hb5; clear hb5))
             go_roundw
             case rel => exact ⟨j + 1, by omega, by go_num, M, HZ2⟩
             case measure => simp [intOf]; omega
           · have hqb : (q != 0) = true := by simpa using hq
             have HE := Lib.hid (HV.out hq)
             clear HV HW hq
             go_wp2_with (first | (with_reducible (first | refine wq M ?_ | refine wA (HR.out _ M.new) ?_)) | (go_at_call 148; with_reducible refine (HO.out _ M.new).mono ?_; rintro e w5 ⟨rfl, hb5⟩; replace M := M.below hb5; clear hb5))
             go_ret
             rw [HE.out]
             exact ⟨rfl, M.new⟩
         · have HE : Hid (firstN f k.opts.length = 0) := by
             have e : j = k.opts.length := by have := NO.out; omega
             exact firstN_zero (e ▸ HZ.out)
           go_wp2_with (with_reducible refine wq M ?_)
           go_ret
           rw [HE.out]
           exact ⟨rfl, M.new⟩)
theorem linkFault_any (hg : g < w0.heap.size) (x : Rul) (row : List Value) (h : rulF F w0 row x) (k : Lnk) (oo : Option Addr) (on ocap : Nat) (hO : SlF G w0 3 (plainF optC) oo on ocap k.opts) : Calls Tryz.prog 111 #[.agg row.toArray, .agg (lnkC k oo on ocap).toArray] w0 fun e w' => e = .returned (.int .i64 (linkE x k)) ∧ Below w0.heap.size w0 w' := by
  cases h1 : linkC1 (hasP x.whens k.left) (hasP x.nots k.left) (hasP x.whens k.right) (hasP x.nots k.right) with
  | true => exact linkFault_none hg x row h k oo on ocap hO h1
  | false =>
    cases h2 : linkC2 (sameS k.left k.right) (hasP x.whens k.left) (hasP x.whens k.right) with
    | true => exact linkFault_form hg x row h k oo on ocap hO h1 h2
    | false =>
      by_cases h3 : k.opts.length < 1 ∨ 6 < k.opts.length
      · exact linkFault_size hg x row h k oo on ocap hO h1 h2 h3
      · exact linkFault_opts hg x row h k oo on ocap hO h1 h2 h3
end
end Go.Proofs.YtfahleafppfkaaaGreatDoor
/-
  The walks of the reference's BookFault, twelfth part: what is emitted. Printed by chkl.py.
-/
namespace Go.Proofs.YtfahleafppfkaaaGreatDoor
open Go.RowKit
set_option linter.unusedVariables false
set_option linter.unusedSimpArgs false
section
variable {g:Nat} {F G:Nat→Prop} {ao:Option Addr} {n cap:Nat} {w0:World} {ts:List Typ}
set_option maxRecDepth 8000 in
set_option maxHeartbeats 4000000 in
theorem emitFault_none(hg:g<w0.heap.size)(hX:SlF F w0 2 typF ao n cap ts)(hts: ∀ t∈ts,typOk t)(x:Rul)(row:List Value)(h:rulF G w0 row x)(hkn: ∀ p∈x.whens,typI ts p.type<ts.length)(hev: ∀ o∈x.evals,o.vtext.size≤maxLen)(h1:emS x.etype=true):Calls Tryz.prog 112 #[.slice ao n cap,.agg row.toArray] w0 fun e w' =>e= .returned (.int .i64 (emitE ts x))∧Below w0.heap.size w0 w' :=by
 have HV:Hid (emitE ts x=if x.evals.length=0 then 0 else 4):=by show _=_;unfold emitE;rw[if_pos h1]
 have he0:x.etype.toList=[]:=by simpa[emS]using h1
 obtain⟨a1,n1,c1,a2,n2,c2,a3,n3,c3,a4,n4,c4,a6,n6,c6,rfl,X1,X2,X3,X4,X6⟩:=h
 have M:=Mem.begin hg ⟨0,0⟩
 have hle6:=X6.le
 have N6:=Lib.hid X6.len
 have hleX:=hX.le
 have NX:=Lib.hid hX.len
 unfold rulC
 rw[HV.out]
 by_cases h0:x.evals.length=0
 ·have hn:(n6:Int)=0:=by have:=N6.out;omega
  rw[if_pos h0]
  clear hg hX hts hkn hev X1 X2 X3 X4 X6 h1 h0 HV
  go_enter Tryz.func112,Tryz.ntmps112
  go_wp2_with (with_reducible (first|(refine wB (L:=[]) M ?_;clear M;intro za w1 M)|(refine wV M ?_;clear M;intro ze w2 M)|refine wq M ?_|(refine wS M ?_;clear M;intro w M)))
  go_ret
  exact⟨rfl,M.new⟩
 ·have hn:(0:Int)<n6:=by have:=N6.out;omega
  rw[if_neg h0]
  clear hg hX hts hkn hev X1 X2 X3 X4 X6 h1 h0 HV
  go_enter Tryz.func112,Tryz.ntmps112
  go_wp2_with (with_reducible (first|(refine wB (L:=[]) M ?_;clear M;intro za w1 M)|(refine wV M ?_;clear M;intro ze w2 M)|refine wq M ?_|(refine wS M ?_;clear M;intro w M)))
  go_ret
  exact⟨rfl,M.new⟩
set_option maxRecDepth 8000 in
set_option maxHeartbeats 4000000 in
theorem emitFault_type(hg:g<w0.heap.size)(hX:SlF F w0 2 typF ao n cap ts)(hts: ∀ t∈ts,typOk t)(x:Rul)(row:List Value)(h:rulF G w0 row x)(hkn: ∀ p∈x.whens,typI ts p.type<ts.length)(hev: ∀ o∈x.evals,o.vtext.size≤maxLen)(h1:emS x.etype=false)(h2:ts.length≤typI ts x.etype):Calls Tryz.prog 112 #[.slice ao n cap,.agg row.toArray] w0 fun e w' =>e= .returned (.int .i64 (emitE ts x))∧Below w0.heap.size w0 w' :=by
 have HV:Hid (emitE ts x=6):=by show _=_;unfold emitE;rw[h1,if_neg (by simp),if_pos h2]
 have he0:x.etype.toList.isEmpty=false:=h1
 obtain⟨a1,n1,c1,a2,n2,c2,a3,n3,c3,a4,n4,c4,a6,n6,c6,rfl,X1,X2,X3,X4,X6⟩:=h
 have M:=Mem.begin hg ⟨0,0⟩
 have hle6:=X6.le
 have N6:=Lib.hid X6.len
 have hleX:=hX.le
 have NX:=Lib.hid hX.len
 unfold rulC
 have HTN:=Lib.hid (fun wx (hb:Below w0.heap.size w0 wx)=>typeNamed_any (Nat.lt_of_lt_of_le hg hb.size) (hX.below typF_firm hb) x.etype)
 have hpv:placeV (typI ts x.etype) ts.length= -1:=by unfold placeV;rw[if_neg (by omega)]
 rw[hpv]at HTN
 rw[HV.out]
 clear hg hX hts hkn hev X1 X2 X3 X4 X6 h1 h2 HV hpv
 go_enter Tryz.func112,Tryz.ntmps112
 go_wp2_with (first|(with_reducible (first|(refine wB (L:=[]) M ?_;clear M;intro za w1 M)|(refine wV M ?_;clear M;intro ze w2 M)|refine wq M ?_|(refine wS M ?_;clear M;intro w M)))|(go_at_call 66;with_reducible refine(HTN.out _ M.new).mono ?_;rintro e w5 ⟨rfl,hb5⟩;replace M:=M.below hb5;clear hb5))
 go_ret
 exact⟨rfl,M.new⟩
set_option maxRecDepth 8000 in
set_option maxHeartbeats 4000000 in
theorem emitFault_len(hg:g<w0.heap.size)(hX:SlF F w0 2 typF ao n cap ts)(hts: ∀ t∈ts,typOk t)(x:Rul)(row:List Value)(h:rulF G w0 row x)(hkn: ∀ p∈x.whens,typI ts p.type<ts.length)(hev: ∀ o∈x.evals,o.vtext.size≤maxLen)(h1:emS x.etype=false)(h2:typI ts x.etype<ts.length)(h3:x.evals.length≠(typAt ts x.etype).fields.length):Calls Tryz.prog 112 #[.slice ao n cap,.agg row.toArray] w0 fun e w' =>e= .returned (.int .i64 (emitE ts x))∧Below w0.heap.size w0 w' :=by
 have HV:Hid (emitE ts x=13):=by show _=_;unfold emitE;rw[h1,if_neg (by simp),if_neg (by omega),if_pos h3]
 have he0:x.etype.toList.isEmpty=false:=h1
 obtain⟨a1,n1,c1,a2,n2,c2,a3,n3,c3,a4,n4,c4,a6,n6,c6,rfl,X1,X2,X3,X4,X6⟩:=h
 have M:=Mem.begin hg ⟨0,0⟩
 have hle6:=X6.le
 have N6:=Lib.hid X6.len
 have hleX:=hX.le
 have NX:=Lib.hid hX.len
 unfold rulC
 have HTN:=Lib.hid (fun wx (hb:Below w0.heap.size w0 wx)=>typeNamed_any (Nat.lt_of_lt_of_le hg hb.size) (hX.below typF_firm hb) x.etype)
 have hpv:placeV (typI ts x.etype) ts.length=(typI ts x.etype:Nat):=by unfold placeV;rw[if_pos h2]
 rw[hpv]at HTN
 rw[HV.out]
 obtain⟨ct,ot,rowt,hixt, -,hrrt,hwt⟩:=SlF.rowAt (P:=Tryz.prog) hX typF_firm Tryz.underlying22 size_typ (i:=typI ts x.etype) h2
 obtain⟨t1,t2,t3,et,ut⟩:=hrrt
 subst et
 have hTT:typAt ts x.etype=ts[typI ts x.etype]:=by unfold typAt;rw[List.getD_eq_getElem?_getD,List.getElem?_eq_getElem h2];rfl
 have HT1:Hid (∀ wx,Below w0.heap.size w0 wx→wx.cell? ⟨ct,ot+1,none⟩=some (.slice t1 t2 t3)):=fun wx hb=>(hwt wx hb).1 1 _ rfl
 have hne:((n6:Int)!=t2)=true:=by
  have e1:=N6.out
  have e2:=ut.len
  rw[hTT]at h3
  simp;omega
 have htn:(typI ts x.etype:Int)<n:=by have:=NX.out;omega
 have htp:(0:Int)≤(typI ts x.etype:Nat):=by omega
 generalize typI ts x.etype=ti at HTN hixt htn htp
 clear hg hX hts hkn hev X1 X2 X3 X4 X6 h1 h2 h3 HV hpv hwt ut hTT
 go_enter Tryz.func112,Tryz.ntmps112
 go_wp2_with (first|(with_reducible (first|(refine wB (L:=[]) M ?_;clear M;intro za w1 M)|(refine wV M ?_;clear M;intro ze w2 M)|refine wq M ?_|(refine wS M ?_;clear M;intro w M)))|(go_at_call 66;with_reducible refine(HTN.out _ M.new).mono ?_;rintro e w5 ⟨rfl,hb5⟩;replace M:=M.below hb5;clear hb5))
 ((refine wp_region_still_lit (by kernel_rfl) (by kernel_rfl) ?_);(change wpStill _ _ (World.drew _) _ _ _);replace M:=M.drew;(repeat(first|((with_reducible refine s_list rfl fun K hK=>?_);refine s_load ?_;(first|(refine q_cellat (HT1.out _ M.new) ?_)|refine q_get M (by exact rfl) ?_);refine⟨rfl,hK _ ?_⟩;clear hK K)|((with_reducible refine s_list rfl fun K hK=>?_);refine s_pure ?_;go_simp;refine hK _ ?_;clear hK K)));(refine wpStill_nil ?_))
 go_wp2_with (with_reducible (first|refine wq M ?_|(refine wS M ?_;clear M;intro w M)|(refine wV M ?_;clear M;intro z w M)|(refine wR M ?_;clear M;intro q w M)))
 go_ret
 exact⟨rfl,M.new⟩
end
end Go.Proofs.YtfahleafppfkaaaGreatDoor
