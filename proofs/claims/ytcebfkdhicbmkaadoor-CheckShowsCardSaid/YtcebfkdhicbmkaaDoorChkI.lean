/-
  The walks of the reference's BookFault, ninth part: does a rule speak of a type? Printed by chki.py.
-/
import Derived.Test.YtcebfkdhicbmkaaDoorChkH
namespace Go.Proofs.YtcebfkdhicbmkaaDoor
open Go.RowKit
set_option linter.unusedVariables false
set_option linter.unusedSimpArgs false
section
variable {g:Nat} {F:Nat→Prop} {w0:World}
set_option maxRecDepth 8000 in
set_option maxHeartbeats 4000000 in
theorem speaksOf_any(hg:g<w0.heap.size)(x:Rul)(row:List Value)(h:rulF F w0 row x)(nm:ByteArray):
  Calls Tryd.prog 52 #[.agg row.toArray,.string nm] w0 fun e w' =>e= .returned (.bool (speaks x nm))∧Below w0.heap.size w0 w' :=by
 obtain⟨a1,n1,c1,a2,n2,c2,a3,n3,c3,a4,n4,c4,a6,n6,c6,rfl,X1,X2,X3,X4,X6⟩:=h
 have M:=Mem.begin hg ⟨0,0⟩
 have hle1:=X1.le
 have hle2:=X2.le
 have hle3:=X3.le
 have NLn1:=Lib.hid X1.len
 have NLn2:=Lib.hid X2.len
 have NLn3:=Lib.hid X3.len
 have HXn1:=Lib.hid X1
 have HXn2:=Lib.hid X2
 have HXn3:=Lib.hid X3
 unfold rulC
 clear X1 X2 X3 X4 X6 hg
 go_enter Tryd.func52,Tryd.ntmps52
 go_wp2_with (with_reducible (refine wB (L:=[]) M ?_;clear M;intro za w1 M))
 go_loopw [5] (fun i wr=> ∃ j:Nat,j≤n1∧i= .int .i64 j∧Mem (StaysB g w0) g w0 wr ⟨0,0⟩ (own za [.string x.name,.slice a1 n1 c1,.slice a2 n2 c2,.slice a3 n3 c3,.slice a4 n4 c4,.string x.etype,.slice a6 n6 c6] 50::[])∧Hid (NoB x.whens (fun p=>sameS p.type nm) j)) (fun i _=>n1 - (intOf i).toNat)
 case atStart=>exact⟨0,by omega,rfl,M,noB_zero _ _⟩
 case round=>
  clear M
  obtain⟨j,hj,rfl,M,HB⟩:=hrel
  by_cases hltj:j<n1
  ·have hkl:j<x.whens.length:=by have:=NLn1.out;omega
   obtain⟨ca,oa,rowa,hixa, -,hrra,hwa⟩:=SlF.rowAt (P:=Tryd.prog) HXn1.out patF_firm Tryd.underlying43 size_pat (i:=j) hkl
   obtain⟨p1,q1,s1,ea,u1⟩:=hrra
   subst ea
   have HA0:Hid (∀ wx,Below w0.heap.size w0 wx→wx.cell? ⟨ca,oa+1,none⟩=some (.string x.whens[j].type)):=fun wx hb=>(hwa wx hb).1 1 _ rfl
   have HP:Hid (∀ b,sameS x.whens[j].type nm=b→(x.whens[j].type.toList==nm.toList)=b):=fun b h=>h
   have HT:Hid (sameS x.whens[j].type nm=false→NoB x.whens (fun p=>sameS p.type nm) (j+1)):=fun h=>noB_succ HB.out hkl h
   have HN:Hid (sameS x.whens[j].type nm=true→speaks x nm=true):=fun h=>by
    have e:x.whens.any (fun p=>sameS p.type nm)=true:=List.any_eq_true.2 ⟨_,List.getElem_mem hkl,h⟩
    unfold speaks
    rw[e];simp
   clear hwa u1 HB
   generalize x.whens[j].type=y at HA0 HP HT HN
   cases hsm:sameS y nm with
   |true=>
    have hq:=HP.out _ hsm
    have HV2:=Lib.hid (HN.out hsm)
    clear HP HT HN hsm
    go_wp2_with (with_reducible (first|refine wq M ?_|refine wC (HA0.out _ M.new) ?_))
    go_ret
    rw[HV2.out]
    exact⟨rfl,M.new⟩
   |false=>
    have hq:=HP.out _ hsm
    have HV2:=Lib.hid (HT.out hsm)
    clear HP HT HN hsm
    go_wp2_with (with_reducible (first|refine wq M ?_|refine wC (HA0.out _ M.new) ?_))
    go_roundw
    case rel=>exact⟨j+1,by omega,by go_num,M,HV2⟩
    case measure=>simp[intOf];omega
  ·have HZj:Hid (x.whens.any (fun p=>sameS p.type nm)=false):=List.any_eq_false.2 (fun q hq=>by
    obtain⟨i,hi,rfl⟩:=List.mem_iff_getElem.1 hq
    have e:=HB.out i hi (by have:=NLn1.out;omega)
    simpa using e)
   clear HB
   go_wp2_with (with_reducible refine wq M ?_)
   go_loopw [6] (fun i wr=> ∃ j:Nat,j≤n2∧i= .int .i64 j∧Mem (StaysB g w0) g w0 wr ⟨0,0⟩ (own za [.string x.name,.slice a1 n1 c1,.slice a2 n2 c2,.slice a3 n3 c3,.slice a4 n4 c4,.string x.etype,.slice a6 n6 c6] 50::[])∧Hid (NoB x.nots (fun p=>sameS p.type nm) j)) (fun i _=>n2 - (intOf i).toNat)
   case atStart=>exact⟨0,by omega,rfl,M,noB_zero _ _⟩
   case round=>
    clear M
    obtain⟨k,hk,rfl,M,HB⟩:=hrel
    by_cases hltk:k<n2
    ·have hkl:k<x.nots.length:=by have:=NLn2.out;omega
     obtain⟨ca,oa,rowa,hixa, -,hrra,hwa⟩:=SlF.rowAt (P:=Tryd.prog) HXn2.out patF_firm Tryd.underlying43 size_pat (i:=k) hkl
     obtain⟨p1,q1,s1,ea,u1⟩:=hrra
     subst ea
     have HA0:Hid (∀ wx,Below w0.heap.size w0 wx→wx.cell? ⟨ca,oa+1,none⟩=some (.string x.nots[k].type)):=fun wx hb=>(hwa wx hb).1 1 _ rfl
     have HP:Hid (∀ b,sameS x.nots[k].type nm=b→(x.nots[k].type.toList==nm.toList)=b):=fun b h=>h
     have HT:Hid (sameS x.nots[k].type nm=false→NoB x.nots (fun p=>sameS p.type nm) (k+1)):=fun h=>noB_succ HB.out hkl h
     have HN:Hid (sameS x.nots[k].type nm=true→speaks x nm=true):=fun h=>by
      have e:x.nots.any (fun p=>sameS p.type nm)=true:=List.any_eq_true.2 ⟨_,List.getElem_mem hkl,h⟩
      unfold speaks
      rw[e];simp
     clear hwa u1 HB
     generalize x.nots[k].type=y at HA0 HP HT HN
     cases hsm:sameS y nm with
     |true=>
      have hq:=HP.out _ hsm
      have HV2:=Lib.hid (HN.out hsm)
      clear HP HT HN hsm
      go_wp2_with (with_reducible (first|refine wq M ?_|refine wC (HA0.out _ M.new) ?_))
      go_ret
      rw[HV2.out]
      exact⟨rfl,M.new⟩
     |false=>
      have hq:=HP.out _ hsm
      have HV2:=Lib.hid (HT.out hsm)
      clear HP HT HN hsm
      go_wp2_with (with_reducible (first|refine wq M ?_|refine wC (HA0.out _ M.new) ?_))
      go_roundw
      case rel=>exact⟨k+1,by omega,by go_num,M,HV2⟩
      case measure=>simp[intOf];omega
    ·have HZk:Hid (x.nots.any (fun p=>sameS p.type nm)=false):=List.any_eq_false.2 (fun q hq=>by
      obtain⟨i,hi,rfl⟩:=List.mem_iff_getElem.1 hq
      have e:=HB.out i hi (by have:=NLn2.out;omega)
      simpa using e)
     clear HB
     go_wp2_with (with_reducible refine wq M ?_)
     go_loopw [7] (fun i wr=> ∃ j:Nat,j≤n3∧i= .int .i64 j∧Mem (StaysB g w0) g w0 wr ⟨0,0⟩ (own za [.string x.name,.slice a1 n1 c1,.slice a2 n2 c2,.slice a3 n3 c3,.slice a4 n4 c4,.string x.etype,.slice a6 n6 c6] 50::[])∧Hid (NoB x.manies (fun p=>sameS p.pat.type nm) j)) (fun i _=>n3 - (intOf i).toNat)
     case atStart=>exact⟨0,by omega,rfl,M,noB_zero _ _⟩
     case round=>
      clear M
      obtain⟨m,hm,rfl,M,HB⟩:=hrel
      by_cases hltm:m<n3
      ·have hkl:m<x.manies.length:=by have:=NLn3.out;omega
       obtain⟨ca,oa,rowa,hixa, -,hrra,hwa⟩:=SlF.rowAt (P:=Tryd.prog) HXn3.out manF_firm Tryd.underlying44 size_man (i:=m) hkl
       obtain⟨p1,q1,s1,ea,u1⟩:=hrra
       subst ea
       have HA0:Hid (∀ wx,Below w0.heap.size w0 wx→wx.cell? ⟨ca,oa+3,none⟩=some (.string x.manies[m].pat.type)):=fun wx hb=>(hwa wx hb).1 3 _ rfl
       have HP:Hid (∀ b,sameS x.manies[m].pat.type nm=b→(x.manies[m].pat.type.toList==nm.toList)=b):=fun b h=>h
       have HT:Hid (sameS x.manies[m].pat.type nm=false→NoB x.manies (fun p=>sameS p.pat.type nm) (m+1)):=fun h=>noB_succ HB.out hkl h
       have HN:Hid (sameS x.manies[m].pat.type nm=true→speaks x nm=true):=fun h=>by
        have e:x.manies.any (fun p=>sameS p.pat.type nm)=true:=List.any_eq_true.2 ⟨_,List.getElem_mem hkl,h⟩
        unfold speaks
        rw[e];simp
       clear hwa u1 HB
       generalize x.manies[m].pat.type=y at HA0 HP HT HN
       cases hsm:sameS y nm with
       |true=>
        have hq:=HP.out _ hsm
        have HV2:=Lib.hid (HN.out hsm)
        clear HP HT HN hsm
        go_wp2_with (with_reducible (first|refine wq M ?_|refine wC (HA0.out _ M.new) ?_))
        go_ret
        rw[HV2.out]
        exact⟨rfl,M.new⟩
       |false=>
        have hq:=HP.out _ hsm
        have HV2:=Lib.hid (HT.out hsm)
        clear HP HT HN hsm
        go_wp2_with (with_reducible (first|refine wq M ?_|refine wC (HA0.out _ M.new) ?_))
        go_roundw
        case rel=>exact⟨m+1,by omega,by go_num,M,HV2⟩
        case measure=>simp[intOf];omega
      ·have HZm:Hid (x.manies.any (fun p=>sameS p.pat.type nm)=false):=List.any_eq_false.2 (fun q hq=>by
        obtain⟨i,hi,rfl⟩:=List.mem_iff_getElem.1 hq
        have e:=HB.out i hi (by have:=NLn3.out;omega)
        simpa using e)
       clear HB
       go_wp2_with (with_reducible refine wq M ?_)
       go_ret
       have e:speaks x nm=false:=by unfold speaks;rw[HZj.out,HZk.out,HZm.out];rfl
       rw[e]
       exact⟨rfl,M.new⟩
end
end Go.Proofs.YtcebfkdhicbmkaaDoor
