/-
  The walks of the program's Check, seventh part: what is emitted. Printed by pgg.py.
-/
import Derived.Test.YtncmghnhfipklaaGreatDoorPw18
import Derived.Test.YtncmghnhfipklaaGreatDoorPw25
namespace Go.Proofs.YtncmghnhfipklaaGreatDoor
open Go.RowKit
set_option linter.unusedVariables false
set_option linter.unusedSimpArgs false
section
variable {g:Nat} {F G:Nat→Prop} {ao:Option Addr} {n cap:Nat} {a6:Option Addr} {n6 c6:Nat} {w0:World} {ts:List Typ} {zs zk nk:Nat} {f:MapF}
set_option maxRecDepth 8000 in
set_option maxHeartbeats 8000000 in
theorem emit_any(hg:g<w0.heap.size)(x:Rul)(hS:Scope F w0 zs zk nk f ts x.whens ao n cap)(hts: ∀ t∈ts,TypGood t)(X6:SlF G w0 6 opdF a6 n6 c6 x.evals)(hev: ∀ o∈x.evals,OpdFit o):
  Calls Tryz.prog 41 #[.pointer (some ⟨zs,0,none⟩),.agg #[.string x.etype,.slice a6 n6 c6]] w0 fun e w' =>e= .returned (.int .i64 (emitE ts x))∧Below w0.heap.size w0 w' :=by
 have M:=Mem.begin hg ⟨0,0⟩
 have hle6:=X6.le
 have N6:=Lib.hid X6.len
 have HTY0: ∀ wx,Below w0.heap.size w0 wx→Calls Tryz.prog 63 #[.pointer (some ⟨zs,0,none⟩),.string x.etype] wx (TypdPost F ts x.etype w0 wx):=fun wx hb=>typed_any (Same.below hb) (Nat.lt_of_lt_of_le hg hb.size) hS.types zs (Nat.lt_of_lt_of_le hS.lt hb.size) (hS.below hb).c0 x.etype
 cases h1:emS x.etype with
 |true=>
  have he0:x.etype.toList=[]:=by simpa[emS]using h1
  have HV:Hid (emitE ts x=if x.evals.length=0 then 0 else 4):=by show _=_;unfold emitE;rw[if_pos h1]
  by_cases h0:x.evals.length=0
  ·have hn:(n6:Int)=0:=by have:=N6.out;omega
   replace HV:=Lib.hid (HV.out.trans (if_pos h0))
   clear hg hS hts hev X6 h0 HTY0 h1
   go_enter Tryz.func41,Tryz.ntmps41
   go_wp2_with (with_reducible (first|(refine wB (L:=[]) M ?_;clear M;intro za w1 M)|refine wq M ?_))
   go_ret
   rw[HV.out]
   exact⟨rfl,M.new⟩
  ·have hn:(0:Int)<n6:=by have:=N6.out;omega
   replace HV:=Lib.hid (HV.out.trans (if_neg h0))
   clear hg hS hts hev X6 h0 HTY0 h1
   go_enter Tryz.func41,Tryz.ntmps41
   go_wp2_with (with_reducible (first|(refine wB (L:=[]) M ?_;clear M;intro za w1 M)|refine wq M ?_))
   go_ret
   rw[HV.out]
   exact⟨rfl,M.new⟩
 |false=>
  have he0:x.etype.toList.isEmpty=false:=h1
  by_cases h2:typI ts x.etype<ts.length
  ·have hTT:typAt ts x.etype=ts[typI ts x.etype]:=by unfold typAt;rw[List.getD_eq_getElem?_getD,List.getElem?_eq_getElem h2];rfl
   have hgo:TypGood (typAt ts x.etype):=by rw[hTT];exact hts _ (List.getElem_mem h2)
   have HTY:Hid (∀ wx,Below w0.heap.size w0 wx→Calls Tryz.prog 63 #[.pointer (some ⟨zs,0,none⟩),.string x.etype] wx fun e w' => ∃ a nn c,e= .returned (.tuple #[.agg #[.string (typAt ts x.etype).name,.slice a nn c],.int .i64 0])∧Below wx.heap.size wx w' ∧SlF F w0 2 (plainF fldC) a nn c (typAt ts x.etype).fields):=fun wx hb=>
    (HTY0 wx hb).mono (by rintro e w' ⟨tn,a,nn,c,rfl,hb,h⟩;exact⟨a,nn,c,by rw[if_pos h2,(h h2).1],hb,(h h2).2⟩)
   by_cases h3:x.evals.length=(typAt ts x.etype).fields.length
   ·have HV:Hid (emitE ts x=firstN (fun i=>emitG ts x.whens (typAt ts x.etype) (x.evals.getD i opd0) ((typAt ts x.etype).fields.getD i default).kind) x.evals.length):=by show _=_;unfold emitE;rw[h1,if_neg (by simp),if_neg (by omega),if_neg (by omega)];rfl
    have HNE:Hid (∀ m:Nat,m=(typAt ts x.etype).fields.length→((n6:Int)!=m)=false):=fun m hm=>by have:=N6.out;simp;omega
    have HSD:Hid (∀ ta tnn tc,SlF F w0 2 (plainF fldC) ta tnn tc (typAt ts x.etype).fields→ ∀ o∈x.evals,∀ wx,Below w0.heap.size w0 wx→Calls Tryz.prog 70 #[.pointer (some ⟨zs,0,none⟩),.agg (opdC o).toArray,.agg #[.string (typAt ts x.etype).name,.slice ta tnn tc]] wx (SidePost ts x.whens (typAt ts x.etype) o wx)):=fun ta tnn tc hfl o ho wx hb=>
     side_any (Nat.lt_of_lt_of_le hg hb.size) o (hev o ho).1 (hev o ho).2 (hS.below hb) hts (hfl.below (plainF_firm _) hb) hgo
    have HF:Hid (∀ i,i<x.evals.length→(fun i=>emitG ts x.whens (typAt ts x.etype) (x.evals.getD i opd0) ((typAt ts x.etype).fields.getD i default).kind) i=emitG ts x.whens (typAt ts x.etype) (x.evals.getD i opd0) ((typAt ts x.etype).fields.getD i default).kind):=fun i _=>rfl
    generalize (fun i=>emitG ts x.whens (typAt ts x.etype) (x.evals.getD i opd0) ((typAt ts x.etype).fields.getD i default).kind)=fe at HF HV
    have h3:=Lib.hid h3
    have XV:=Lib.hid X6
    clear hg hS hts hev X6 HTY0 h1 h2 hTT hgo
    go_enter Tryz.func41,Tryz.ntmps41
    go_wp2_with (first|(with_reducible (first|(refine wB (L:=[]) M ?_;clear M;intro za w1 M)|(refine wV M ?_;clear M;intro zt w M)|refine wq M ?_|(refine wS M ?_;clear M;intro w M)))|(go_at_call 63;with_reducible refine(HTY.out _ M.new).mono ?_;rintro e w5 ⟨ta,tnn,tc,rfl,hb5,hfl⟩;replace M:=M.below hb5;clear hb5;have hne:=HNE.out tnn hfl.len;have HTF:=Lib.hid hfl;clear hfl))
    go_loopg [38] n6 (fun fu i wr=> ∃ j:Nat,j+fu=n6∧i= .int .i64 j∧Mem (StaysB g w0) g w0 wr ⟨0,0⟩ (own zt [.string (typAt ts x.etype).name,.slice ta tnn tc] 51::own za [.string x.etype,.slice a6 n6 c6] 45::[])∧Hid (AllZ fe j))
    case atStart=>exact⟨0,by omega,rfl,M,allZ_zero _⟩
    case round=>
     clear M
     obtain⟨j,hj,rfl,M,HZ⟩:=hrel
     by_cases hlt:j<n6
     ·have hkl:j<x.evals.length:=by have:=N6.out;omega
      have hkt:j<(typAt ts x.etype).fields.length:=by have:=h3.out;omega
      obtain⟨ca,oa,rowa,hixa, -,hrra,hwa⟩:=SlF.rowAt (P:=Tryz.prog) XV.out (plainF_firm _) Tryz.underlying43 size_opd (i:=j) hkl
      have e1:rowa=opdC x.evals[j]:=hrra
      subst e1
      obtain⟨cf,of,rowf,hixf, -,hrrf,hwf⟩:=SlF.rowAt (P:=Tryz.prog) HTF.out (plainF_firm _) Tryz.underlying49 size_fld (i:=j) hkt
      have e2:rowf=fldC (typAt ts x.etype).fields[j]:=hrrf
      subst e2
      have HR:=Lib.hid (fun wx hb=>(hwa wx hb).1)
      have HFK:Hid (∀ wx,Below w0.heap.size w0 wx→wx.cell? ⟨cf,of+1,none⟩=some (.int .i64 (typAt ts x.etype).fields[j].kind)):=fun wx hb=>(hwf wx hb).1 1 _ rfl
      have hfj:fe j=emitG ts x.whens (typAt ts x.etype) x.evals[j] (typAt ts x.etype).fields[j].kind:=by
       rw[HF.out j hkl,List.getD_eq_getElem?_getD,List.getElem?_eq_getElem hkl,List.getD_eq_getElem?_getD,List.getElem?_eq_getElem hkt];rfl
      have HVj:Hid (fe j≠0→emitE ts x=fe j):=fun h=>HV.out.trans (firstN_at HZ.out hkl h)
      have HW:Hid (fe j=0→AllZ fe (j+1)):=fun h=>allZ_succ HZ.out h
      have HSo:=Lib.hid (HSD.out ta tnn tc HTF.out x.evals[j] (List.getElem_mem hkl))
      have hjt:(j:Int)<tnn:=by have:=HTF.out.len;omega
      clear hwa hrra hwf hrrf HZ
      generalize x.evals[j]=o at HR HSo hfj
      generalize (typAt ts x.etype).fields[j].kind=fk at HFK hfj
      unfold opdC at HR HSo
      unfold SidePost at HSo
      unfold emitG at hfj
      by_cases hk2:o.kind=2
      ·rw[if_pos hk2]at hfj
       rw[hk2]at HR
       have HE:Hid (emitE ts x=4):=by show _=_;rw[←hfj];exact HVj.out (by rw[hfj];decide)
       clear HVj HW hfj hk2 HSo
       go_wp2_with (with_reducible (first|(refine wV M ?_;clear M;intro zx w M)|refine wq M ?_|(refine wS M ?_;clear M;intro w M)|refine wA (HR.out _ M.new) ?_))
       go_ret
       rw[HE.out]
       exact⟨rfl,M.new⟩
      ·rw[if_neg hk2]at hfj
       have hkb:(o.kind==2)=false:=by simpa using hk2
       generalize sideE ts x.whens (typAt ts x.etype) o=se at HSo hfj
       generalize sideK ts x.whens (typAt ts x.etype) o=sk at HSo hfj
       generalize o.kind=ok at HR HSo hkb hk2
       by_cases hse:se=0
       ·subst hse
        rw[if_neg (by simp)]at hfj
        simp only[true_implies]at HSo
        by_cases hkk2:sk=fk
        ·subst hkk2
         rw[if_pos rfl]at hfj
         have HZ2:=Lib.hid (HW.out hfj)
         clear HVj HW hfj hk2
         go_wp2_with (first|(with_reducible (first|(refine wV M ?_;clear M;intro zx w M)|refine wq M ?_|(refine wS M ?_;clear M;intro w M)|refine wA (HR.out _ M.new) ?_|refine wC (HFK.out _ M.new) ?_))|(go_at_call 70;with_reducible refine(HSo.out _ M.new).mono ?_;rintro e w5 ⟨kk,rfl,hb5,hkk⟩;replace hkk:=hkk.symm;subst hkk;replace M:=M.below hb5;clear hb5))
         go_roundg (n6 - (j+1))
         case measure=>omega
         case rel=>exact⟨j+1,by omega,by go_num,M.drop,HZ2⟩
        ·rw[if_neg hkk2]at hfj
         have hkc:(sk !=fk)=true:=by simpa using hkk2
         have HE:Hid (emitE ts x=13):=by show _=_;rw[←hfj];exact HVj.out (by rw[hfj];decide)
         clear HVj HW hfj hk2 hkk2
         go_wp2_with (first|(with_reducible (first|(refine wV M ?_;clear M;intro zx w M)|refine wq M ?_|(refine wS M ?_;clear M;intro w M)|refine wA (HR.out _ M.new) ?_|refine wC (HFK.out _ M.new) ?_))|(go_at_call 70;with_reducible refine(HSo.out _ M.new).mono ?_;rintro e w5 ⟨kk,rfl,hb5,hkk⟩;replace hkk:=hkk.symm;subst hkk;replace M:=M.below hb5;clear hb5))
         go_ret
         rw[HE.out]
         exact⟨rfl,M.new⟩
       ·rw[if_pos hse]at hfj
        have hs2:(se !=0)=true:=by simpa using hse
        have HE:Hid (emitE ts x=se):=by show _=_;rw[←hfj];exact HVj.out (by rw[hfj];exact hse)
        clear HVj HW hfj hk2 hse
        go_wp2_with (first|(with_reducible (first|(refine wV M ?_;clear M;intro zx w M)|refine wq M ?_|(refine wS M ?_;clear M;intro w M)|refine wA (HR.out _ M.new) ?_))|(go_at_call 70;with_reducible refine(HSo.out _ M.new).mono ?_;rintro e w5 ⟨kk,rfl,hb5, -⟩;replace M:=M.below hb5;clear hb5))
        go_ret
        rw[HE.out]
        exact⟨rfl,M.new⟩
     ·have HE:Hid (emitE ts x=0):=by
       have e:j=x.evals.length:=by have:=N6.out;omega
       exact HV.out.trans (firstN_zero (e▸HZ.out))
      go_wp2_with (with_reducible (first|refine wq M ?_|(refine wS M ?_;clear M;intro w M)|(refine wV M ?_;clear M;intro z w M)|(refine wR M ?_;clear M;intro q w M)))
      go_ret
      rw[HE.out]
      exact⟨rfl,M.new⟩
   ·have HV:Hid (emitE ts x=13):=by show _=_;unfold emitE;rw[h1,if_neg (by simp),if_neg (by omega),if_pos h3]
    have HNE:Hid (∀ m:Nat,m=(typAt ts x.etype).fields.length→((n6:Int)!=m)=true):=fun m hm=>by have:=N6.out;simp;omega
    clear hg hS hts hev X6 HTY0 h1 h2 hTT hgo h3
    go_enter Tryz.func41,Tryz.ntmps41
    go_wp2_with (first|(with_reducible (first|(refine wB (L:=[]) M ?_;clear M;intro za w1 M)|(refine wV M ?_;clear M;intro zt w M)|refine wq M ?_|(refine wS M ?_;clear M;intro w M)))|(go_at_call 63;with_reducible refine(HTY.out _ M.new).mono ?_;rintro e w5 ⟨ta,tnn,tc,rfl,hb5,hfl⟩;replace M:=M.below hb5;clear hb5;have hne:=HNE.out tnn hfl.len;have HTF:=Lib.hid hfl;clear hfl))
    go_ret
    rw[HV.out]
    exact⟨rfl,M.new⟩
  ·have HV:Hid (emitE ts x=6):=by show _=_;unfold emitE;rw[h1,if_neg (by simp),if_pos (by omega)]
   have HTY:Hid (∀ wx,Below w0.heap.size w0 wx→Calls Tryz.prog 63 #[.pointer (some ⟨zs,0,none⟩),.string x.etype] wx fun e w' => ∃ tn a nn c,e= .returned (.tuple #[.agg #[.string tn,.slice a nn c],.int .i64 6])∧Below wx.heap.size wx w'):=fun wx hb=>
    (HTY0 wx hb).mono (by rintro e w' ⟨tn,a,nn,c,rfl,hb,h⟩;exact⟨tn,a,nn,c,by rw[if_neg h2],hb⟩)
   clear hg hS hts hev X6 HTY0 h1 h2
   go_enter Tryz.func41,Tryz.ntmps41
   go_wp2_with (first|(with_reducible (first|(refine wB (L:=[]) M ?_;clear M;intro za w1 M)|(refine wV M ?_;clear M;intro zt w M)|refine wq M ?_|(refine wS M ?_;clear M;intro w M)))|(go_at_call 63;with_reducible refine(HTY.out _ M.new).mono ?_;rintro e w5 ⟨tn,ta,tnn,tc,rfl,hb5⟩;replace M:=M.below hb5;clear hb5))
   go_ret
   rw[HV.out]
   exact⟨rfl,M.new⟩
end
end Go.Proofs.YtncmghnhfipklaaGreatDoor
