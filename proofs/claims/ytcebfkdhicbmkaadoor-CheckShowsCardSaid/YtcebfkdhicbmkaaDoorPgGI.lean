/-
  The walks of the program's Check, seventh part: what is emitted. Printed by pgg.py.
-/
import Derived.Test.YtcebfkdhicbmkaaDoorPgBC
import Derived.Test.YtcebfkdhicbmkaaDoorChkM
import Derived.Test.YtcebfkdhicbmkaaDoorPgDF
import Derived.Test.YtcebfkdhicbmkaaDoorChkN
import Derived.Deep.CutBlock
import Derived.Deep.DeepCutAuto
namespace Go.Proofs.YtcebfkdhicbmkaaDoor
open Go.RowKit
set_option linter.unusedVariables false
set_option linter.unusedSimpArgs false
section
variable {g:Nat} {F G:Nat→Prop} {ao:Option Addr} {n cap:Nat} {a6:Option Addr} {n6 c6:Nat} {w0:World} {ts:List Typ} {zs zk nk:Nat} {f:MapF}
set_option maxRecDepth 8000 in
set_option maxHeartbeats 8000000 in
theorem emit_any(hg:g<w0.heap.size)(x:Rul)(hS:Scope F w0 zs zk nk f ts x.whens ao n cap)(hts: ∀ t∈ts,TypGood t)(X6:SlF G w0 6 opdF a6 n6 c6 x.evals)(hev: ∀ o∈x.evals,OpdFit o):
  Calls Tryd.prog 38 #[.pointer (some ⟨zs,0,none⟩),.agg #[.string x.etype,.slice a6 n6 c6]] w0 fun e w' =>e= .returned (.int .i64 (emitE ts x))∧Below w0.heap.size w0 w' :=by
 have M:=Mem.begin hg ⟨0,0⟩
 have hle6:=X6.le
 have N6:=Lib.hid X6.len
 have HTY0: ∀ wx,Below w0.heap.size w0 wx→Calls Tryd.prog 55 #[.pointer (some ⟨zs,0,none⟩),.string x.etype] wx (TypdPost F ts x.etype w0 wx):=fun wx hb=>typed_any (Same.below hb) (Nat.lt_of_lt_of_le hg hb.size) hS.types zs (Nat.lt_of_lt_of_le hS.lt hb.size) (hS.below hb).c0 x.etype
 cases h1:emS x.etype with
 |true=>
  have he0:x.etype.toList=[]:=by simpa[emS]using h1
  have HV:Hid (emitE ts x=if x.evals.length=0 then 0 else 4):=by show _=_;unfold emitE;rw[if_pos h1]
  by_cases h0:x.evals.length=0
  ·have hn:(n6:Int)=0:=by have:=N6.out;omega
   replace HV:=Lib.hid (HV.out.trans (if_pos h0))
   clear hg hS hts hev X6 h0 HTY0 h1
   go_enter Tryd.func38,Tryd.ntmps38
   go_wp2_with (with_reducible (first|(refine wB (L:=[]) M ?_;clear M;intro za w1 M)|refine wq M ?_))
   go_ret
   rw[HV.out]
   exact⟨rfl,M.new⟩
  ·have hn:(0:Int)<n6:=by have:=N6.out;omega
   replace HV:=Lib.hid (HV.out.trans (if_neg h0))
   clear hg hS hts hev X6 h0 HTY0 h1
   go_enter Tryd.func38,Tryd.ntmps38
   go_wp2_with (with_reducible (first|(refine wB (L:=[]) M ?_;clear M;intro za w1 M)|refine wq M ?_))
   go_ret
   rw[HV.out]
   exact⟨rfl,M.new⟩
 |false=>
  have he0:x.etype.toList.isEmpty=false:=h1
  by_cases h2:typI ts x.etype<ts.length
  ·have hTT:typAt ts x.etype=ts[typI ts x.etype]:=by unfold typAt;rw[List.getD_eq_getElem?_getD,List.getElem?_eq_getElem h2];rfl
   have hgo:TypGood (typAt ts x.etype):=by rw[hTT];exact hts _ (List.getElem_mem h2)
   have HTY:Hid (∀ wx,Below w0.heap.size w0 wx→Calls Tryd.prog 55 #[.pointer (some ⟨zs,0,none⟩),.string x.etype] wx fun e w' => ∃ a nn c,e= .returned (.tuple #[.agg #[.string (typAt ts x.etype).name,.slice a nn c],.int .i64 0])∧Below wx.heap.size wx w' ∧SlF F w0 2 (plainF fldC) a nn c (typAt ts x.etype).fields):=fun wx hb=>
    (HTY0 wx hb).mono (by rintro e w' ⟨tn,a,nn,c,rfl,hb,h⟩;exact⟨a,nn,c,by rw[if_pos h2,(h h2).1],hb,(h h2).2⟩)
   by_cases h3:x.evals.length=(typAt ts x.etype).fields.length
   ·have HV:Hid (emitE ts x=firstN (fun i=>emitG ts x.whens (typAt ts x.etype) (x.evals.getD i opd0) ((typAt ts x.etype).fields.getD i default).kind) x.evals.length):=by show _=_;unfold emitE;rw[h1,if_neg (by simp),if_neg (by omega),if_neg (by omega)];rfl
    have HNE:Hid (∀ m:Nat,m=(typAt ts x.etype).fields.length→((n6:Int)!=m)=false):=fun m hm=>by have:=N6.out;simp;omega
    have HSD:Hid (∀ ta tnn tc,SlF F w0 2 (plainF fldC) ta tnn tc (typAt ts x.etype).fields→ ∀ o∈x.evals,∀ wx,Below w0.heap.size w0 wx→Calls Tryd.prog 62 #[.pointer (some ⟨zs,0,none⟩),.agg (opdC o).toArray,.agg #[.string (typAt ts x.etype).name,.slice ta tnn tc]] wx (SidePost ts x.whens (typAt ts x.etype) o wx)):=fun ta tnn tc hfl o ho wx hb=>
     side_any (Nat.lt_of_lt_of_le hg hb.size) o (hev o ho).1 (hev o ho).2 (hS.below hb) hts (hfl.below (plainF_firm _) hb) hgo
    have HF:Hid (∀ i,i<x.evals.length→(fun i=>emitG ts x.whens (typAt ts x.etype) (x.evals.getD i opd0) ((typAt ts x.etype).fields.getD i default).kind) i=emitG ts x.whens (typAt ts x.etype) (x.evals.getD i opd0) ((typAt ts x.etype).fields.getD i default).kind):=fun i _=>rfl
    generalize (fun i=>emitG ts x.whens (typAt ts x.etype) (x.evals.getD i opd0) ((typAt ts x.etype).fields.getD i default).kind)=fe at HF HV
    have h3:=Lib.hid h3
    have XV:=Lib.hid X6
    clear hg hS hts hev X6 HTY0 h1 h2 hTT hgo
    go_enter Tryd.func38,Tryd.ntmps38
    go_wp2_with (first|(with_reducible (first|(refine wB (L:=[]) M ?_;clear M;intro za w1 M)|(refine wV M ?_;clear M;intro zt w M)|refine wq M ?_|(refine wS M ?_;clear M;intro w M)))|(go_at_call 55;with_reducible refine(HTY.out _ M.new).mono ?_;rintro e w5 ⟨ta,tnn,tc,rfl,hb5,hfl⟩;replace M:=M.below hb5;clear hb5;have hne:=HNE.out tnn hfl.len;have HTF:=Lib.hid hfl;clear hfl))
    go_loopg [38] n6 (fun fu i wr=> ∃ j:Nat,j+fu=n6∧i= .int .i64 j∧Mem (StaysB g w0) g w0 wr ⟨0,0⟩ (own zt [.string (typAt ts x.etype).name,.slice ta tnn tc] 38::own za [.string x.etype,.slice a6 n6 c6] 48::[])∧Hid (AllZ fe j))
    case atStart=>exact⟨0,by omega,rfl,M,allZ_zero _⟩
    case round=>
     clear M
     obtain⟨j,hj,rfl,M,HZ⟩:=hrel
     by_cases hlt:j<n6
     ·have hkl:j<x.evals.length:=by have:=N6.out;omega
      have hkt:j<(typAt ts x.etype).fields.length:=by have:=h3.out;omega
      obtain⟨ca,oa,rowa,hixa, -,hrra,hwa⟩:=SlF.rowAt (P:=Tryd.prog) XV.out (plainF_firm _) Tryd.underlying46 size_opd (i:=j) hkl
      have e1:rowa=opdC x.evals[j]:=hrra
      subst e1
      obtain⟨cf,of,rowf,hixf, -,hrrf,hwf⟩:=SlF.rowAt (P:=Tryd.prog) HTF.out (plainF_firm _) Tryd.underlying36 size_fld (i:=j) hkt
      have e2:rowf=fldC (typAt ts x.etype).fields[j]:=hrrf
      subst e2
      have HR:=Lib.hid (fun wx hb=>(hwa wx hb).1)
      have HFK:Hid (∀ wx,Below w0.heap.size w0 wx→wx.cell? ⟨cf,of+1,none⟩=some (.int .i64 (typAt ts x.etype).fields[j].kind)):=fun wx hb=>(hwf wx hb).1 1 _ rfl
      have hfj:fe j=emitG ts x.whens (typAt ts x.etype) x.evals[j] (typAt ts x.etype).fields[j].kind:=by
       rw[HF.out j hkl,List.getD_eq_getElem?_getD,List.getElem?_eq_getElem hkl,List.getD_eq_getElem?_getD,List.getElem?_eq_getElem hkt];rfl
      have HVj:Hid (fe j≠0→emitE ts x=fe j):=fun h=>HV.out.trans (firstN_at HZ.out hkl h)
      have HW:Hid (fe j=0→AllZ fe (j+1)):=fun h=>allZ_succ HZ.out h
      have HSo:=Lib.hid (HSD.out ta tnn tc HTF.out x.evals[j] (List.getElem_mem hkl))
      have hjt:(j:Int)<tnn:=by have:=HTF.out.len;omega
      clear hwa hrra hwf hrrf HZ
      generalize x.evals[j]=o at HR HSo hfj
      generalize (typAt ts x.etype).fields[j].kind=fk at HFK hfj
      unfold opdC at HR HSo
      unfold SidePost at HSo
      unfold emitG at hfj
      by_cases hk2:o.kind=2
      ·rw[if_pos hk2]at hfj
       rw[hk2]at HR
       have HE:Hid (emitE ts x=4):=by show _=_;rw[←hfj];exact HVj.out (by rw[hfj];decide)
       clear HVj HW hfj hk2 HSo
       go_wp2_with (with_reducible (first|(refine wV M ?_;clear M;intro zx w M)|refine wq M ?_|(refine wS M ?_;clear M;intro w M)|refine wA (HR.out _ M.new) ?_))
       go_ret
       rw[HE.out]
       exact⟨rfl,M.new⟩
      ·rw[if_neg hk2]at hfj
       have hkb:(o.kind==2)=false:=by simpa using hk2
       generalize sideE ts x.whens (typAt ts x.etype) o=se at HSo hfj
       generalize sideK ts x.whens (typAt ts x.etype) o=sk at HSo hfj
       generalize o.kind=ok at HR HSo hkb hk2
       by_cases hse:se=0
       ·subst hse
        rw[if_neg (by simp)]at hfj
        simp only[true_implies]at HSo
        by_cases hkk2:sk=fk
        ·subst hkk2
         rw[if_pos rfl]at hfj
         have HZ2:=Lib.hid (HW.out hfj)
         clear HVj HW hfj hk2
         go_wp2_with (first|(with_reducible (first|(refine wV M ?_;clear M;intro zx w M)|refine wq M ?_|(refine wS M ?_;clear M;intro w M)|refine wA (HR.out _ M.new) ?_|refine wC (HFK.out _ M.new) ?_))|(go_at_call 62;with_reducible refine(HSo.out _ M.new).mono ?_;rintro e w5 ⟨kk,rfl,hb5,hkk⟩;replace hkk:=hkk.symm;subst hkk;replace M:=M.below hb5;clear hb5))
         go_roundg (n6 - (j+1))
         case measure=>omega
         case rel=>exact⟨j+1,by omega,by go_num,M.drop,HZ2⟩
        ·rw[if_neg hkk2]at hfj
         have hkc:(sk !=fk)=true:=by simpa using hkk2
         have HE:Hid (emitE ts x=13):=by show _=_;rw[←hfj];exact HVj.out (by rw[hfj];decide)
         clear HVj HW hfj hk2 hkk2
         go_wp2_with (first|(with_reducible (first|(refine wV M ?_;clear M;intro zx w M)|refine wq M ?_|(refine wS M ?_;clear M;intro w M)|refine wA (HR.out _ M.new) ?_|refine wC (HFK.out _ M.new) ?_))|(go_at_call 62;with_reducible refine(HSo.out _ M.new).mono ?_;rintro e w5 ⟨kk,rfl,hb5,hkk⟩;replace hkk:=hkk.symm;subst hkk;replace M:=M.below hb5;clear hb5))
         go_ret
         rw[HE.out]
         exact⟨rfl,M.new⟩
       ·rw[if_pos hse]at hfj
        have hs2:(se !=0)=true:=by simpa using hse
        have HE:Hid (emitE ts x=se):=by show _=_;rw[←hfj];exact HVj.out (by rw[hfj];exact hse)
        clear HVj HW hfj hk2 hse
        go_wp2_with (first|(with_reducible (first|(refine wV M ?_;clear M;intro zx w M)|refine wq M ?_|(refine wS M ?_;clear M;intro w M)|refine wA (HR.out _ M.new) ?_))|(go_at_call 62;with_reducible refine(HSo.out _ M.new).mono ?_;rintro e w5 ⟨kk,rfl,hb5, -⟩;replace M:=M.below hb5;clear hb5))
        go_ret
        rw[HE.out]
        exact⟨rfl,M.new⟩
     ·have HE:Hid (emitE ts x=0):=by
       have e:j=x.evals.length:=by have:=N6.out;omega
       exact HV.out.trans (firstN_zero (e▸HZ.out))
      go_wp2_with (with_reducible (first|refine wq M ?_|(refine wS M ?_;clear M;intro w M)|(refine wV M ?_;clear M;intro z w M)|(refine wR M ?_;clear M;intro q w M)))
      go_ret
      rw[HE.out]
      exact⟨rfl,M.new⟩
   ·have HV:Hid (emitE ts x=13):=by show _=_;unfold emitE;rw[h1,if_neg (by simp),if_neg (by omega),if_pos h3]
    have HNE:Hid (∀ m:Nat,m=(typAt ts x.etype).fields.length→((n6:Int)!=m)=true):=fun m hm=>by have:=N6.out;simp;omega
    clear hg hS hts hev X6 HTY0 h1 h2 hTT hgo h3
    go_enter Tryd.func38,Tryd.ntmps38
    go_wp2_with (first|(with_reducible (first|(refine wB (L:=[]) M ?_;clear M;intro za w1 M)|(refine wV M ?_;clear M;intro zt w M)|refine wq M ?_|(refine wS M ?_;clear M;intro w M)))|(go_at_call 55;with_reducible refine(HTY.out _ M.new).mono ?_;rintro e w5 ⟨ta,tnn,tc,rfl,hb5,hfl⟩;replace M:=M.below hb5;clear hb5;have hne:=HNE.out tnn hfl.len;have HTF:=Lib.hid hfl;clear hfl))
    go_ret
    rw[HV.out]
    exact⟨rfl,M.new⟩
  ·have HV:Hid (emitE ts x=6):=by show _=_;unfold emitE;rw[h1,if_neg (by simp),if_pos (by omega)]
   have HTY:Hid (∀ wx,Below w0.heap.size w0 wx→Calls Tryd.prog 55 #[.pointer (some ⟨zs,0,none⟩),.string x.etype] wx fun e w' => ∃ tn a nn c,e= .returned (.tuple #[.agg #[.string tn,.slice a nn c],.int .i64 6])∧Below wx.heap.size wx w'):=fun wx hb=>
    (HTY0 wx hb).mono (by rintro e w' ⟨tn,a,nn,c,rfl,hb,h⟩;exact⟨tn,a,nn,c,by rw[if_neg h2],hb⟩)
   clear hg hS hts hev X6 HTY0 h1 h2
   go_enter Tryd.func38,Tryd.ntmps38
   go_wp2_with (first|(with_reducible (first|(refine wB (L:=[]) M ?_;clear M;intro za w1 M)|(refine wV M ?_;clear M;intro zt w M)|refine wq M ?_|(refine wS M ?_;clear M;intro w M)))|(go_at_call 55;with_reducible refine(HTY.out _ M.new).mono ?_;rintro e w5 ⟨tn,ta,tnn,tc,rfl,hb5⟩;replace M:=M.below hb5;clear hb5))
   go_ret
   rw[HV.out]
   exact⟨rfl,M.new⟩
end
end Go.Proofs.YtcebfkdhicbmkaaDoor
/-
  The program's Check, eighth part: what a scope holds, what names are taken, in plain Lean; slices of numbers made.
-/
namespace Go.Proofs.YtcebfkdhicbmkaaDoor
open Go.RowKit
set_option linter.unusedVariables false
set_option linter.unusedSimpArgs false
theorem sameS_self(a:ByteArray):sameS a a=true:=by unfold sameS;simp
theorem toList_data: ∀ (a:ByteArray),a.toList=a.data.toList:=fun a=>ByteArray.toList_eq a
theorem sameS_eq{a b:ByteArray}(h:sameS a b=true):a=b:=by
 unfold sameS at h
 have e:a.toList=b.toList:=by simpa using h
 rw[toList_data,toList_data]at e
 exact data_inj e
def TakF(f:MapF)(al:List ByteArray):Prop:= ∀ s:ByteArray,f s=if inS al s=true then some (.bool true)else none
theorem takF_none:TakF noneF []:=fun s=>rfl
theorem inS_snoc(al:List ByteArray)(v s:ByteArray):inS (al++[v]) s=(inS al s||sameS v s):=by unfold inS;simp
theorem TakF.snoc{f:MapF}{al:List ByteArray}(h:TakF f al)(v:ByteArray):TakF (putF f v (.bool true)) (al++[v]):=fun s=>by
 unfold putF
 rw[inS_snoc]
 by_cases e:s=v
 ·subst e
  rw[if_pos rfl,sameS_self]
  simp
 ·have hn:sameS v s=false:=by
   cases hq:sameS v s with
   |false=>rfl
   |true=>exact absurd (sameS_eq hq).symm e
  rw[if_neg e,h s,hn]
  simp
structure KnownF (F:Nat→Prop) (w0:World) (f:MapF) (ts:List Typ) (known:List Pat):Prop where
 has: ∀ s:ByteArray,patI known s<known.length→ ∃ cs,f s=some (.agg cs.toArray)∧TypAs F w0 (typAt ts (known.getD (patI known s) pat0).type) cs
 hasnt: ∀ s:ByteArray,¬ patI known s<known.length→f s=none
theorem knownF_none(F:Nat→Prop)(w0:World)(ts:List Typ):KnownF F w0 noneF ts []:=⟨fun s h=>absurd h (Nat.not_lt_zero _),fun s _=>rfl⟩
theorem patI_snoc(l:List Pat)(p:Pat)(s:ByteArray):patI (l++[p]) s=if patI l s<l.length then patI l s else if sameS p.var s=true then l.length else l.length+1:=by
 unfold patI
 rw[List.findIdx_append]
 by_cases h:List.findIdx (fun q=>sameS q.var s) l<l.length
 ·rw[if_pos h,if_pos h]
 ·rw[if_neg h,if_neg h,List.findIdx_singleton]
  cases sameS p.var s<;>simp[Nat.add_comm]
theorem inS_vars(l:List Pat)(s:ByteArray):inS (vars l) s=decide (patI l s<l.length):=by
 unfold inS vars patI
 rw[List.any_map,Bool.eq_iff_iff,decide_eq_true_iff,List.findIdx_lt_length,List.any_eq_true]
 rfl
theorem KnownF.snoc{F:Nat→Prop}{w0:World}{f:MapF}{ts:List Typ}{known:List Pat}(h:KnownF F w0 f ts known)(p:Pat)(hp:inS (vars known) p.var=false){cs:List Value}(hc:TypAs F w0 (typAt ts p.type) cs):KnownF F w0 (putF f p.var (.agg cs.toArray)) ts (known++[p]) where
 has:=fun s hs=>by
  unfold putF
  by_cases e:s=p.var
  ·subst e
   rw[if_pos rfl]
   have hn: ¬ patI known p.var<known.length:=by rw[inS_vars]at hp;simpa using hp
   refine⟨cs,rfl,?_⟩
   rw[patI_snoc,if_neg hn,sameS_self,if_pos rfl]
   rw[List.getD_eq_getElem?_getD,List.getElem?_append_right (Nat.le_refl _)]
   simpa using hc
  ·rw[if_neg e]
   have hk:patI known s<known.length:=by
    apply Classical.byContradiction
    intro hn
    rw[patI_snoc,if_neg hn,if_neg (fun h2=>e (sameS_eq h2).symm)]at hs
    simp at hs
   obtain⟨cs',h1,h2⟩:=h.has s hk
   refine⟨cs',h1,?_⟩
   rw[patI_snoc,if_pos hk,List.getD_eq_getElem?_getD,List.getElem?_append_left hk]
   rw[List.getD_eq_getElem?_getD]at h2
   exact h2
 hasnt:=fun s hs=>by
  unfold putF
  have hk: ¬ patI known s<known.length:=fun hk=>hs (by rw[patI_snoc,if_pos hk,List.length_append];omega)
  have e:s≠p.var:=fun e=>hs (by subst e;rw[patI_snoc,if_neg hk,sameS_self,if_pos rfl,List.length_append];simp)
  rw[if_neg e]
  exact h.hasnt s hk
theorem SlF.back{α:Type}{F:Nat→Prop}{w w0:World}{k:Nat}{c:α→List Value}{ao:Option Addr}{n cap:Nat}{xs:List α}(h:SlF F w k (plainF c) ao n cap xs)(hF: ∀ b,F b→b<w0.heap.size∧w0.heap[b]?=w.heap[b]?):SlF F w0 k (plainF c) ao n cap xs:=by
 obtain⟨h1,h2,h3,h5,h4⟩:=h
 refine⟨h1,h2,h3,h5,fun i hi=>?_⟩
 obtain⟨b,off,row,e,hFb,hlt,hr,hR⟩:=h4 i hi
 exact⟨b,off,row,e,hFb,(hF b hFb).1,rowAt_same hr (hF b hFb).2,hR⟩
theorem pat_fresh{ts:List Typ}{known:List Pat}{ahead:List ByteArray}{p:Pat}{part:Nat}(h:patE ts known ahead p part=0):inS ahead p.var=false:=by
 unfold patE at h
 by_cases h0:freeE p.var≠0
 ·rw[if_pos h0]at h;exact absurd h h0
 ·rw[if_neg h0]at h
  by_cases h1:inS ahead p.var=true
  ·rw[if_pos h1]at h;exact absurd h (by decide)
  ·simpa using h1
theorem inS_app(a b:List ByteArray)(s:ByteArray):inS (a++b) s=(inS a s||inS b s):=by unfold inS;simp
theorem apart_of{ts:List Typ}{x:Rul}(h:AllZ (notE ts x) x.nots.length):Apart x:=fun nm hw=>by
 unfold hasP at hw ⊢
 have hw' :inS (vars x.whens) nm=true:=by rw[inS_vars];exact hw
 rw[←inS_vars]
 apply Classical.byContradiction
 intro hn
 have hn' :inS (vars x.nots) nm=true:=by simpa using hn
 unfold inS vars at hn'
 rw[List.any_map,List.any_eq_true]at hn'
 obtain⟨p,hp,hs⟩:=hn'
 obtain⟨i,hi,rfl⟩:=List.mem_iff_getElem.1 hp
 have hz:=h i hi
 unfold notE at hz
 have hf:=pat_fresh hz
 rw[List.getD_eq_getElem?_getD,List.getElem?_eq_getElem hi,inS_app]at hf
 have e:=sameS_eq (show sameS x.nots[i].var nm=true from hs)
 have hf' :inS (vars x.whens) x.nots[i].var=false:=by
  have:=(Bool.or_eq_false_iff.1 hf).1
  exact this
 rw[e,hw']at hf'
 cases hf'
section
variable {P:Program} {o:Oper} {a:Act} {Q:Exit→Act→World→Prop} {K:Act→World→Prop}
variable {At:PS→World→Prop} {b:Nat} {u w:World} {s:PS} {L:List Ent}
theorem op_buildN(M:Mem At b u w s L){t e:Nat}(hT:RowT P t e 1)(n:Nat)(ps:Array (Nat×Operand))(ho:o.op= .buildSlice t n ps)(hn:0<n∧n≤100)(cs:List Value)(hf: ∀ init:Array Value,init.size=n→Instr.fill (fun i=>some (i*1,1)) init (ps.toList.map fun x=>(x.1,a.eval x.2))=some cs.toArray)
  (h: ∀ q w',Mem At b u w' s (own q cs e::L)→K (a.put o.dst (.slice (some ⟨q,0,none⟩) n n)) w'):o.wp P a w K Q:=by
 obtain⟨hu,ie,z,hie,hz,hsz,hzs,hpos,hsmall, -, -⟩:=hT.open
 have hf2:=hf ((Array.range (n*ie.size)).map (z.cells[· % z.cells.size]!)) (by simp[hsz])
 have hlow: ∀ y,(own w.heap.size cs e).blk=some y→w.heap.size≤y∧y<(w.alloc (.cells cs.toArray e)).heap.size:=fun y hy=>by
  have e:w.heap.size=y:=by injection hy
  subst e
  simp
 exact wp_buildSlice t e n ps ho cs.toArray ie z hu hie hz (by rw[hsz];omega) (by rw[hsz];omega) (by rw[hsz]at hf2 ⊢;simpa using hf2) (h w.heap.size _ (M.push (Joins.below_alloc1 w _) (own_firm _ _ _) hlow (fun G _=>heap_alloc_new w _)))
end
section
variable {P:Program} {dst:Option Tmp} {oty:TypeId} {pos:String} {after:Array Edge} {g:Option (Nat×Bool)} {l:List Value} {ds:List Deferred} {Q:Exit→Act→World→Prop} {K:Act→World→Prop}
variable {At:PS→World→Prop} {b:Nat} {u w:World} {s:PS} {L:List Ent} {ty:Nat}
theorem q_one(M:Mem At b u w s L){e:Nat}{k:Int}[hT:RowI P ty e 1]{F:Nat→List Value}[hd: ∀ q,PutI l dst (.slice (some ⟨q,0,none⟩) 1 1) (F q)](h: ∀ q w',Mem At b u w' s (own q [.int .i64 k] e::L)→K ⟨(F q).toArray,ds⟩ w'):OWP P ⟨dst,.buildSlice ty 1 #[(0,.const (.int .i64 k))],oty,pos,after,g⟩ ⟨l.toArray,ds⟩ w K Q:=
 owp_of (op_buildN M hT.row 1 _ rfl (by omega) [.int .i64 k] (fun init hi=>by
  obtain⟨⟨xs⟩⟩: ∃ y:Array Value,y=init:=⟨init,rfl⟩
  cases init with
  |mk l0=>
   rcases l0 with _|⟨x0,_|⟨x1,l2⟩⟩<;>simp at hi
   simp[Instr.fill,Act.eval,Value.cells]) (fun q w' M' =>by rw[(hd q).put];exact h q w' M'))
theorem q_three(M:Mem At b u w s L){e:Nat}{k1 k2 k3:Int}[hT:RowI P ty e 1]{F:Nat→List Value}[hd: ∀ q,PutI l dst (.slice (some ⟨q,0,none⟩) 3 3) (F q)](h: ∀ q w',Mem At b u w' s (own q [.int .i64 k1,.int .i64 k2,.int .i64 k3] e::L)→K ⟨(F q).toArray,ds⟩ w'):OWP P ⟨dst,.buildSlice ty 3 #[(0,.const (.int .i64 k1)),(1,.const (.int .i64 k2)),(2,.const (.int .i64 k3))],oty,pos,after,g⟩ ⟨l.toArray,ds⟩ w K Q:=
 owp_of (op_buildN M hT.row 3 _ rfl (by omega) [.int .i64 k1,.int .i64 k2,.int .i64 k3] (fun init hi=>by
  cases init with
  |mk l0=>
   rcases l0 with _|⟨x0,_|⟨x1,_|⟨x2,_|⟨x3,l4⟩⟩⟩⟩<;>simp at hi
   simp[Instr.fill,Act.eval,Value.cells]) (fun q w' M' =>by rw[(hd q).put];exact h q w' M'))
end
instance :RowI Tryd.prog 113 3 1:=⟨⟨Tryd.underlying113,⟨.int .i64 0,by kernel_rfl,rfl⟩,by kernel_rfl,by kernel_rfl,by omega,by omega⟩⟩
end Go.Proofs.YtcebfkdhicbmkaaDoor
/-
  The walks of the program's Check, ninth part: rules. Printed by pgi.py.
-/
namespace Go.Proofs.YtcebfkdhicbmkaaDoor
open Go.RowKit
set_option linter.unusedVariables false
set_option linter.unusedSimpArgs false
structure PatFit (p:Pat):Prop where
 var:p.var.size≤maxLen
 con:CondFit p.wher
structure RulFit (x:Rul):Prop where
 name:x.name.size≤maxLen
 whens: ∀ p∈x.whens,PatFit p
 nots: ∀ p∈x.nots,PatFit p
 manies: ∀ m∈x.manies,PatFit m.pat
 evals: ∀ o∈x.evals,OpdFit o
theorem RulFit.ok{x:Rul}(h:RulFit x):RulOk x:=⟨h.name,fun p hp=>⟨(h.whens p hp).var,(h.whens p hp).con.ok⟩,fun p hp=>⟨(h.nots p hp).var,(h.nots p hp).con.ok⟩,fun m hm=>⟨(h.manies m hm).var,(h.manies m hm).con.ok⟩,fun o ho=>(h.evals o ho).1⟩
section
variable {g:Nat} {F:Nat→Prop} {ao:Option Addr} {n cap:Nat} {w0:World} {ts:List Typ}
def PtnIs(F:Nat→Prop)(ts:List Typ)(q:Int)(p:Pat)(zt mt:Nat)(ft:MapF)(w0 w:World):Ending→World→Prop:=fun e w' =>
 ∃ tn a nn c,e= .returned (.tuple #[.agg #[.string tn,.slice a nn c],.int .i64 q])∧But zt w w' ∧ ∃ m f',MapOf Tryd.prog 9 w' zt m f' ∧
  (q=0→m=mt+1∧f' =putF ft p.var (.bool true)∧tn=(typAt ts p.type).name∧SlF F w0 2 (plainF fldC) a nn c (typAt ts p.type).fields)
section
variable {L:List Ent} {w:World} {zt mt zs zk mk:Nat} {ft fk:MapF} {known:List Pat}
theorem Mem.distinct(M:Mem (StaysB g w0) g w0 w ⟨0,0⟩ L){i j z y:Nat}{e f:Ent}(hi:L[i]?=some e)(hj:L[j]?=some f)(he:e.blk=some z)(hf:f.blk=some y)(hij:i≠j):z≠y:=by
 obtain⟨hil,hie⟩:=List.getElem?_eq_some_iff.1 hi
 obtain⟨hjl,hje⟩:=List.getElem?_eq_some_iff.1 hj
 have hp:=List.pairwise_iff_getElem.1 M.apart
 intro hzy
 subst hzy
 rcases Nat.lt_or_gt_of_ne hij with h|h
 ·have:=hp i j hil hjl h
  rw[hie,hje]at this
  exact this z he hf
 ·have:=hp j i hjl hil h
  rw[hie,hje]at this
  exact this z hf he
theorem scope_of(M:Mem (StaysB g w0) g w0 w ⟨0,0⟩ L)(hX:SlF F w0 2 typF ao n cap ts){i2 i3:Nat}
  (h2:L[i2]?=some (own zs [.slice ao n cap,.map (some zk)] 96))(h3:L[i3]?=some (mp Tryd.prog 9 zk mk fk))(HK:KnownF F w0 fk ts known)(hth: ∀ p∈known,typI ts p.type<ts.length):Scope F w zs zk mk fk ts known ao n cap:=by
 have hb:Below w0.heap.size w0 w:=M.new
 have b2:=M.low _ (Mem.of_get h2) _ rfl
 have hO:=M.own_ (Mem.of_get h2)
 exact⟨b2.2,by rw[hO.cell];rfl,by rw[hO.cell];rfl,hX.below typF_firm hb,M.map_ h3,fun s _ hs=>(HK.has s hs).elim fun cs h=>⟨cs,h.1,h.2.same (Same.below hb)⟩,fun s _ hs=>HK.hasnt s hs,hth⟩
theorem ptn_call(M:Mem (StaysB g w0) g w0 w ⟨0,0⟩ L)(hX:SlF F w0 2 typF ao n cap ts)(E:Env F w0)(hF: ∀ b,F b→b<w0.heap.size)(hts: ∀ t∈ts,TypGood t)(i1 i2 i3 i4:Nat)
  (h1:L[i1]?=some (mp Tryd.prog 9 zt mt ft))(h2:L[i2]?=some (own zs [.slice ao n cap,.map (some zk)] 96))(h3:L[i3]?=some (mp Tryd.prog 9 zk mk fk))(HK:KnownF F w0 fk ts known)(hth: ∀ p∈known,typI ts p.type<ts.length)
  {ahead:List ByteArray}(HT:TakF ft ahead){p:Pat}{so:Option Addr}{sn scap:Nat}(hC:SlF F w0 14 CondF so sn scap p.wher.subs)(hp:PatFit p)(part:Nat)(hpart:part≤2){qi:Nat}{ti:TypeId}{cs:List Value}(h4:L[i4]?=some (own qi cs ti))(hcs:cs=(winL part).map fun k=> .int .i64 k)
  {nn:Nat}(hnn:nn=(winL part).length)(r:List Value)(hr:r=pat18 p so sn scap){q:Int}(hq:q=patE ts known ahead p part)(hmt:mt<maxLen)(hd:i1≠i2∧i1≠i3∧i1≠i4):
  Calls Tryd.prog 35 #[.pointer (some ⟨zs,0,none⟩),.agg r.toArray,.map (some zt),.slice (some ⟨qi,0,none⟩) nn nn] w (PtnIs F ts q p zt mt ft w0 w):=by
 subst hcs hnn hr hq
 have hb:Below w0.heap.size w0 w:=M.new
 have b1:=M.low _ (Mem.of_get h1) _ rfl
 have b4:=M.low _ (Mem.of_get h4) _ rfl
 have hQ:=M.own_ (Mem.of_get h4)
 have hFz: ¬ F zt:=fun h=>by have:=hF _ h;omega
 have hS:=scope_of M hX h2 h3 HK hth
 have hne:zs≠zt:=(M.distinct h1 h2 rfl rfl hd.1).symm
 have hne2:zk≠zt:=(M.distinct h1 h3 rfl rfl hd.2.1).symm
 have hne3:zt≠qi:=M.distinct h1 h4 rfl rfl hd.2.2
 have hK:SlF (fun k=>k=qi) w 1 (plainF intC) (some ⟨qi,0,none⟩) (winL part).length (winL part).length (winL part):=by
  refine⟨rfl,Nat.le_refl _,by rcases(by omega:part=0∨part=1∨part=2)with rfl|rfl|rfl<;>decide,(fun h=>by cases h),fun i hi=>⟨qi,0,intC (winL part)[i],rfl,rfl,b4.2,⟨rfl,fun j hj=>?_⟩,rfl⟩⟩
  have hj0:j=0:=by omega
  subst hj0
  simp only[Nat.zero_add,Nat.mul_one,Nat.add_zero]
  rw[hQ.cell,List.getElem?_map,List.getElem?_eq_getElem hi]
  rfl
 refine(pattern_any (E.below hb) hS hts p (hC.below condF_firm hb) hp.var hp.con part hpart hK (M.map_ h1) hmt ahead (HT p.var) hFz hne3 hne hne2).mono ?_
 rintro e w' ⟨tn,a,nn,c,rfl,hbt,m,f',q1,q2⟩
 refine⟨tn,a,nn,c,rfl,hbt,m,f',q1,fun h0=>?_⟩
 obtain⟨r1,r2,r3,r4⟩:=q2 h0
 exact⟨r1,r2,r3,r4.back (fun b hb' =>⟨hF b hb',(hb.block b (hF b hb')).symm⟩)⟩
end
section
variable {P:Program} {dst:Option Tmp} {oty:TypeId} {pos:String} {after:Array Edge} {g:Option (Nat×Bool)} {l l' :List Value} {ds:List Deferred} {Q:Exit→Act→World→Prop} {K:Act→World→Prop} {w:World} {t j j' j2 z n:Nat}
theorem q_msett{k:TypeId}{v0 v:Value}{f:MapF}{x:ByteArray}[hm:Nth l j (.map (some z))][hx:Nth l j' (.string x)][hv:Nth l j2 v][hT:MapI P t k v0](ho:MapOf P k w z n f)(hn:n<maxLen)(hs:x.size≤maxLen)[hd:PutI l dst undef l']
  (h: ∀ w',MapOf P k w' z (n+1) (putF f x v)→But z w w' →K ⟨l'.toArray,ds⟩ w'):OWP P ⟨dst,.mapUpdate t (.tmp j) (.tmp j') (.tmp j2),oty,pos,after,g⟩ ⟨l.toArray,ds⟩ w K Q:=
 q_mset (eval_tmp hv.nth) ho hn hs h
end
set_option maxRecDepth 8000 in
set_option maxHeartbeats 4000000 in
theorem rule_name(hg:g<w0.heap.size)(hX:SlF F w0 2 typF ao n cap ts)(E:Env F w0)(hF: ∀ b,F b→b<w0.heap.size)(hts: ∀ t∈ts,TypGood t)(x:Rul)(row:List Value)(h:rulF F w0 row x)(hok:RulFit x)(h0:freeE x.name≠0):Calls Tryd.prog 16 #[.slice ao n cap,.agg row.toArray] w0 fun e w' =>e= .returned (.int .i64 (ruleE ts x))∧Below w0.heap.size w0 w' :=by
 have h' :=h
 obtain⟨a1,n1,c1,a2,n2,c2,a3,n3,c3,a4,n4,c4,a6,n6,c6,rfl,X1,X2,X3,X4,X6⟩:=h
 have M:=Mem.begin hg ⟨0,0⟩
 have HNM:Hid (∀ wx,Below w0.heap.size w0 wx→Calls Tryd.prog 34 #[.string x.name] wx fun e w' =>e= .returned (.int .i64 (freeE x.name))∧Below wx.heap.size wx w'):=fun wx hb=>cname_any x.name wx hok.name (E.below hb)
 have hle1:=X1.le
 have hle2:=X2.le
 have hle3:=X3.le
 have hle4:=X4.le
 have N1:=Lib.hid X1.len
 have N2:=Lib.hid X2.len
 have N3:=Lib.hid X3.len
 have N4:=Lib.hid X4.len
 have HV:Hid (ruleE ts x=freeE x.name):=by show _=_;unfold ruleE;rw[if_pos h0]
 rw[HV.out]
 have hqb:(freeE x.name !=0)=true:=by simpa using h0
 generalize freeE x.name=ev at HNM hqb
 unfold rulC
 clear X1 X2 X3 X4 X6 hX hts hok h' h0 HV hg E hF
 go_enter Tryd.func16,Tryd.ntmps16
 go_wp2_with (first|(with_reducible (first|(refine wB (L:=[]) M ?_;clear M;intro za w1 M)|refine wq M ?_))|(go_at_call 34;with_reducible refine(HNM.out _ M.new).mono ?_;rintro e w5 ⟨rfl,hb5⟩;replace M:=M.below hb5;clear hb5))
 go_ret
 exact⟨rfl,M.new⟩
set_option maxRecDepth 8000 in
set_option maxHeartbeats 4000000 in
theorem rule_size(hg:g<w0.heap.size)(hX:SlF F w0 2 typF ao n cap ts)(E:Env F w0)(hF: ∀ b,F b→b<w0.heap.size)(hts: ∀ t∈ts,TypGood t)(x:Rul)(row:List Value)(h:rulF F w0 row x)(hok:RulFit x)(h0:freeE x.name=0)(h1:sizeB x=true):Calls Tryd.prog 16 #[.slice ao n cap,.agg row.toArray] w0 fun e w' =>e= .returned (.int .i64 (ruleE ts x))∧Below w0.heap.size w0 w' :=by
 have h' :=h
 obtain⟨a1,n1,c1,a2,n2,c2,a3,n3,c3,a4,n4,c4,a6,n6,c6,rfl,X1,X2,X3,X4,X6⟩:=h
 have M:=Mem.begin hg ⟨0,0⟩
 have HNM:Hid (∀ wx,Below w0.heap.size w0 wx→Calls Tryd.prog 34 #[.string x.name] wx fun e w' =>e= .returned (.int .i64 (freeE x.name))∧Below wx.heap.size wx w'):=fun wx hb=>cname_any x.name wx hok.name (E.below hb)
 have hle1:=X1.le
 have hle2:=X2.le
 have hle3:=X3.le
 have hle4:=X4.le
 have N1:=Lib.hid X1.len
 have N2:=Lib.hid X2.len
 have N3:=Lib.hid X3.len
 have N4:=Lib.hid X4.len
 have HV:Hid (ruleE ts x=1):=by show _=_;unfold ruleE;rw[if_neg (by rw[h0];simp),if_pos h1]
 rw[HV.out]
 rw[h0]at HNM
 have hleaf:n1<1∨3<n1∨2<n2∨2<n3∨6<n4:=by
  have e1:=N1.out
  have e2:=N2.out
  have e3:=N3.out
  have e4:=N4.out
  unfold sizeB at h1
  simp only[Bool.or_eq_true,decide_eq_true_eq]at h1
  omega
 unfold rulC
 clear X1 X2 X3 X4 X6 hX hts hok h' h0 HV hg h1 E hF
 by_cases c1:n1<1
 ·have d1:decide ((n1:Int)<1)=true:=by simp;omega
  clear hleaf c1
  go_enter Tryd.func16,Tryd.ntmps16
  go_wp2_with (first|(with_reducible (first|(refine wB (L:=[]) M ?_;clear M;intro za w1 M)|refine wq M ?_))|(go_at_call 34;with_reducible refine(HNM.out _ M.new).mono ?_;rintro e w5 ⟨rfl,hb5⟩;replace M:=M.below hb5;clear hb5))
  go_ret
  exact⟨rfl,M.new⟩
 ·have d1:decide ((n1:Int)<1)=false:=by simp;omega
  by_cases c2:3<n1
  ·have d2:decide ((3:Int)<n1)=true:=by simp;omega
   clear hleaf c1
   go_enter Tryd.func16,Tryd.ntmps16
   go_wp2_with (first|(with_reducible (first|(refine wB (L:=[]) M ?_;clear M;intro za w1 M)|refine wq M ?_))|(go_at_call 34;with_reducible refine(HNM.out _ M.new).mono ?_;rintro e w5 ⟨rfl,hb5⟩;replace M:=M.below hb5;clear hb5))
   go_ret
   exact⟨rfl,M.new⟩
  ·have d2:decide ((3:Int)<n1)=false:=by simp;omega
   by_cases c3:2<n2
   ·have d3:decide ((2:Int)<n2)=true:=by simp;omega
    clear hleaf c1 c2
    go_enter Tryd.func16,Tryd.ntmps16
    go_wp2_with (first|(with_reducible (first|(refine wB (L:=[]) M ?_;clear M;intro za w1 M)|refine wq M ?_))|(go_at_call 34;with_reducible refine(HNM.out _ M.new).mono ?_;rintro e w5 ⟨rfl,hb5⟩;replace M:=M.below hb5;clear hb5))
    go_ret
    exact⟨rfl,M.new⟩
   ·have d3:decide ((2:Int)<n2)=false:=by simp;omega
    by_cases c4:2<n3
    ·have d4:decide ((2:Int)<n3)=true:=by simp;omega
     clear hleaf c1 c2 c3
     go_enter Tryd.func16,Tryd.ntmps16
     go_wp2_with (first|(with_reducible (first|(refine wB (L:=[]) M ?_;clear M;intro za w1 M)|refine wq M ?_))|(go_at_call 34;with_reducible refine(HNM.out _ M.new).mono ?_;rintro e w5 ⟨rfl,hb5⟩;replace M:=M.below hb5;clear hb5))
     go_ret
     exact⟨rfl,M.new⟩
    ·have d4:decide ((2:Int)<n3)=false:=by simp;omega
     have d5:decide ((6:Int)<n4)=true:=by simp;omega
     clear hleaf c1 c2 c3 c4
     go_enter Tryd.func16,Tryd.ntmps16
     go_wp2_with (first|(with_reducible (first|(refine wB (L:=[]) M ?_;clear M;intro za w1 M)|refine wq M ?_))|(go_at_call 34;with_reducible refine(HNM.out _ M.new).mono ?_;rintro e w5 ⟨rfl,hb5⟩;replace M:=M.below hb5;clear hb5))
     go_ret
     exact⟨rfl,M.new⟩
set_option maxRecDepth 8000 in
set_option maxHeartbeats 16000000 in
theorem rule_main(hg:g<w0.heap.size)(hX:SlF F w0 2 typF ao n cap ts)(E:Env F w0)(hF: ∀ b,F b→b<w0.heap.size)(hts: ∀ t∈ts,TypGood t)(x:Rul)(row:List Value)(h:rulF F w0 row x)(hok:RulFit x)(h0:freeE x.name=0)(h1:sizeB x=false):Calls Tryd.prog 16 #[.slice ao n cap,.agg row.toArray] w0 fun e w' =>e= .returned (.int .i64 (ruleE ts x))∧Below w0.heap.size w0 w' :=by
 have h' :=h
 obtain⟨a1,n1,c1,a2,n2,c2,a3,n3,c3,a4,n4,c4,a6,n6,c6,rfl,X1,X2,X3,X4,X6⟩:=h
 have M:=Mem.begin hg ⟨0,0⟩
 have HNM:Hid (∀ wx,Below w0.heap.size w0 wx→Calls Tryd.prog 34 #[.string x.name] wx fun e w' =>e= .returned (.int .i64 (freeE x.name))∧Below wx.heap.size wx w'):=fun wx hb=>cname_any x.name wx hok.name (E.below hb)
 have hle1:=X1.le
 have hle2:=X2.le
 have hle3:=X3.le
 have hle4:=X4.le
 have N1:=Lib.hid X1.len
 have N2:=Lib.hid X2.len
 have N3:=Lib.hid X3.len
 have N4:=Lib.hid X4.len
 have hs:(1≤n1∧n1≤3)∧n2≤2∧n3≤2∧n4≤6:=by
  have e1:=N1.out
  have e2:=N2.out
  have e3:=N3.out
  have e4:=N4.out
  unfold sizeB at h1
  simp only[Bool.or_eq_false_iff,decide_eq_false_iff_not]at h1
  omega
 have hp0:Hid (Pre0 x):=⟨h0,h1⟩
 rw[h0]at HNM
 obtain⟨⟨s1,s2⟩,s3,s4,s5⟩:=hs
 have d1:decide ((n1:Int)<1)=false:=by simp;omega
 have d2:decide ((3:Int)<n1)=false:=by simp;omega
 have d3:decide ((2:Int)<n2)=false:=by simp;omega
 have d4:decide ((2:Int)<n3)=false:=by simp;omega
 have d5:decide ((6:Int)<n4)=false:=by simp;omega
 unfold rulC
 replace hX:=Lib.hid hX
 replace h' :=Lib.hid h'
 replace X1:=Lib.hid X1
 replace X2:=Lib.hid X2
 replace X3:=Lib.hid X3
 replace X4:=Lib.hid X4
 replace X6:=Lib.hid X6
 replace hts:=Lib.hid hts
 replace hok:=Lib.hid hok
 replace hF:=Lib.hid hF
 replace E:=Lib.hid E
 replace hg:=Lib.hid hg
 clear h0 h1
 go_enter Tryd.func16,Tryd.ntmps16
 go_wp2_with (first|(with_reducible (first|(refine wB (L:=[]) M ?_;clear M;intro za w1 M)|(refine wB M ?_;clear M;intro zs w2 M)|(refine w_ (q_map (t:=94) M ?_);clear M;intro zk w M)|(refine w_ (q_map (t:=97) M ?_);clear M;intro zt w M)|refine wq M ?_))|(go_at_call 34;with_reducible refine(HNM.out _ M.new).mono ?_;rintro e w5 ⟨rfl,hb5⟩;replace M:=M.below hb5;clear hb5))
 go_loopg [66] n1 (fun f i wr=> ∃ (j mt mk:Nat) (ft fk:MapF),j+f=n1∧i= .int .i64 j∧Mem (StaysB g w0) g w0 wr ⟨0,0⟩ (mp Tryd.prog 9 zt mt ft::own zs [.slice ao n cap,.map (some zk)] 96::mp Tryd.prog 9 zk mk fk::own za [.string x.name,.slice a1 n1 c1,.slice a2 n2 c2,.slice a3 n3 c3,.slice a4 n4 c4,.string x.etype,.slice a6 n6 c6] 50::[])∧Hid (mt≤j∧mk≤j)∧Hid (TakF ft (vars (x.whens.take j)))∧Hid (KnownF F w0 fk ts (x.whens.take j))∧Hid (Stg ts x (Pre0 x) (whenE ts x) j 0))
 case atStart=>exact⟨0,0,0,noneF,noneF,by omega,rfl,M,⟨Nat.le_refl _,Nat.le_refl _⟩,takF_none,knownF_none _ _ _,⟨fun h=>absurd rfl h,fun _=>⟨hp0.out,allZ_zero _⟩⟩⟩
 case round=>
  clear M
  obtain⟨j,mt,mk,ft,fk,hj,rfl,M,HB,HT,HK,HS⟩:=hrel
  by_cases hlt:j<n1
  ·have hkl:j<x.whens.length:=by have:=N1.out;omega
   have HS2:=Lib.hid (stg_when HS.out rfl hkl)
   obtain⟨hp,hz⟩:=HS.out.2 rfl
   have hth:=Lib.hid (whens_there (by omega) hz)
   obtain⟨cp,op,rowp,hixp, -,hrrp,hwp⟩:=SlF.rowAt (P:=Tryd.prog) X1.out patF_firm Tryd.underlying43 size_pat (i:=j) hkl
   obtain⟨p1,q1,s1',ep,u1⟩:=patF.open18 hrrp
   subst ep
   have HR:=Lib.hid (fun wx hb=>(hwp wx hb).1)
   have hpo:=Lib.hid (hok.out.whens _ (List.getElem_mem hkl))
   have hC:=Lib.hid u1
   have hq:Hid (whenE ts x j=patE ts (x.whens.take j) (vars (x.whens.take j)) x.whens[j] 0):=by show _=_;unfold whenE;rw[List.getD_eq_getElem?_getD,List.getElem?_eq_getElem hkl];rfl
   have hmt:Hid (mt<maxLen):=by have:=HB.out.1;show _<_;unfold maxLen;omega
   have hmk:Hid (mk<maxLen):=by have:=HB.out.2;show _<_;unfold maxLen;omega
   have hpv:Hid (x.whens[j].var.size≤maxLen):=hpo.out.var
   have HTK:Hid (vars (x.whens.take j)++[x.whens[j].var]=vars (x.whens.take (j+1))):=take_vars hkl
   have HKK:Hid (x.whens.take j++[x.whens[j]]=x.whens.take (j+1)):=by show _=_;rw[List.take_add_one,List.getElem?_eq_getElem hkl];rfl
   clear hwp hrrp u1 hz hp
   generalize x.whens[j]=p at HR hpo hC hq hpv HTK HKK
   clear hkl
   generalize whenE ts x j=q at HS2 hq
   unfold pat18 at HR
   by_cases hq0:q=0
   ·subst hq0
    have hnf:=Lib.hid (pat_fresh hq.out.symm)
    go_wp2_with (first|(with_reducible (first|(refine wV M ?_;clear M;intro zp w M)|(refine w_ (q_three M ?_);clear M;intro qi w M)|refine wq M ?_|(refine wS M ?_;clear M;intro w M)|refine wA (HR.out _ M.new) ?_))|(go_at_call 35;with_reducible refine(ptn_call M hX.out E.out hF.out hts.out 2 3 4 0 rfl rfl rfl HK.out hth.out HT.out hC.out hpo.out 0 (by omega) rfl (by with_unfolding_all rfl) (by with_unfolding_all rfl) _ (by with_unfolding_all rfl) hq.out hmt.out (by decide)).mono ?_;rintro e w5 hh;unfold PtnIs at hh;obtain⟨tn,tya,tyn,tyc,he,hbt,m',f',ho',hpp⟩:=hh;subst he;obtain⟨rfl,rfl,rfl,hsl⟩:=hpp rfl;have HSL:=Lib.hid hsl;clear hsl hpp;replace M:=M.remap (i:=2) rfl hbt ho';clear hbt ho';(simp only[List.set_cons_zero,List.set_cons_succ]at M)))
    (refine wp_region_any (by kernel_rfl) ?_;(try(change wpAny _ _ _ _ _ _ _ (World.drew _)));replace M:=M.drew;generalize World.drew _=w at M ⊢;have S:=St.o;((refine tk 0 (v:=?_) rfl (by kernel_rfl) rfl ?_ ?_;rotate_left;focus(intro w;go_simp;try with_reducible rfl));(try go_simp);(refine tk 1 (v:=?_) rfl (by kernel_rfl) rfl ?_ ?_;rotate_left;focus(intro w;go_simp;try with_reducible rfl));(try go_simp);(refine tk 2 (v:=?_) rfl (by kernel_rfl) rfl ?_ ?_;rotate_left;focus(intro w;go_simp;try with_reducible rfl));(try go_simp);(refine tk 4 (v:=?_) rfl (by kernel_rfl) rfl ?_ ?_;rotate_left;focus(intro w;go_simp;try with_reducible rfl));(try go_simp);replace S:=S.add 23;refine rd3 3 5 6 (by kernel_rfl) rfl rfl ?_ rfl rfl ?_ rfl rfl ?_<;>intro K hK);all_goals(first|(refine o_dst (some 84) ?_;(refine q_get M (by exact rfl) ?_);(all_goals(refine hK _ _ ?_;clear hK K;replace S:=S.add 8)))|(refine o_dst (some 86) ?_;(refine q_get M (by exact rfl) ?_);(all_goals(refine hK _ _ ?_;clear hK K;replace S:=S.add 32)))|(refine o_dst (some 87) ?_;(refine q_all M (by rfl) ?_);(all_goals(refine hK _ _ ?_;clear hK K;replace S:=S.add 64))));all_goals(first|(replace S:St 31:=S;refine rd2 5 6 (by kernel_rfl) rfl rfl ?_ rfl rfl ?_<;>intro K hK)|(replace S:St 55:=S;refine rd2 3 6 (by kernel_rfl) rfl rfl ?_ rfl rfl ?_<;>intro K hK)|(replace S:St 87:=S;refine rd2 3 5 (by kernel_rfl) rfl rfl ?_ rfl rfl ?_<;>intro K hK));all_goals(first|(refine o_dst (some 86) ?_;(refine q_get M (by exact rfl) ?_);(all_goals(refine hK _ _ ?_;clear hK K;replace S:=S.add 32)))|(refine o_dst (some 87) ?_;(refine q_all M (by rfl) ?_);(all_goals(refine hK _ _ ?_;clear hK K;replace S:=S.add 64)))|(refine o_dst (some 84) ?_;(refine q_get M (by exact rfl) ?_);(all_goals(refine hK _ _ ?_;clear hK K;replace S:=S.add 8))));all_goals(first|(replace S:St 63:=S;refine rd1 6 (by kernel_rfl) rfl rfl ?_<;>intro K hK)|(replace S:St 95:=S;refine rd1 5 (by kernel_rfl) rfl rfl ?_<;>intro K hK)|(replace S:St 119:=S;refine rd1 3 (by kernel_rfl) rfl rfl ?_<;>intro K hK));all_goals(first|(refine o_dst (some 87) ?_;(refine q_all M (by rfl) ?_);(all_goals(refine hK _ _ ?_;clear hK K;replace S:=S.add 64)))|(refine o_dst (some 86) ?_;(refine q_get M (by exact rfl) ?_);(all_goals(refine hK _ _ ?_;clear hK K;replace S:=S.add 32)))|(refine o_dst (some 84) ?_;(refine q_get M (by exact rfl) ?_);(all_goals(refine hK _ _ ?_;clear hK K;replace S:=S.add 8))));all_goals(refine rd1 7 (by kernel_rfl) rfl rfl ?_<;>intro K hK);all_goals(refine o_dst none ?_;(refine q_msett (M.map_ (i:=5) rfl) hmk.out hpv.out ?_;intro wu hou hbu;replace M:=M.remap (i:=5) rfl hbu hou;clear hou hbu;(simp only[List.set_cons_zero,List.set_cons_succ]at M));(all_goals(refine hK _ _ ?_;clear hK K;replace S:=S.add 128)));all_goals(clear S;(refine wpAny_done (by kernel_rfl) ?_ _)))
    all_goals(go_wp2_with (with_reducible (first|refine wq M ?_|(refine wS M ?_;clear M;intro w M)|(refine wV M ?_;clear M;intro z w M)|(refine wR M ?_;clear M;intro q w M))))
    all_goals
     go_roundg (n1 - (j+1))
     case measure=>omega
     case rel=>exact⟨j+1,mt+1,mk+1,_,_,by omega,by go_num,M.drop.drop.drop,⟨Nat.succ_le_succ HB.out.1,Nat.succ_le_succ HB.out.2⟩,by(have h:=HT.out.snoc p.var;rw[HTK.out]at h;exact h),by(have h:=HK.out.snoc p hnf.out (cs:=[.string (typAt ts p.type).name,.slice tya tyn tyc]) ⟨_,_,_,rfl,HSL.out⟩;rw[HKK.out]at h;exact h),HS2⟩
   ·have hqb:(q !=0)=true:=by simpa using hq0
    have HV:Hid (ruleE ts x=q):=HS2.out.1 hq0
    replace hq0:=Lib.hid hq0
    go_wp2_with (first|(with_reducible (first|(refine wV M ?_;clear M;intro zp w M)|(refine w_ (q_three M ?_);clear M;intro qi w M)|refine wq M ?_|(refine wS M ?_;clear M;intro w M)|refine wA (HR.out _ M.new) ?_))|(go_at_call 35;with_reducible refine(ptn_call M hX.out E.out hF.out hts.out 2 3 4 0 rfl rfl rfl HK.out hth.out HT.out hC.out hpo.out 0 (by omega) rfl (by with_unfolding_all rfl) (by with_unfolding_all rfl) _ (by with_unfolding_all rfl) hq.out hmt.out (by decide)).mono ?_;rintro e w5 hh;unfold PtnIs at hh;obtain⟨tn,tya,tyn,tyc,he,hbt,m',f',ho',hpp⟩:=hh;subst he;clear hpp;replace M:=M.remap (i:=2) rfl hbt ho';clear hbt ho';(simp only[List.set_cons_zero,List.set_cons_succ]at M)))
    go_ret
    rw[HV.out]
    exact⟨rfl,M.new⟩
  ·have hjn:j=n1:=by omega
   have HT2:Hid (TakF ft (vars x.whens++vars (x.nots.take 0))):=by have h:=HT.out;rw[hjn,N1.out,List.take_length]at h;show TakF _ _;simpa[vars]using h
   have HK2:Hid (KnownF F w0 fk ts x.whens):=by have h:=HK.out;rw[hjn,N1.out,List.take_length]at h;exact h
   have HS2:Hid (Stg ts x (Pre1 ts x) (notE ts x) 0 0):=stg_next HS.out (fun _ hp hz=>⟨hp,by rw[←N1.out,←hjn];exact hz⟩)
   have hth:Hid (∀ p∈x.whens,typI ts p.type<ts.length):=by have h:=whens_there (Nat.le_refl _) (HS2.out.2 rfl).1.2;rw[List.take_length]at h;exact h
   have hmt3:Hid (mt≤3+0):=by have:=HB.out.1;show _≤_;omega
   clear HT HK HS HB hp0
   go_wp2_with (with_reducible refine wq M ?_)
   go_loopg [92] n2 (fun f i wr=> ∃ (j mt:Nat) (ft:MapF),j+f=n2∧i= .int .i64 j∧Mem (StaysB g w0) g w0 wr ⟨0,0⟩ (mp Tryd.prog 9 zt mt ft::own zs [.slice ao n cap,.map (some zk)] 96::mp Tryd.prog 9 zk mk fk::own za [.string x.name,.slice a1 n1 c1,.slice a2 n2 c2,.slice a3 n3 c3,.slice a4 n4 c4,.string x.etype,.slice a6 n6 c6] 50::[])∧Hid (mt≤3+j)∧Hid (TakF ft (vars x.whens++vars (x.nots.take j)))∧Hid (Stg ts x (Pre1 ts x) (notE ts x) j 0))
   case atStart=>exact⟨0,mt,ft,by omega,rfl,M,hmt3,HT2,HS2⟩
   case round=>
    clear M HT2 HS2 hmt3 hjn
    clear hlt hj
    obtain⟨j2,mt2,ft2,hj,rfl,M,HB,HT,HS⟩:=hrel
    by_cases hlt:j2<n2
    ·have hkl:j2<x.nots.length:=by have:=N2.out;omega
     have HS2:=Lib.hid (stg_not HS.out rfl hkl)
     obtain⟨cp,op,rowp,hixp, -,hrrp,hwp⟩:=SlF.rowAt (P:=Tryd.prog) X2.out patF_firm Tryd.underlying43 size_pat (i:=j2) hkl
     obtain⟨p1,q1,s1',ep,u1⟩:=patF.open18 hrrp
     subst ep
     have HR:=Lib.hid (fun wx hb=>(hwp wx hb).1)
     have hpo:=Lib.hid (hok.out.nots _ (List.getElem_mem hkl))
     have hC:=Lib.hid u1
     have hq:Hid (notE ts x j2=patE ts x.whens (vars x.whens++vars (x.nots.take j2)) x.nots[j2] 1):=by show _=_;unfold notE;rw[List.getD_eq_getElem?_getD,List.getElem?_eq_getElem hkl];rfl
     have hmt:Hid (mt2<maxLen):=by have:=HB.out;show _<_;unfold maxLen;omega
     have HTK:Hid ((vars x.whens++vars (x.nots.take j2))++[x.nots[j2].var]=vars x.whens++vars (x.nots.take (j2+1))):=by show _=_;rw[List.append_assoc,take_vars hkl]
     have HK:=HK2
     clear hwp hrrp u1
     generalize x.nots[j2]=p at HR hpo hC hq HTK
     clear hkl
     generalize notE ts x j2=q at HS2 hq
     unfold pat18 at HR
     by_cases hq0:q=0
     ·subst hq0
      go_wp2_with (first|(with_reducible (first|(refine wV M ?_;clear M;intro zp w M)|(refine w_ (q_one M ?_);clear M;intro qi w M)|refine wq M ?_|(refine wS M ?_;clear M;intro w M)|refine wA (HR.out _ M.new) ?_))|(go_at_call 35;with_reducible refine(ptn_call M hX.out E.out hF.out hts.out 2 3 4 0 rfl rfl rfl HK.out hth.out HT.out hC.out hpo.out 1 (by omega) rfl (by with_unfolding_all rfl) (by with_unfolding_all rfl) _ (by with_unfolding_all rfl) hq.out hmt.out (by decide)).mono ?_;rintro e w5 hh;unfold PtnIs at hh;obtain⟨tn,tya,tyn,tyc,he,hbt,m',f',ho',hpp⟩:=hh;subst he;obtain⟨rfl,rfl,rfl,hsl⟩:=hpp rfl;have HSL:=Lib.hid hsl;clear hsl hpp;replace M:=M.remap (i:=2) rfl hbt ho';clear hbt ho';(simp only[List.set_cons_zero,List.set_cons_succ]at M)))
      go_roundg (n2 - (j2+1))
      case measure=>omega
      case rel=>exact⟨j2+1,mt2+1,_,by omega,by go_num,M.drop.drop.drop,Nat.succ_le_succ HB.out,by(have h:=HT.out.snoc p.var;rw[HTK.out]at h;exact h),HS2⟩
     ·have hqb:(q !=0)=true:=by simpa using hq0
      have HV:Hid (ruleE ts x=q):=HS2.out.1 hq0
      replace hq0:=Lib.hid hq0
      go_wp2_with (first|(with_reducible (first|(refine wV M ?_;clear M;intro zp w M)|(refine w_ (q_one M ?_);clear M;intro qi w M)|refine wq M ?_|(refine wS M ?_;clear M;intro w M)|refine wA (HR.out _ M.new) ?_))|(go_at_call 35;with_reducible refine(ptn_call M hX.out E.out hF.out hts.out 2 3 4 0 rfl rfl rfl HK.out hth.out HT.out hC.out hpo.out 1 (by omega) rfl (by with_unfolding_all rfl) (by with_unfolding_all rfl) _ (by with_unfolding_all rfl) hq.out hmt.out (by decide)).mono ?_;rintro e w5 hh;unfold PtnIs at hh;obtain⟨tn,tya,tyn,tyc,he,hbt,m',f',ho',hpp⟩:=hh;subst he;clear hpp;replace M:=M.remap (i:=2) rfl hbt ho';clear hbt ho';(simp only[List.set_cons_zero,List.set_cons_succ]at M)))
      go_ret
      rw[HV.out]
      exact⟨rfl,M.new⟩
    ·have hjn:j2=n2:=by omega
     have HT2:Hid (TakF ft2 (vars x.whens++vars x.nots++vars ((x.manies.take 0).map Many.pat))):=by have h:=HT.out;rw[hjn,N2.out,List.take_length]at h;show TakF _ _;simpa[vars]using h
     have HS2:Hid (Stg ts x (Pre2 ts x) (manyE ts x) 0 0):=stg_next HS.out (fun _ hp hz=>⟨hp,by rw[←N2.out,←hjn];exact hz⟩)
     have hmt5:Hid (mt2≤5+0):=by have:=HB.out;show _≤_;omega
     have hap:Hid (Apart x):=apart_of (HS2.out.2 rfl).1.2
     clear HT HS HB
     go_wp2_with (with_reducible refine wq M ?_)
     go_loopg [111] n3 (fun f i wr=> ∃ (j mt:Nat) (ft:MapF),j+f=n3∧i= .int .i64 j∧Mem (StaysB g w0) g w0 wr ⟨0,0⟩ (mp Tryd.prog 9 zt mt ft::own zs [.slice ao n cap,.map (some zk)] 96::mp Tryd.prog 9 zk mk fk::own za [.string x.name,.slice a1 n1 c1,.slice a2 n2 c2,.slice a3 n3 c3,.slice a4 n4 c4,.string x.etype,.slice a6 n6 c6] 50::[])∧Hid (mt≤5+j)∧Hid (TakF ft (vars x.whens++vars x.nots++vars ((x.manies.take j).map Many.pat)))∧Hid (Stg ts x (Pre2 ts x) (manyE ts x) j 0))
     case atStart=>exact⟨0,mt2,ft2,by omega,rfl,M,hmt5,HT2,HS2⟩
     case round=>
      clear M HT2 HS2 hmt5 hjn
      clear hlt hj
      obtain⟨j3,mt3,ft3,hj,rfl,M,HB,HT,HS⟩:=hrel
      by_cases hlt:j3<n3
      ·have hkl:j3<x.manies.length:=by have:=N3.out;omega
       have HS2:=Lib.hid (stg_many HS.out rfl hkl)
       obtain⟨cp,op,rowp,hixp, -,hrrp,hwp⟩:=SlF.rowAt (P:=Tryd.prog) X3.out manF_firm Tryd.underlying44 size_man (i:=j3) hkl
       obtain⟨p1,q1,s1',ep,u1⟩:=manF.open20 hrrp
       subst ep
       have HR:=Lib.hid (fun wx hb=>(hwp wx hb).1)
       have hpo:=Lib.hid (hok.out.manies _ (List.getElem_mem hkl))
       have hC:=Lib.hid u1
       have hge:x.manies.getD j3 man0=x.manies[j3]:=by rw[List.getD_eq_getElem?_getD,List.getElem?_eq_getElem hkl];rfl
       have HE:Hid (manyE ts x j3=manyP ts x (vars x.whens++vars x.nots++vars ((x.manies.take j3).map Many.pat)) x.manies[j3]):=by show _=_;unfold manyE;rw[hge];rfl
       have hmt:Hid (mt3<maxLen):=by have:=HB.out;show _<_;unfold maxLen;omega
       have HTK:Hid ((vars x.whens++vars x.nots++vars ((x.manies.take j3).map Many.pat))++[x.manies[j3].pat.var]=vars x.whens++vars x.nots++vars ((x.manies.take (j3+1)).map Many.pat)):=by
        show _=_
        rw[List.append_assoc]
        congr 1
        rw[List.map_take,List.map_take,←take_vars (l:=x.manies.map Many.pat) (by simpa using hkl)]
        simp
       have HK:=HK2
       have hC2:Hid (SlF F w0 14 CondF p1 q1 s1' x.manies[j3].pat.wher.subs):=hC
       clear hwp hrrp u1 hge
       generalize x.manies[j3]=m at HR hpo hC hC2 HTK HE
       clear hkl
       rw[HE.out]at HS2
       unfold man20 pat18 at HR
       unfold manyP at HS2
       have hq:Hid (patE ts x.whens (vars x.whens++vars x.nots++vars ((x.manies.take j3).map Many.pat)) m.pat 2=patE ts x.whens (vars x.whens++vars x.nots++vars ((x.manies.take j3).map Many.pat)) m.pat 2):=rfl
       have HSU:Hid (typI ts m.pat.type<ts.length→ ∀ a nn c,SlF F w0 2 (plainF fldC) a nn c (typAt ts m.pat.type).fields→ ∀ wx,Below w0.heap.size w0 wx→Calls Tryd.prog 36 #[.agg #[.string (typAt ts m.pat.type).name,.slice a nn c],.string m.field] wx fun e w' =>e= .returned (.int .i64 (sumE (typAt ts m.pat.type) m.field))∧Below wx.heap.size wx w'):=fun ht a nn c hsl wx hb=>by
        have htt:typAt ts m.pat.type=ts[typI ts m.pat.type]:=by unfold typAt;rw[List.getD_eq_getElem?_getD,List.getElem?_eq_getElem ht];rfl
        exact summed_any (Nat.lt_of_lt_of_le hg.out hb.size) (typAt ts m.pat.type) (hsl.below (plainF_firm _) hb) (by rw[htt];exact hts.out _ (List.getElem_mem ht)) m.field
       have HTH:Hid (∀ q,q=patE ts x.whens (vars x.whens++vars x.nots++vars ((x.manies.take j3).map Many.pat)) m.pat 2→q=0→typI ts m.pat.type<ts.length):=fun q h1 h2=>pat_there (h1.symm.trans h2)
       generalize hqd:patE ts x.whens (vars x.whens++vars x.nots++vars ((x.manies.take j3).map Many.pat)) m.pat 2=qe at HS2
       replace hq:Hid (qe=patE ts x.whens (vars x.whens++vars x.nots++vars ((x.manies.take j3).map Many.pat)) m.pat 2):=hqd.symm
       clear hqd
       generalize sumE (typAt ts m.pat.type) m.field=se at HS2 HSU
       cases hem:emS m.field with
       |true=>
        have hf:m.field.toList=[]:=by simpa[emS]using hem
        by_cases hc:1≤m.count∧m.count≤120
        ·have e1:decide (m.count<1)=false:=by simp;omega
         have e2:decide (120<m.count)=false:=by simp;omega
         have e3:decide (m.count<0)=false:=by simp;omega
         have e4:decide (1125899906842624<m.count)=false:=by simp;omega
         rw[if_neg (by simp only[hem,true_and];omega)]at HS2
         clear hem hc
         by_cases hq0:qe=0
         ·subst hq0
          have HSU2:=Lib.hid (HSU.out (HTH.out _ hq.out rfl))
          rw[if_neg (by simp)]at HS2
          by_cases hs0:se=0
          ·subst hs0
           go_wp2_with (first|(with_reducible (first|(refine wV M ?_;clear M;intro zm w M)|(refine w_ (q_one M ?_);clear M;intro qi w M)|refine wq M ?_|(refine wS M ?_;clear M;intro w M)|refine wA (HR.out _ M.new) ?_))|(go_at_call 35;with_reducible refine(ptn_call M hX.out E.out hF.out hts.out 2 3 4 0 rfl rfl rfl HK.out hth.out HT.out hC.out hpo.out 2 (by omega) rfl (by with_unfolding_all rfl) (by with_unfolding_all rfl) _ (by with_unfolding_all rfl) hq.out hmt.out (by decide)).mono ?_;rintro e w5 hh;unfold PtnIs at hh;obtain⟨tn,tya,tyn,tyc,he,hbt,m',f',ho',hpp⟩:=hh;subst he;obtain⟨rfl,rfl,rfl,hsl⟩:=hpp rfl;have HSL:=Lib.hid hsl;clear hsl hpp;replace M:=M.remap (i:=2) rfl hbt ho';clear hbt ho';(simp only[List.set_cons_zero,List.set_cons_succ]at M))|(go_at_call 36;with_reducible refine(HSU2.out _ _ _ HSL.out _ M.new).mono ?_;rintro e w5 ⟨rfl,hb5⟩;replace M:=M.below hb5;clear hb5))
           go_roundg (n3 - (j3+1))
           case measure=>omega
           case rel=>exact⟨j3+1,mt3+1,_,by omega,by go_num,M.drop.drop.drop,Nat.succ_le_succ HB.out,by(have h:=HT.out.snoc m.pat.var;rw[HTK.out]at h;exact h),HS2⟩
          ·have hqb:(se !=0)=true:=by simpa using hs0
           have HV:Hid (ruleE ts x=se):=HS2.out.1 hs0
           replace hs0:=Lib.hid hs0
           go_wp2_with (first|(with_reducible (first|(refine wV M ?_;clear M;intro zm w M)|(refine w_ (q_one M ?_);clear M;intro qi w M)|refine wq M ?_|(refine wS M ?_;clear M;intro w M)|refine wA (HR.out _ M.new) ?_))|(go_at_call 35;with_reducible refine(ptn_call M hX.out E.out hF.out hts.out 2 3 4 0 rfl rfl rfl HK.out hth.out HT.out hC.out hpo.out 2 (by omega) rfl (by with_unfolding_all rfl) (by with_unfolding_all rfl) _ (by with_unfolding_all rfl) hq.out hmt.out (by decide)).mono ?_;rintro e w5 hh;unfold PtnIs at hh;obtain⟨tn,tya,tyn,tyc,he,hbt,m',f',ho',hpp⟩:=hh;subst he;obtain⟨rfl,rfl,rfl,hsl⟩:=hpp rfl;have HSL:=Lib.hid hsl;clear hsl hpp;replace M:=M.remap (i:=2) rfl hbt ho';clear hbt ho';(simp only[List.set_cons_zero,List.set_cons_succ]at M))|(go_at_call 36;with_reducible refine(HSU2.out _ _ _ HSL.out _ M.new).mono ?_;rintro e w5 ⟨rfl,hb5⟩;replace M:=M.below hb5;clear hb5))
           go_ret
           rw[HV.out]
           exact⟨rfl,M.new⟩
         ·have hqb:(qe !=0)=true:=by simpa using hq0
          rw[if_pos hq0]at HS2
          have HV:Hid (ruleE ts x=qe):=HS2.out.1 hq0
          replace hq0:=Lib.hid hq0
          go_wp2_with (first|(with_reducible (first|(refine wV M ?_;clear M;intro zm w M)|(refine w_ (q_one M ?_);clear M;intro qi w M)|refine wq M ?_|(refine wS M ?_;clear M;intro w M)|refine wA (HR.out _ M.new) ?_))|(go_at_call 35;with_reducible refine(ptn_call M hX.out E.out hF.out hts.out 2 3 4 0 rfl rfl rfl HK.out hth.out HT.out hC.out hpo.out 2 (by omega) rfl (by with_unfolding_all rfl) (by with_unfolding_all rfl) _ (by with_unfolding_all rfl) hq.out hmt.out (by decide)).mono ?_;rintro e w5 hh;unfold PtnIs at hh;obtain⟨tn,tya,tyn,tyc,he,hbt,m',f',ho',hpp⟩:=hh;subst he;clear hpp;replace M:=M.remap (i:=2) rfl hbt ho';clear hbt ho';(simp only[List.set_cons_zero,List.set_cons_succ]at M)))
          go_ret
          rw[HV.out]
          exact⟨rfl,M.new⟩
        ·rw[if_pos (Or.inl ⟨hem,hc⟩)]at HS2
         have HV:Hid (ruleE ts x=2):=HS2.out.1 (by decide)
         by_cases h1:m.count<1
         ·have e1:decide (m.count<1)=true:=by simpa using h1
          clear hem hc h1
          go_wp2_with (with_reducible (first|(refine wV M ?_;clear M;intro zm w M)|refine wq M ?_|(refine wS M ?_;clear M;intro w M)|refine wA (HR.out _ M.new) ?_))
          go_ret
          rw[HV.out]
          exact⟨rfl,M.new⟩
         ·have e1:decide (m.count<1)=false:=by simpa using h1
          have e2:decide (120<m.count)=true:=by simp;omega
          clear hem hc h1
          go_wp2_with (with_reducible (first|(refine wV M ?_;clear M;intro zm w M)|refine wq M ?_|(refine wS M ?_;clear M;intro w M)|refine wA (HR.out _ M.new) ?_))
          go_ret
          rw[HV.out]
          exact⟨rfl,M.new⟩
       |false=>
        have hf:m.field.toList.isEmpty=false:=hem
        by_cases hc:0≤m.count∧m.count≤1125899906842624
        ·have e3:decide (m.count<0)=false:=by simp;omega
         have e4:decide (1125899906842624<m.count)=false:=by simp;omega
         rw[if_neg (by simp only[hem];simp;omega)]at HS2
         clear hem hc
         by_cases hq0:qe=0
         ·subst hq0
          have HSU2:=Lib.hid (HSU.out (HTH.out _ hq.out rfl))
          rw[if_neg (by simp)]at HS2
          by_cases hs0:se=0
          ·subst hs0
           go_wp2_with (first|(with_reducible (first|(refine wV M ?_;clear M;intro zm w M)|(refine w_ (q_one M ?_);clear M;intro qi w M)|refine wq M ?_|(refine wS M ?_;clear M;intro w M)|refine wA (HR.out _ M.new) ?_))|(go_at_call 35;with_reducible refine(ptn_call M hX.out E.out hF.out hts.out 2 3 4 0 rfl rfl rfl HK.out hth.out HT.out hC.out hpo.out 2 (by omega) rfl (by with_unfolding_all rfl) (by with_unfolding_all rfl) _ (by with_unfolding_all rfl) hq.out hmt.out (by decide)).mono ?_;rintro e w5 hh;unfold PtnIs at hh;obtain⟨tn,tya,tyn,tyc,he,hbt,m',f',ho',hpp⟩:=hh;subst he;obtain⟨rfl,rfl,rfl,hsl⟩:=hpp rfl;have HSL:=Lib.hid hsl;clear hsl hpp;replace M:=M.remap (i:=2) rfl hbt ho';clear hbt ho';(simp only[List.set_cons_zero,List.set_cons_succ]at M))|(go_at_call 36;with_reducible refine(HSU2.out _ _ _ HSL.out _ M.new).mono ?_;rintro e w5 ⟨rfl,hb5⟩;replace M:=M.below hb5;clear hb5))
           go_roundg (n3 - (j3+1))
           case measure=>omega
           case rel=>exact⟨j3+1,mt3+1,_,by omega,by go_num,M.drop.drop.drop,Nat.succ_le_succ HB.out,by(have h:=HT.out.snoc m.pat.var;rw[HTK.out]at h;exact h),HS2⟩
          ·have hqb:(se !=0)=true:=by simpa using hs0
           have HV:Hid (ruleE ts x=se):=HS2.out.1 hs0
           replace hs0:=Lib.hid hs0
           go_wp2_with (first|(with_reducible (first|(refine wV M ?_;clear M;intro zm w M)|(refine w_ (q_one M ?_);clear M;intro qi w M)|refine wq M ?_|(refine wS M ?_;clear M;intro w M)|refine wA (HR.out _ M.new) ?_))|(go_at_call 35;with_reducible refine(ptn_call M hX.out E.out hF.out hts.out 2 3 4 0 rfl rfl rfl HK.out hth.out HT.out hC.out hpo.out 2 (by omega) rfl (by with_unfolding_all rfl) (by with_unfolding_all rfl) _ (by with_unfolding_all rfl) hq.out hmt.out (by decide)).mono ?_;rintro e w5 hh;unfold PtnIs at hh;obtain⟨tn,tya,tyn,tyc,he,hbt,m',f',ho',hpp⟩:=hh;subst he;obtain⟨rfl,rfl,rfl,hsl⟩:=hpp rfl;have HSL:=Lib.hid hsl;clear hsl hpp;replace M:=M.remap (i:=2) rfl hbt ho';clear hbt ho';(simp only[List.set_cons_zero,List.set_cons_succ]at M))|(go_at_call 36;with_reducible refine(HSU2.out _ _ _ HSL.out _ M.new).mono ?_;rintro e w5 ⟨rfl,hb5⟩;replace M:=M.below hb5;clear hb5))
           go_ret
           rw[HV.out]
           exact⟨rfl,M.new⟩
         ·have hqb:(qe !=0)=true:=by simpa using hq0
          rw[if_pos hq0]at HS2
          have HV:Hid (ruleE ts x=qe):=HS2.out.1 hq0
          replace hq0:=Lib.hid hq0
          go_wp2_with (first|(with_reducible (first|(refine wV M ?_;clear M;intro zm w M)|(refine w_ (q_one M ?_);clear M;intro qi w M)|refine wq M ?_|(refine wS M ?_;clear M;intro w M)|refine wA (HR.out _ M.new) ?_))|(go_at_call 35;with_reducible refine(ptn_call M hX.out E.out hF.out hts.out 2 3 4 0 rfl rfl rfl HK.out hth.out HT.out hC.out hpo.out 2 (by omega) rfl (by with_unfolding_all rfl) (by with_unfolding_all rfl) _ (by with_unfolding_all rfl) hq.out hmt.out (by decide)).mono ?_;rintro e w5 hh;unfold PtnIs at hh;obtain⟨tn,tya,tyn,tyc,he,hbt,m',f',ho',hpp⟩:=hh;subst he;clear hpp;replace M:=M.remap (i:=2) rfl hbt ho';clear hbt ho';(simp only[List.set_cons_zero,List.set_cons_succ]at M)))
          go_ret
          rw[HV.out]
          exact⟨rfl,M.new⟩
        ·rw[if_pos (Or.inr hc)]at HS2
         have HV:Hid (ruleE ts x=2):=HS2.out.1 (by decide)
         by_cases h1:m.count<0
         ·have e1:decide (m.count<0)=true:=by simpa using h1
          clear hem hc h1
          go_wp2_with (with_reducible (first|(refine wV M ?_;clear M;intro zm w M)|refine wq M ?_|(refine wS M ?_;clear M;intro w M)|refine wA (HR.out _ M.new) ?_))
          go_ret
          rw[HV.out]
          exact⟨rfl,M.new⟩
         ·have e1:decide (m.count<0)=false:=by simpa using h1
          have e2:decide (1125899906842624<m.count)=true:=by simp;omega
          clear hem hc h1
          go_wp2_with (with_reducible (first|(refine wV M ?_;clear M;intro zm w M)|refine wq M ?_|(refine wS M ?_;clear M;intro w M)|refine wA (HR.out _ M.new) ?_))
          go_ret
          rw[HV.out]
          exact⟨rfl,M.new⟩
      ·have hjn:j3=n3:=by omega
       have HS2:Hid (Stg ts x (Pre3 ts x) (lnkE x) 0 0):=stg_next HS.out (fun _ hp hz=>⟨hp,by rw[←N3.out,←hjn];exact hz⟩)
       clear HT HS HB
       go_wp2_with (with_reducible refine wq M ?_)
       go_loopg [161] n4 (fun f i wr=> ∃ (j:Nat),j+f=n4∧i= .int .i64 j∧Mem (StaysB g w0) g w0 wr ⟨0,0⟩ (mp Tryd.prog 9 zt mt3 ft3::own zs [.slice ao n cap,.map (some zk)] 96::mp Tryd.prog 9 zk mk fk::own za [.string x.name,.slice a1 n1 c1,.slice a2 n2 c2,.slice a3 n3 c3,.slice a4 n4 c4,.string x.etype,.slice a6 n6 c6] 50::[])∧Hid (Stg ts x (Pre3 ts x) (lnkE x) j 0))
       case atStart=>exact⟨0,by omega,rfl,M,HS2⟩
       case round=>
        clear M HS2 hjn
        clear hlt hj
        obtain⟨j4,hj,rfl,M,HS⟩:=hrel
        by_cases hlt:j4<n4
        ·have hkl:j4<x.links.length:=by have:=N4.out;omega
         have HS2:=Lib.hid (stg_link HS.out rfl hkl)
         obtain⟨cp,op,rowp,hixp, -,hrrp,hwp⟩:=SlF.rowAt (P:=Tryd.prog) X4.out lnkF_firm Tryd.underlying45 size_lnk (i:=j4) hkl
         obtain⟨p1,q1,s1',ep,u1⟩:=hrrp
         subst ep
         have HR:=Lib.hid (fun wx hb=>(hwp wx hb).1)
         have HC:Hid (∀ wx,Below w0.heap.size w0 wx→Calls Tryd.prog 37 #[.agg (rulC x (.slice a1 n1 c1) (.slice a2 n2 c2) (.slice a3 n3 c3) (.slice a4 n4 c4) (.slice a6 n6 c6)).toArray,.agg (lnkC x.links[j4] p1 q1 s1').toArray] wx fun e w' =>e= .returned (.int .i64 (lnkE x j4))∧Below wx.heap.size wx w'):=fun wx hb=>by
          have hE:lnkE x j4=linkE x x.links[j4]:=by unfold lnkE;rw[List.getD_eq_getElem?_getD,List.getElem?_eq_getElem hkl];rfl
          rw[hE]
          exact link_any (Nat.lt_of_lt_of_le hg.out hb.size) x _ (rulF_firm _ _ _ _ _ _ (Same.below hb) h'.out) x.links[j4] p1 q1 s1' (u1.below (plainF_firm _) hb) hap.out
         clear hwp u1
         unfold lnkC at HR HC
         unfold rulC at HC
         generalize x.links[j4]=p at HR HC
         clear hkl
         generalize lnkE x j4=q at HC HS2
         by_cases hq0:q=0
         ·subst hq0
          go_wp2_with (first|(with_reducible (first|(refine wV M ?_;clear M;intro zl w M)|refine wq M ?_|(refine wS M ?_;clear M;intro w M)|refine wA (HR.out _ M.new) ?_))|(go_at_call 37;with_reducible refine(HC.out _ M.new).mono ?_;rintro e w5 ⟨rfl,hb5⟩;replace M:=M.below hb5;clear hb5))
          go_roundg (n4 - (j4+1))
          case measure=>omega
          case rel=>exact⟨j4+1,by omega,by go_num,M.drop,HS2⟩
         ·have hqb:(q !=0)=true:=by simpa using hq0
          have HV:Hid (ruleE ts x=q):=HS2.out.1 hq0
          replace hq0:=Lib.hid hq0
          go_wp2_with (first|(with_reducible (first|(refine wV M ?_;clear M;intro zl w M)|refine wq M ?_|(refine wS M ?_;clear M;intro w M)|refine wA (HR.out _ M.new) ?_))|(go_at_call 37;with_reducible refine(HC.out _ M.new).mono ?_;rintro e w5 ⟨rfl,hb5⟩;replace M:=M.below hb5;clear hb5))
          go_ret
          rw[HV.out]
          exact⟨rfl,M.new⟩
        ·have hjn:j4=n4:=by omega
         have hpre:Pre4 ts x:=⟨(HS.out.2 rfl).1,by rw[←N4.out,←hjn];exact(HS.out.2 rfl).2⟩
         have HV:Hid (ruleE ts x=emitE ts x):=ruleE_end hpre
         have HEM:Hid (∀ wx,Below w0.heap.size w0 wx→Scope F wx zs zk mk fk ts x.whens ao n cap→Calls Tryd.prog 38 #[.pointer (some ⟨zs,0,none⟩),.agg #[.string x.etype,.slice a6 n6 c6]] wx fun e w' =>e= .returned (.int .i64 (emitE ts x))∧Below wx.heap.size wx w'):=fun wx hb hS=>
          emit_any (Nat.lt_of_lt_of_le hg.out hb.size) x hS hts.out (X6.out.below opdF_firm hb) hok.out.evals
         clear hpre HS
         go_wp2_with (first|(with_reducible refine wq M ?_)|(go_at_call 38;with_reducible refine(HEM.out _ M.new (scope_of M hX.out (i2:=1) (i3:=2) rfl rfl HK2.out hth.out)).mono ?_;rintro e w5 ⟨rfl,hb5⟩;replace M:=M.below hb5;clear hb5))
         go_ret
         rw[HV.out]
         exact⟨rfl,M.new⟩
theorem rule_any(hg:g<w0.heap.size)(hX:SlF F w0 2 typF ao n cap ts)(E:Env F w0)(hF: ∀ b,F b→b<w0.heap.size)(hts: ∀ t∈ts,TypGood t)(x:Rul)(row:List Value)(h:rulF F w0 row x)(hok:RulFit x):Calls Tryd.prog 16 #[.slice ao n cap,.agg row.toArray] w0 fun e w' =>e= .returned (.int .i64 (ruleE ts x))∧Below w0.heap.size w0 w' :=by
 by_cases h0:freeE x.name=0
 ·cases h1:sizeB x with
  |true=>exact rule_size hg hX E hF hts x row h hok h0 h1
  |false=>exact rule_main hg hX E hF hts x row h hok h0 h1
 ·exact rule_name hg hX E hF hts x row h hok h0
end
end Go.Proofs.YtcebfkdhicbmkaaDoor
