/-
  The walks of the program's Check, tenth part: who uses a type. Printed by pgj.py.
-/
import Derived.Test.YtcebfkdhicbmkaaDoorPgGI
import Derived.ArgAppend
import Derived.Test.YtcebfkdhicbmkaaDoorChkO
import Derived.Test.YtcebfkdhicbmkaaDoorValX
namespace Go.Proofs.YtcebfkdhicbmkaaDoor
open Go.RowKit
set_option linter.unusedVariables false
set_option linter.unusedSimpArgs false
theorem oneF:OneT Tryd.prog 125:=⟨by kernel_rfl,_,Tryd.underlying125,rfl⟩
instance :OneI Tryd.prog 125:=⟨oneF⟩
section
variable {P:Program} {dst:Option Tmp} {oty:TypeId} {pos:String} {after:Array Edge} {g:Option (Nat×Bool)} {l:List Value} {ds:List Deferred} {Q:Exit→Act→World→Prop} {K:Act→World→Prop}
variable {At:PS→World→Prop} {b:Nat} {u w:World} {s:PS} {L:List Ent} {ty j:Nat}
theorem Mem.cell0{i z:Nat}{c:Value}{cs:List Value}{t:TypeId}(M:Mem At b u w s L)(hi:L[i]?=some (own z (c::cs) t)):w.cell? ⟨z,0,none⟩=some c:=by
 rw[(M.own_ (Mem.of_get hi)).cell];rfl
theorem Mem.lt0{i z:Nat}{cs:List Value}{t:TypeId}(M:Mem At b u w s L)(hi:L[i]?=some (own z cs t)):z<w.heap.size:=(M.low _ (Mem.of_get hi) _ rfl).2
theorem q_box1(M:Mem At b u w s L){s1:ByteArray}[hy:Nth l j (.string s1)]{F:Nat→List Value}[hd: ∀ z,PutI l dst (.pointer (some ⟨z,0,none⟩)) (F z)](h: ∀ z w',Mem At b u w' s (own z [.string s1] ty::L)→K ⟨(F z).toArray,ds⟩ w'):OWP P ⟨dst,.box ty (.tmp j),oty,pos,after,g⟩ ⟨l.toArray,ds⟩ w K Q:=by
 refine owp_of ?_
 have hy' :=eval_tmp (ds:=ds) hy.nth
 unfold Oper.wp execOp
 simp only[Instr.box,hy',Sem.run_bind,newVar,newRow,newObj,Value.cells]
 have hlow: ∀ y,(own w.heap.size [.string s1] ty).blk=some y→w.heap.size≤y∧y<(w.alloc (.cells [.string s1].toArray ty)).heap.size:=fun y hy=>by
  have e:w.heap.size=y:=by injection hy
  subst e
  simp
 have key:=h w.heap.size (w.alloc (.cells [Value.string s1].toArray ty)) (M.push (e:=own w.heap.size [Value.string s1] ty) (Joins.below_alloc1 w _) (own_firm _ _ _) hlow (fun G _=>heap_alloc_new w (.cells [Value.string s1].toArray ty)))
 rw[←(hd w.heap.size).put]at key
 exact key
theorem q_varf(M:Mem At b u w s L)(hi:(P.info? ty).map (·.zero)=some (some .nilFunc)){F:Nat→List Value}[hd: ∀ z,PutI l dst (.pointer (some ⟨z,0,none⟩)) (F z)](h: ∀ z w',Mem At b u w' s (own z [.nilFunc] ty::L)→K ⟨(F z).toArray,ds⟩ w'):OWP P ⟨dst,.alloc ty,oty,pos,after,g⟩ ⟨l.toArray,ds⟩ w K Q:=
 owp_of (op_var M ty rfl [.nilFunc] .nilFunc rfl hi (fun z w' M' =>by rw[(hd z).put];exact h z w' M'))
theorem q_func(fn:Fn){j' :Nat}{c:Value}[hc:Nth l j' c]{l' :List Value}[hd:PutI l dst (.func fn #[] #[c]) l'](h:K ⟨l'.toArray,ds⟩ w):OWP P ⟨dst,.makeFunc fn #[] #[.tmp j'],oty,pos,after,g⟩ ⟨l.toArray,ds⟩ w K Q:=by
 refine owp_of ?_
 have hk:K (Act.put ⟨l.toArray,ds⟩ dst (.func fn #[] #[c])) w:=by rw[hd.put];exact h
 unfold Oper.wp execOp
 simp only[Instr.makeFunc,Sem.run_bind,Sem.run_pure,Result.andThen_ok,List.map_toArray,List.map_nil,List.map_cons,eval_tmp hc.nth]
 exact hk
end
theorem zF:(Tryd.prog.info? 125).map (·.zero)=some (some .nilFunc):=by kernel_rfl
section
variable {g:Nat} {F:Nat→Prop} {ao:Option Addr} {n cap:Nat} {w0:World}
set_option maxRecDepth 8000 in
set_option maxHeartbeats 4000000 in
theorem uses1_any(hg:g<w0.heap.size)(p:Pat)(so:Option Addr)(sn scap:Nat)(zn:Nat)(nm:ByteArray)(hz:zn<w0.heap.size)(h0:w0.cell? ⟨zn,0,none⟩=some (.string nm)):
  Calls Tryd.prog 63 #[.agg (pat18 p so sn scap).toArray,.pointer (some ⟨zn,0,none⟩)] w0 fun e w' =>e= .returned (.bool (sameS p.type nm))∧Below w0.heap.size w0 w' :=by
 have M:=Mem.begin hg ⟨0,0⟩
 have HN0:Hid (∀ wx,Below w0.heap.size w0 wx→wx.cell? ⟨zn,0,none⟩=some (.string nm)):=fun wx hb=>by rw[(bcell hb).1 _ _ hz];exact h0
 have HV:Hid (sameS p.type nm=(p.type.toList==nm.toList)):=rfl
 unfold pat18
 clear hg hz h0
 go_enter Tryd.func63,Tryd.ntmps63
 go_wp2_with (with_reducible (first|(refine wB (L:=[]) M ?_;clear M;intro za w1 M)|refine wq M ?_|refine wC (HN0.out _ M.new) ?_))
 go_ret
 rw[HV.out]
 exact⟨rfl,M.new⟩
set_option maxRecDepth 8000 in
set_option maxHeartbeats 4000000 in
theorem ixPat_any(hg:g<w0.heap.size){l:List Pat}(hX:SlF F w0 18 patF ao n cap l)(pr:Pat→Bool)(z:Nat)(HC0: ∀ p∈l,∀ so sn sc wx,Below w0.heap.size w0 wx→Calls Tryd.prog 63 #[.agg (pat18 p so sn sc).toArray,.pointer (some ⟨z,0,none⟩)] wx fun e w' =>e= .returned (.bool (pr p))∧Below wx.heap.size wx w'):
  Calls Tryd.prog 78 #[.slice ao n cap,.func (Fn.func 63) #[] #[.pointer (some ⟨z,0,none⟩)]] w0 fun e w' =>e= .returned (.int .i64 (placeV (l.findIdx pr) l.length))∧Below w0.heap.size w0 w' :=by
 have NL:=Lib.hid hX.len
 have hle:=hX.le
 have M:=Mem.begin hg ⟨0,0⟩
 have HX:=Lib.hid hX
 have HC0:=Lib.hid HC0
 clear hX hg
 go_enter Tryd.func78,Tryd.ntmps78
 go_wp2_with (with_reducible (first|refine wq M ?_|(refine wS M ?_;clear M;intro w M)|(refine wV M ?_;clear M;intro z w M)|(refine wR M ?_;clear M;intro q w M)))
 go_loopg [8] n (fun f i wr=> ∃ k:Nat,k+f=n∧i= .int .i64 k∧Mem (StaysB g w0) g w0 wr ⟨0,0⟩ []∧Hid (NoB l pr k))
 case atStart=>exact⟨0,by omega,rfl,M,noB_zero _ _⟩
 case round=>
  clear M
  obtain⟨k,hk,rfl,M,HB⟩:=hrel
  by_cases hlt:k<n
  ·have hkl:k<l.length:=by have:=NL.out;omega
   obtain⟨ca,oa,rowa,hixa, -,hrra,hwa⟩:=SlF.rowAt (P:=Tryd.prog) HX.out patF_firm Tryd.underlying43 size_pat (i:=k) hkl
   have HC1:=Lib.hid (HC0.out l[k] (List.getElem_mem hkl))
   have HS:Hid (pr l[k]=true→placeV (l.findIdx pr) l.length=k):=fun h=>place_at HB.out hkl h
   have HT:Hid (pr l[k]=false→NoB l pr (k+1)):=fun h=>noB_succ HB.out hkl h
   obtain⟨p1,q1,s1,ea,u1⟩:=patF.open18 hrra
   subst ea
   have HC:=Lib.hid (HC1.out p1 q1 s1)
   clear HC1
   have HR:=Lib.hid (fun wx hb=>(hwa wx hb).1)
   clear hwa u1 HB
   unfold pat18 at HR HC
   generalize l[k]=p at HR HC HS HT
   cases hsm:pr p with
   |true=>
    have HV:=Lib.hid (HS.out hsm)
    rw[hsm]at HC
    clear HS HT hsm
    go_wp2_with (first|(with_reducible refine wA (HR.out _ M.new) ?_)|(go_at_call 63;with_reducible refine(HC.out _ M.new).mono ?_;rintro e w5 ⟨rfl,hb5⟩;replace M:=M.below hb5;clear hb5))
    go_ret
    rw[HV.out]
    exact⟨rfl,M.new⟩
   |false=>
    have HV:=Lib.hid (HT.out hsm)
    rw[hsm]at HC
    clear HS HT hsm
    go_wp2_with (first|(with_reducible refine wA (HR.out _ M.new) ?_)|(go_at_call 63;with_reducible refine(HC.out _ M.new).mono ?_;rintro e w5 ⟨rfl,hb5⟩;replace M:=M.below hb5;clear hb5))
    go_roundg (n - (k+1))
    case measure=>omega
    case rel=>exact⟨k+1,by omega,by go_num,M,HV⟩
  ·have HV:Hid (placeV (l.findIdx pr) l.length= -1):=by
    have e:k=l.length:=by have:=NL.out;omega
    exact place_none (e▸HB.out)
   go_wp2_with (with_reducible (first|refine wq M ?_|(refine wS M ?_;clear M;intro w M)|(refine wV M ?_;clear M;intro z w M)|(refine wR M ?_;clear M;intro q w M)))
   go_ret
   rw[HV.out]
   exact⟨rfl,M.new⟩
set_option maxRecDepth 8000 in
set_option maxHeartbeats 4000000 in
theorem conPat_any(hg:g<w0.heap.size){l:List Pat}(hX:SlF F w0 18 patF ao n cap l)(pr:Pat→Bool)(z:Nat)(HC0: ∀ p∈l,∀ so sn sc wx,Below w0.heap.size w0 wx→Calls Tryd.prog 63 #[.agg (pat18 p so sn sc).toArray,.pointer (some ⟨z,0,none⟩)] wx fun e w' =>e= .returned (.bool (pr p))∧Below wx.heap.size wx w'):
  Calls Tryd.prog 64 #[.slice ao n cap,.func (Fn.func 63) #[] #[.pointer (some ⟨z,0,none⟩)]] w0 fun e w' =>e= .returned (.bool (l.any pr))∧Below w0.heap.size w0 w' :=by
 have M:=Mem.begin hg ⟨0,0⟩
 have HI:Hid (∀ wx,Below w0.heap.size w0 wx→Calls Tryd.prog 78 #[.slice ao n cap,.func (Fn.func 63) #[] #[.pointer (some ⟨z,0,none⟩)]] wx fun e w' =>e= .returned (.int .i64 (placeV (l.findIdx pr) l.length))∧Below wx.heap.size wx w'):=fun wx hb=>
  ixPat_any (Nat.lt_of_lt_of_le hg hb.size) (hX.below patF_firm hb) pr z (fun p hp so sn sc wy hby=>HC0 p hp so sn sc wy (hb.trans (hby.mono hb.size)))
 have hge:decide ((0:Int)≤placeV (l.findIdx pr) l.length)=decide (l.findIdx pr<l.length):=by
  unfold placeV
  by_cases h:l.findIdx pr<l.length
  ·rw[if_pos h];simp[h]
  ·rw[if_neg h];simp[h]
 have hany:l.any pr=decide (l.findIdx pr<l.length):=by rw[Bool.eq_iff_iff,decide_eq_true_iff,List.findIdx_lt_length,List.any_eq_true]
 rw[hany,←hge]
 generalize placeV (l.findIdx pr) l.length=v at HI ⊢
 clear hg hX HC0 hge hany
 go_enter Tryd.func64,Tryd.ntmps64
 go_wp2_with (go_at_call 78;with_reducible refine(HI.out _ M.new).mono ?_;rintro e w5 ⟨rfl,hb5⟩;replace M:=M.below hb5;clear hb5)
 go_ret
 exact⟨rfl,M.new⟩
set_option maxRecDepth 8000 in
set_option maxHeartbeats 4000000 in
theorem ixMan_any(hg:g<w0.heap.size){l:List Many}(hX:SlF F w0 20 manF ao n cap l)(pr:Many→Bool)(z:Nat)(HC0: ∀ p∈l,∀ so sn sc wx,Below w0.heap.size w0 wx→Calls Tryd.prog 66 #[.agg (man20 p so sn sc).toArray,.pointer (some ⟨z,0,none⟩)] wx fun e w' =>e= .returned (.bool (pr p))∧Below wx.heap.size wx w'):
  Calls Tryd.prog 79 #[.slice ao n cap,.func (Fn.func 66) #[] #[.pointer (some ⟨z,0,none⟩)]] w0 fun e w' =>e= .returned (.int .i64 (placeV (l.findIdx pr) l.length))∧Below w0.heap.size w0 w' :=by
 have NL:=Lib.hid hX.len
 have hle:=hX.le
 have M:=Mem.begin hg ⟨0,0⟩
 have HX:=Lib.hid hX
 have HC0:=Lib.hid HC0
 clear hX hg
 go_enter Tryd.func79,Tryd.ntmps79
 go_wp2_with (with_reducible (first|refine wq M ?_|(refine wS M ?_;clear M;intro w M)|(refine wV M ?_;clear M;intro z w M)|(refine wR M ?_;clear M;intro q w M)))
 go_loopg [8] n (fun f i wr=> ∃ k:Nat,k+f=n∧i= .int .i64 k∧Mem (StaysB g w0) g w0 wr ⟨0,0⟩ []∧Hid (NoB l pr k))
 case atStart=>exact⟨0,by omega,rfl,M,noB_zero _ _⟩
 case round=>
  clear M
  obtain⟨k,hk,rfl,M,HB⟩:=hrel
  by_cases hlt:k<n
  ·have hkl:k<l.length:=by have:=NL.out;omega
   obtain⟨ca,oa,rowa,hixa, -,hrra,hwa⟩:=SlF.rowAt (P:=Tryd.prog) HX.out manF_firm Tryd.underlying44 size_man (i:=k) hkl
   have HC1:=Lib.hid (HC0.out l[k] (List.getElem_mem hkl))
   have HS:Hid (pr l[k]=true→placeV (l.findIdx pr) l.length=k):=fun h=>place_at HB.out hkl h
   have HT:Hid (pr l[k]=false→NoB l pr (k+1)):=fun h=>noB_succ HB.out hkl h
   obtain⟨p1,q1,s1,ea,u1⟩:=manF.open20 hrra
   subst ea
   have HC:=Lib.hid (HC1.out p1 q1 s1)
   clear HC1
   have HR:=Lib.hid (fun wx hb=>(hwa wx hb).1)
   clear hwa u1 HB
   unfold man20 pat18 at HR HC
   generalize l[k]=p at HR HC HS HT
   cases hsm:pr p with
   |true=>
    have HV:=Lib.hid (HS.out hsm)
    rw[hsm]at HC
    clear HS HT hsm
    go_wp2_with (first|(with_reducible refine wA (HR.out _ M.new) ?_)|(go_at_call 66;with_reducible refine(HC.out _ M.new).mono ?_;rintro e w5 ⟨rfl,hb5⟩;replace M:=M.below hb5;clear hb5))
    go_ret
    rw[HV.out]
    exact⟨rfl,M.new⟩
   |false=>
    have HV:=Lib.hid (HT.out hsm)
    rw[hsm]at HC
    clear HS HT hsm
    go_wp2_with (first|(with_reducible refine wA (HR.out _ M.new) ?_)|(go_at_call 66;with_reducible refine(HC.out _ M.new).mono ?_;rintro e w5 ⟨rfl,hb5⟩;replace M:=M.below hb5;clear hb5))
    go_roundg (n - (k+1))
    case measure=>omega
    case rel=>exact⟨k+1,by omega,by go_num,M,HV⟩
  ·have HV:Hid (placeV (l.findIdx pr) l.length= -1):=by
    have e:k=l.length:=by have:=NL.out;omega
    exact place_none (e▸HB.out)
   go_wp2_with (with_reducible (first|refine wq M ?_|(refine wS M ?_;clear M;intro w M)|(refine wV M ?_;clear M;intro z w M)|(refine wR M ?_;clear M;intro q w M)))
   go_ret
   rw[HV.out]
   exact⟨rfl,M.new⟩
set_option maxRecDepth 8000 in
set_option maxHeartbeats 4000000 in
theorem conMan_any(hg:g<w0.heap.size){l:List Many}(hX:SlF F w0 20 manF ao n cap l)(pr:Many→Bool)(z:Nat)(HC0: ∀ p∈l,∀ so sn sc wx,Below w0.heap.size w0 wx→Calls Tryd.prog 66 #[.agg (man20 p so sn sc).toArray,.pointer (some ⟨z,0,none⟩)] wx fun e w' =>e= .returned (.bool (pr p))∧Below wx.heap.size wx w'):
  Calls Tryd.prog 65 #[.slice ao n cap,.func (Fn.func 66) #[] #[.pointer (some ⟨z,0,none⟩)]] w0 fun e w' =>e= .returned (.bool (l.any pr))∧Below w0.heap.size w0 w' :=by
 have M:=Mem.begin hg ⟨0,0⟩
 have HI:Hid (∀ wx,Below w0.heap.size w0 wx→Calls Tryd.prog 79 #[.slice ao n cap,.func (Fn.func 66) #[] #[.pointer (some ⟨z,0,none⟩)]] wx fun e w' =>e= .returned (.int .i64 (placeV (l.findIdx pr) l.length))∧Below wx.heap.size wx w'):=fun wx hb=>
  ixMan_any (Nat.lt_of_lt_of_le hg hb.size) (hX.below manF_firm hb) pr z (fun p hp so sn sc wy hby=>HC0 p hp so sn sc wy (hb.trans (hby.mono hb.size)))
 have hge:decide ((0:Int)≤placeV (l.findIdx pr) l.length)=decide (l.findIdx pr<l.length):=by
  unfold placeV
  by_cases h:l.findIdx pr<l.length
  ·rw[if_pos h];simp[h]
  ·rw[if_neg h];simp[h]
 have hany:l.any pr=decide (l.findIdx pr<l.length):=by rw[Bool.eq_iff_iff,decide_eq_true_iff,List.findIdx_lt_length,List.any_eq_true]
 rw[hany,←hge]
 generalize placeV (l.findIdx pr) l.length=v at HI ⊢
 clear hg hX HC0 hge hany
 go_enter Tryd.func65,Tryd.ntmps65
 go_wp2_with (go_at_call 79;with_reducible refine(HI.out _ M.new).mono ?_;rintro e w5 ⟨rfl,hb5⟩;replace M:=M.below hb5;clear hb5)
 go_ret
 exact⟨rfl,M.new⟩
set_option maxRecDepth 8000 in
set_option maxHeartbeats 4000000 in
theorem uses2_any(hg:g<w0.heap.size)(m:Many)(so:Option Addr)(sn scap:Nat)(zf zn:Nat)(nm:ByteArray)(hzf:zf<w0.heap.size)(hz:zn<w0.heap.size)(h1:w0.cell? ⟨zf,0,none⟩=some (.func (Fn.func 63) #[] #[.pointer (some ⟨zn,0,none⟩)]))(h0:w0.cell? ⟨zn,0,none⟩=some (.string nm)):
  Calls Tryd.prog 66 #[.agg (man20 m so sn scap).toArray,.pointer (some ⟨zf,0,none⟩)] w0 fun e w' =>e= .returned (.bool (sameS m.pat.type nm))∧Below w0.heap.size w0 w' :=by
 have M:=Mem.begin hg ⟨0,0⟩
 have HF0:Hid (∀ wx,Below w0.heap.size w0 wx→wx.cell? ⟨zf,0,none⟩=some (.func (Fn.func 63) #[] #[.pointer (some ⟨zn,0,none⟩)])):=fun wx hb=>by rw[(bcell hb).1 _ _ hzf];exact h1
 have HC:Hid (∀ wx,Below w0.heap.size w0 wx→Calls Tryd.prog 63 #[.agg (pat18 m.pat so sn scap).toArray,.pointer (some ⟨zn,0,none⟩)] wx fun e w' =>e= .returned (.bool (sameS m.pat.type nm))∧Below wx.heap.size wx w'):=fun wx hb=>
  uses1_any (Nat.lt_of_lt_of_le hg hb.size) m.pat so sn scap zn nm (Nat.lt_of_lt_of_le hz hb.size) (by rw[(bcell hb).1 _ _ hz];exact h0)
 unfold man20 pat18
 unfold pat18 at HC
 clear hg hz hzf h0 h1
 go_enter Tryd.func66,Tryd.ntmps66
 go_wp2_with (first|(with_reducible (first|(refine wB (L:=[]) M ?_;clear M;intro za w1 M)|refine wq M ?_|refine wC (HF0.out _ M.new) ?_))|(go_at_call 63;with_reducible refine(HC.out _ M.new).mono ?_;rintro e w5 ⟨rfl,hb5⟩;replace M:=M.below hb5;clear hb5))
 go_ret
 exact⟨rfl,M.new⟩
set_option maxRecDepth 8000 in
set_option maxHeartbeats 8000000 in
theorem uses_any(hg:g<w0.heap.size)(x:Rul)(row:List Value)(h:rulF F w0 row x)(nm:ByteArray):
  Calls Tryd.prog 40 #[.agg row.toArray,.string nm] w0 fun e w' =>e= .returned (.bool (speaks x nm))∧Below w0.heap.size w0 w' :=by
 obtain⟨a1,n1,c1,a2,n2,c2,a3,n3,c3,a4,n4,c4,a6,n6,c6,rfl,X1,X2,X3,X4,X6⟩:=h
 have M:=Mem.begin hg ⟨0,0⟩
 have HW:Hid (∀ (zn:Nat) wx,Below w0.heap.size w0 wx→zn<wx.heap.size→wx.cell? ⟨zn,0,none⟩=some (.string nm)→Calls Tryd.prog 64 #[.slice a1 n1 c1,.func (Fn.func 63) #[] #[.pointer (some ⟨zn,0,none⟩)]] wx fun e w' =>e= .returned (.bool (x.whens.any (fun p=>sameS p.type nm)))∧Below wx.heap.size wx w'):=fun zn wx hb hz h0=>
  conPat_any (Nat.lt_of_lt_of_le hg hb.size) (X1.below patF_firm hb) (fun p=>sameS p.type nm) zn (fun p _ so sn sc wy hby=>uses1_any (Nat.lt_of_lt_of_le hg (Nat.le_trans hb.size hby.size)) p so sn sc zn nm (Nat.lt_of_lt_of_le hz hby.size) (by rw[(bcell hby).1 _ _ hz];exact h0))
 have HO:Hid (∀ (zn:Nat) wx,Below w0.heap.size w0 wx→zn<wx.heap.size→wx.cell? ⟨zn,0,none⟩=some (.string nm)→Calls Tryd.prog 64 #[.slice a2 n2 c2,.func (Fn.func 63) #[] #[.pointer (some ⟨zn,0,none⟩)]] wx fun e w' =>e= .returned (.bool (x.nots.any (fun p=>sameS p.type nm)))∧Below wx.heap.size wx w'):=fun zn wx hb hz h0=>
  conPat_any (Nat.lt_of_lt_of_le hg hb.size) (X2.below patF_firm hb) (fun p=>sameS p.type nm) zn (fun p _ so sn sc wy hby=>uses1_any (Nat.lt_of_lt_of_le hg (Nat.le_trans hb.size hby.size)) p so sn sc zn nm (Nat.lt_of_lt_of_le hz hby.size) (by rw[(bcell hby).1 _ _ hz];exact h0))
 have HM:Hid (∀ (zf zn:Nat) wx,Below w0.heap.size w0 wx→zf<wx.heap.size→zn<wx.heap.size→wx.cell? ⟨zf,0,none⟩=some (.func (Fn.func 63) #[] #[.pointer (some ⟨zn,0,none⟩)])→wx.cell? ⟨zn,0,none⟩=some (.string nm)→Calls Tryd.prog 65 #[.slice a3 n3 c3,.func (Fn.func 66) #[] #[.pointer (some ⟨zf,0,none⟩)]] wx fun e w' =>e= .returned (.bool (x.manies.any (fun m=>sameS m.pat.type nm)))∧Below wx.heap.size wx w'):=fun zf zn wx hb hzf hz h1 h0=>
  conMan_any (Nat.lt_of_lt_of_le hg hb.size) (X3.below manF_firm hb) (fun m=>sameS m.pat.type nm) zf (fun m _ so sn sc wy hby=>uses2_any (Nat.lt_of_lt_of_le hg (Nat.le_trans hb.size hby.size)) m so sn sc zf zn nm (Nat.lt_of_lt_of_le hzf hby.size) (Nat.lt_of_lt_of_le hz hby.size) (by rw[(bcell hby).1 _ _ hzf];exact h1) (by rw[(bcell hby).1 _ _ hz];exact h0))
 have HV:Hid (speaks x nm=(x.whens.any (fun p=>sameS p.type nm)||x.nots.any (fun p=>sameS p.type nm)||x.manies.any (fun m=>sameS m.pat.type nm))):=rfl
 rw[HV.out]
 generalize x.whens.any (fun p=>sameS p.type nm)=A1 at HW ⊢
 generalize x.nots.any (fun p=>sameS p.type nm)=B at HO ⊢
 generalize x.manies.any (fun m=>sameS m.pat.type nm)=C at HM ⊢
 unfold rulC
 clear hg X1 X2 X3 X4 X6 HV
 cases A1<;>cases B
 all_goals
  go_enter Tryd.func40,Tryd.ntmps40
  go_wp2_with (first|(first|((with_reducible refine o_list rfl fun K hK=>?_);refine q_func _ ?_;refine hK _ _ ?_;clear hK K)|((with_reducible refine o_listg fun K hK=>?_);refine q_func _ ?_;refine hK _ _ ?_;clear hK K))|(with_reducible (first|(refine wB (L:=[]) M ?_;clear M;intro za w1 M)|(refine w_ (q_box1 M ?_);clear M;intro zn w M)|(refine w_ (q_varf M zF ?_);clear M;intro zf w M)|refine wq M ?_|(refine wS M ?_;clear M;intro w M)))|(go_at_call 64;with_reducible refine(HW.out zn _ M.new (M.lt0 (i:=1) rfl) (M.cell0 (i:=1) rfl)).mono ?_;rintro e w5 ⟨rfl,hb5⟩;replace M:=M.below hb5;clear hb5)|(go_at_call 64;with_reducible refine(HO.out zn _ M.new (M.lt0 (i:=1) rfl) (M.cell0 (i:=1) rfl)).mono ?_;rintro e w5 ⟨rfl,hb5⟩;replace M:=M.below hb5;clear hb5)|(go_at_call 65;with_reducible refine(HM.out zf zn _ M.new (M.lt0 (i:=0) rfl) (M.lt0 (i:=1) rfl) (M.cell0 (i:=0) rfl) (M.cell0 (i:=1) rfl)).mono ?_;rintro e w5 ⟨rfl,hb5⟩;replace M:=M.below hb5;clear hb5))
  go_ret
  exact⟨rfl,M.new⟩
end
end Go.Proofs.YtcebfkdhicbmkaaDoor
/-
  The program's Check, eleventh part: of what types events come, in plain Lean; queues of texts.
-/
namespace Go.Proofs.YtcebfkdhicbmkaaDoor
open Go.RowKit
set_option linter.unusedVariables false
set_option linter.unusedSimpArgs false
section
variable {rs:List Rul}
theorem comes_intro{k:Nat}{tt fr:ByteArray}{x:Rul}(hx:x∈rs)(h1:emS x.etype=false)(h2:speaks x fr=true)(h3:sameS x.etype tt=true∨comesB rs k tt x.etype=true):comesB rs (k+1) tt fr=true:=by
 unfold comesB
 refine List.any_eq_true.2 ⟨x,hx,?_⟩
 rw[h1,h2]
 rcases h3 with h|h<;>simp[h]
theorem comes_elim{k:Nat}{tt fr:ByteArray}(h:comesB rs (k+1) tt fr=true): ∃ x∈rs,emS x.etype=false∧speaks x fr=true∧(sameS x.etype tt=true∨comesB rs k tt x.etype=true):=by
 unfold comesB at h
 obtain⟨x,hx,h⟩:=List.any_eq_true.1 h
 refine⟨x,hx,?_⟩
 cases h1:emS x.etype<;>cases h2:speaks x fr<;>simp[h1,h2]at h ⊢
 exact h
theorem comes_mono1: ∀ (k:Nat) (tt fr:ByteArray),comesB rs k tt fr=true→comesB rs (k+1) tt fr=true
 |0,tt,fr,h=>by unfold comesB at h;cases h
 |k+1,tt,fr,h=>by
  obtain⟨x,hx,h1,h2,h3⟩:=comes_elim h
  exact comes_intro hx h1 h2 (h3.imp id (comes_mono1 k tt x.etype))
theorem comes_mono{k m:Nat}{tt fr:ByteArray}(h:comesB rs k tt fr=true)(hm:k≤m):comesB rs m tt fr=true:=by
 induction hm with
 |refl=>exact h
 |step _ ih=>exact comes_mono1 _ _ _ ih
theorem comes_back: ∀ (k:Nat) (nm fr:ByteArray),comesB rs k nm fr=true→ ∀ x∈rs,emS x.etype=false→speaks x nm=true→comesB rs (k+1) x.etype fr=true
 |0,nm,fr,h,_,_,_,_=>by unfold comesB at h;cases h
 |k+1,nm,fr,h,x,hx,h1,h2=>by
  obtain⟨y,hy,e1,e2,e3⟩:=comes_elim h
  refine comes_intro hy e1 e2 (.inr ?_)
  rcases e3 with e|e
  ·have:=sameS_eq e
   rw[this]
   exact comes_mono (comes_intro hx h1 h2 (.inl (sameS_self _)):comesB rs (0+1) x.etype nm=true) (by omega)
  ·exact comes_back k nm y.etype e x hx h1 h2
def unseen(rs:List Rul)(seen:List ByteArray):Nat:=(rs.filter (fun x=>!inS seen x.etype)).length
theorem unseen_nil(rs:List Rul):unseen rs []=rs.length:=by
 have h:rs.filter (fun x=>!inS [] x.etype)=rs:=List.filter_eq_self.2 (fun x _=>rfl)
 unfold unseen
 rw[h]
theorem filter_less{α:Type}{p q:α→Bool}: ∀ (l:List α),(∀ x∈l,q x=true→p x=true)→(∃ x∈l,p x=true∧q x=false)→(l.filter q).length+1≤(l.filter p).length
 |[],_,⟨x,hx,_⟩=>by cases hx
 |a::r,h,⟨x,hx,h1,h2⟩=>by
  have hle: ∀ (l:List α),(∀ x∈l,q x=true→p x=true)→(l.filter q).length≤(l.filter p).length:=fun l=>by
   induction l with
   |nil=>intro _;exact Nat.le_refl _
   |cons b t ih=>
    intro hb
    have ht:=ih (fun x hx=>hb x (List.mem_cons_of_mem _ hx))
    have hb0:=hb b (List.mem_cons_self ..)
    cases hq:q b<;>cases hp:p b<;>simp[List.filter_cons,hq,hp]at hb0 ⊢ <;>omega
  rcases List.mem_cons.1 hx with rfl|hx'
  ·have:=hle r (fun y hy=>h y (List.mem_cons_of_mem _ hy))
   simp only[List.filter_cons,h1,h2,if_true]
   simp
   exact this
  ·have:=filter_less r (fun y hy=>h y (List.mem_cons_of_mem _ hy)) ⟨x,hx',h1,h2⟩
   have h0:=h a (List.mem_cons_self ..)
   cases hq:q a<;>cases hp:p a<;>simp[List.filter_cons,hq,hp]at h0 ⊢ <;>omega
theorem unseen_snoc{seen:List ByteArray}{x:Rul}(hx:x∈rs)(h:inS seen x.etype=false):unseen rs (seen++[x.etype])+1≤unseen rs seen:=by
 unfold unseen
 refine filter_less rs (fun y _ hy=>?_) ⟨x,hx,by rw[h];rfl,by rw[inS_snoc,sameS_self];simp⟩
 rw[inS_snoc]at hy
 cases hq:inS seen y.etype<;>simp[hq]at hy ⊢
def DoneTo(rs:List Rul)(seen:List ByteArray)(a:ByteArray)(j:Nat):Prop:= ∀ i (h:i<rs.length),i<j→emS rs[i].etype=false→speaks rs[i] a=true→inS seen rs[i].etype=true
theorem DoneTo.snoc{seen:List ByteArray}{a v:ByteArray}{j:Nat}(h:DoneTo rs seen a j):DoneTo rs (seen++[v]) a j:=fun i hi hij h1 h2=>by rw[inS_snoc,h i hi hij h1 h2];rfl
structure Srch (rs:List Rul) (fr:ByteArray) (seen xs:List ByteArray) (cur:Option (ByteArray×Nat)):Prop where
 come: ∀ s,inS seen s=true→comesB rs seen.length s fr=true
 known: ∀ s∈xs,s=fr∨inS seen s=true
 now: ∀ a j,cur=some (a,j)→(a=fr∨inS seen a=true)∧DoneTo rs seen a j
 done: ∀ a,(a=fr∨inS seen a=true)→a∈xs∨DoneTo rs seen a rs.length∨ ∃ j,cur=some (a,j)
 few:seen.length+unseen rs seen≤rs.length
 small:xs.length+unseen rs seen≤1+rs.length
theorem srch_start(fr:ByteArray):Srch rs fr [] [fr] none where
 come:=fun s h=>by cases h
 known:=fun s h=> .inl (List.mem_singleton.1 h)
 now:=fun a j h=>by cases h
 done:=fun a h=>by
  rcases h with rfl|h
  ·exact .inl (List.mem_singleton.2 rfl)
  ·cases h
 few:=by rw[unseen_nil];simp
 small:=by rw[unseen_nil];simp
theorem Srch.pop{fr x:ByteArray}{seen xs:List ByteArray}(h:Srch rs fr seen (x::xs) none):Srch rs fr seen xs (some (x,0)) where
 come:=h.come
 known:=fun s hs=>h.known s (List.mem_cons_of_mem _ hs)
 now:=fun a j e=>by
  injection e with e;injection e with e1 e2
  subst e1 e2
  exact⟨h.known _ (List.mem_cons_self ..),fun i _ hi=>absurd hi (Nat.not_lt_zero i)⟩
 done:=fun a ha=>by
  rcases h.done a ha with h1|h1|⟨j,h1⟩
  ·rcases List.mem_cons.1 h1 with rfl|h2
   ·exact .inr (.inr ⟨0,rfl⟩)
   ·exact .inl h2
  ·exact .inr (.inl h1)
  ·cases h1
 few:=h.few
 small:=by have:=h.small;simp only[List.length_cons]at this;omega
theorem Srch.pass{fr a:ByteArray}{seen xs:List ByteArray}{j:Nat}(h:Srch rs fr seen xs (some (a,j)))(hj:j<rs.length)(hp:emS rs[j].etype=false→speaks rs[j] a=true→inS seen rs[j].etype=true):Srch rs fr seen xs (some (a,j+1)) where
 come:=h.come
 known:=h.known
 now:=fun b k e=>by
  injection e with e;injection e with e1 e2
  subst e1 e2
  obtain⟨h1,h2⟩:=h.now _ _ rfl
  refine⟨h1,fun i hi hij=>?_⟩
  rcases Nat.lt_succ_iff_lt_or_eq.1 hij with h3|rfl
  ·exact h2 i hi h3
  ·exact hp
 done:=fun b hb=>by
  rcases h.done b hb with h1|h1|⟨k,h1⟩
  ·exact .inl h1
  ·exact .inr (.inl h1)
  ·injection h1 with h1;injection h1 with e1 e2
   subst e1
   exact .inr (.inr ⟨_,rfl⟩)
 few:=h.few
 small:=h.small
theorem Srch.add{fr a:ByteArray}{seen xs:List ByteArray}{j:Nat}(h:Srch rs fr seen xs (some (a,j)))(hj:j<rs.length)(h1:emS rs[j].etype=false)(h2:inS seen rs[j].etype=false)(h3:speaks rs[j] a=true):Srch rs fr (seen++[rs[j].etype]) (xs++[rs[j].etype]) (some (a,j+1)) where
 come:=fun s hs=>by
  rw[List.length_append]
  rw[inS_snoc]at hs
  obtain⟨k1, -⟩:=h.now _ _ rfl
  cases hq:inS seen s with
  |true=>exact comes_mono (h.come s hq) (by simp)
  |false=>
   rw[hq]at hs
   have e:=sameS_eq (show sameS rs[j].etype s=true by simpa using hs)
   rw[←e]
   have hm:rs[j]∈rs:=List.getElem_mem hj
   rcases k1 with rfl|k1
   ·exact comes_mono (comes_intro hm h1 h3 (.inl (sameS_self _)):comesB rs (0+1) rs[j].etype a=true) (by simp)
   ·exact comes_back _ _ _ (h.come a k1) _ hm h1 h3
 known:=fun s hs=>by
  rw[inS_snoc]
  rcases List.mem_append.1 hs with h4|h4
  ·rcases h.known s h4 with h5|h5
   ·exact .inl h5
   ·exact .inr (by rw[h5];rfl)
  ·rw[List.mem_singleton.1 h4,sameS_self];exact .inr (by simp)
 now:=fun b k e=>by
  injection e with e;injection e with e1 e2
  subst e1 e2
  obtain⟨k1,k2⟩:=h.now _ _ rfl
  refine⟨k1.imp id (fun k1=>by rw[inS_snoc,k1];rfl),fun i hi hij=>?_⟩
  rcases Nat.lt_succ_iff_lt_or_eq.1 hij with h5|rfl
  ·exact k2.snoc i hi h5
  ·intro _ _;rw[inS_snoc,sameS_self];simp
 done:=fun b hb=>by
  rw[inS_snoc]at hb
  have key:(b=fr∨inS seen b=true)∨b=rs[j].etype:=by
   rcases hb with hb|hb
   ·exact .inl (.inl hb)
   ·cases hq:inS seen b with
    |true=>exact .inl (.inr rfl)
    |false=>rw[hq]at hb;exact .inr (sameS_eq (show sameS rs[j].etype b=true by simpa using hb)).symm
  rcases key with hb|hb
  ·rcases h.done b hb with h4|h4|⟨k,h4⟩
   ·exact .inl (List.mem_append.2 (.inl h4))
   ·exact .inr (.inl h4.snoc)
   ·injection h4 with h4;injection h4 with e1 e2
    subst e1
    exact .inr (.inr ⟨_,rfl⟩)
  ·exact .inl (List.mem_append.2 (.inr (List.mem_singleton.2 hb)))
 few:=by have:=h.few;have:=unseen_snoc (List.getElem_mem hj) h2;simp only[List.length_append,List.length_cons,List.length_nil];omega
 small:=by have:=h.small;have:=unseen_snoc (List.getElem_mem hj) h2;simp only[List.length_append,List.length_cons,List.length_nil];omega
theorem Srch.next{fr a:ByteArray}{seen xs:List ByteArray}(h:Srch rs fr seen xs (some (a,rs.length))):Srch rs fr seen xs none where
 come:=h.come
 known:=h.known
 now:=fun b k e=>by cases e
 done:=fun b hb=>by
  rcases h.done b hb with h1|h1|⟨k,h1⟩
  ·exact .inl h1
  ·exact .inr (.inl h1)
  ·injection h1 with h1;injection h1 with e1 e2
   subst e1
   exact .inr (.inl (h.now _ _ rfl).2)
 few:=h.few
 small:=h.small
theorem Srch.all{fr:ByteArray}{seen:List ByteArray}(h:Srch rs fr seen [] none): ∀ (k:Nat) (a s:ByteArray),(a=fr∨inS seen a=true)→comesB rs k s a=true→inS seen s=true
 |0,a,s,_,hc=>by unfold comesB at hc;cases hc
 |k+1,a,s,ha,hc=>by
  obtain⟨y,hy,e1,e2,e3⟩:=comes_elim hc
  obtain⟨i,hi,rfl⟩:=List.mem_iff_getElem.1 hy
  have hd:DoneTo rs seen a rs.length:=by
   rcases h.done a ha with h1|h1|⟨j,h1⟩
   ·cases h1
   ·exact h1
   ·cases h1
  have hse:=hd i hi hi e1 e2
  rcases e3 with e|e
  ·rw[←sameS_eq e];exact hse
  ·exact h.all k _ s (.inr hse) e
theorem Srch.ends{fr:ByteArray}{seen:List ByteArray}(h:Srch rs fr seen [] none)(s:ByteArray):inS seen s=comesB rs rs.length s fr:=by
 rw[Bool.eq_iff_iff]
 refine⟨fun hs=>comes_mono (h.come s hs) (by have:=h.few;omega),fun hs=>h.all _ fr s (.inl rfl) hs⟩
end
end Go.Proofs.YtcebfkdhicbmkaaDoor
/-
  Queues of texts, as parts of a function's own memory.
-/
namespace Go.Proofs.YtcebfkdhicbmkaaDoor
open Go.RowKit
set_option linter.unusedVariables false
set_option linter.unusedSimpArgs false
def QueW(g off cap:Nat)(xs:List ByteArray)(w:World):Prop:=xs.length≤cap∧cap≤maxLen∧ ∃ cs t,Own g cs t w∧off+cap≤cs.length∧ ∀ i (h:i<xs.length),cs[off+i]?=some (.string xs[i])
def que(g off cap:Nat)(xs:List ByteArray):Ent:=⟨some g,fun _ w=>QueW g off cap xs w⟩
theorem que_firm(g off cap:Nat)(xs:List ByteArray):(que g off cap xs).firm:=fun F G w w' _ _ hz hlt h=>by
 obtain⟨h1,h2,cs,t,h3,h4⟩:=h
 exact⟨h1,h2,cs,t,(hz g rfl (hlt g rfl)).trans h3,h4⟩
theorem laid_one(cs:List Value)(o:Nat)(v:Value)(h:o<cs.length):laid cs o [v]=cs.set o v:=by
 unfold laid
 rw[List.set_eq_take_append_cons_drop,if_pos h]
 simp
section
variable {P:Program} {o:Oper} {a:Act} {Q:Exit→Act→World→Prop} {K:Act→World→Prop}
variable {At:PS→World→Prop} {b:Nat} {u w:World} {s:PS} {L:List Ent}
theorem Mem.asQue{q:Nat}{s1:ByteArray}{t:TypeId}(M:Mem At b u w s (own q [.string s1] t::L)):Mem At b u w s (que q 0 1 [s1]::L):=
 M.turn _ (que_firm _ _ _ _) (fun z hz=>hz) (fun F G _ _ h=>⟨Nat.le_refl _,by decide,_,_,h,Nat.le_refl _,fun i hi=>by
  have e:i=0:=by simpa using hi
  subst e
  rfl⟩)
theorem Mem.quePop{i g off cap:Nat}{x:ByteArray}{xs:List ByteArray}(M:Mem At b u w s L)(hi:L[i]?=some (que g off cap (x::xs))):Mem At b u w s (L.set i (que g (off+1) (cap - 1) xs)):=
 M.alter _ hi (que_firm _ _ _ _) (fun z hz=>hz) (fun F G _ _ h=>by
  obtain⟨h1,h2,cs,t,h3,h4,h5⟩:=h
  simp only[List.length_cons]at h1
  refine⟨by omega,by omega,cs,t,h3,by omega,fun j hj=>?_⟩
  have:=h5 (j+1) (by simp;omega)
  rw[Nat.add_assoc,Nat.add_comm 1 j]
  simpa using this)
theorem Mem.queHead{i g off cap:Nat}{x:ByteArray}{xs:List ByteArray}(M:Mem At b u w s L)(hi:L[i]?=some (que g off cap (x::xs))):w.cell? ⟨g,off,none⟩=some (.string x):=by
 have h:QueW g off cap (x::xs) w:=M.say _ (Mem.of_get hi)
 obtain⟨-, -,cs,t,h3, -,h5⟩:=h
 rw[h3.cell]
 exact h5 0 (by simp)
theorem Mem.queLe{i g off cap:Nat}{xs:List ByteArray}(M:Mem At b u w s L)(hi:L[i]?=some (que g off cap xs)):xs.length≤cap∧cap≤maxLen:=by
 have h:QueW g off cap xs w:=M.say _ (Mem.of_get hi)
 exact⟨h.1,h.2.1⟩
theorem op_quePush(M:Mem At b u w s L){t e:Nat}(hT:RowT P t e 1)(sl x:Operand)(ho:o.op= .call {callee:= .builtin .append,args:= #[sl,x],argTypes:= #[t,t]})(hty:o.type=t)
  {g off cap n i q:Nat}{xs:List ByteArray}{y:ByteArray}{te:TypeId}(hs:a.eval sl= .slice (some ⟨g,off,none⟩) n cap)(hn:n=xs.length)(hx:a.eval x= .slice (some ⟨q,0,none⟩) 1 1)(hi:L[i]?=some (que g off cap xs))(hq:own q [.string y] te∈L)(hsm:xs.length≤1000001)
  (h: ∀ g' off' cap' w',Mem At b u w' s (L.set i (que g' off' cap' (xs++[y])))→K (a.put o.dst (.slice (some ⟨g',off',none⟩) (n+1) cap')) w'):o.wp P a w K Q:=by
 subst hn
 obtain⟨g1,ti,z,g2,g3,g4,g5,g6,g7,g8,g9⟩:=hT.open
 have hQ:QueW g off cap xs w:=M.say _ (Mem.of_get hi)
 obtain⟨h1,h2,cs,t0,h3,h4,h5⟩:=hQ
 have hO:=M.own_ hq
 have hlow:=M.low _ (Mem.of_get hi) g rfl
 have hbl:b<w.heap.size:=Nat.lt_of_lt_of_le M.lt M.size
 have hgb:g≠b:=by have:=M.lt;omega
 by_cases hr:xs.length+1≤cap
 ·have hrun:=run_append_room_cells (P:=P) w t t e ti g1 g2 g off xs.length cap ⟨q,0,none⟩ 1 1 [.string y] (by rw[g4];rfl) (fun j c hj=>by rw[Go.WideShapes.add_plain,Nat.zero_add,hO.cell];exact hj) (fun c hc=>by rw[List.mem_singleton.1 hc];rfl) hr
   (fun j hj=>by
    have e0:j=0:=by simpa using hj
    subst e0
    rw[g4,Nat.mul_one,Nat.add_zero,h3.cell,List.getElem?_eq_getElem (by omega)];rfl)
   (fun j hj=>h3.frozen _)
  rw[g4,Nat.mul_one]at hrun
  have hput:Put g w (w.setCells g (off+xs.length) [.string y]):=Put.setCells _ _ _
  have hown:Own g (laid cs (off+xs.length) [.string y]) t0 (w.setCells g (off+xs.length) [.string y]):=Own.setCells [.string y] (off+xs.length) cs w h3 (by simp;omega)
  rw[laid_one _ _ _ (by omega)]at hown
  refine wp_append_run sl x t ho hty hs hx hrun ?_
  refine h g off cap _ (M.setAt hi (M.stay s w _ (hput.rest b (fun e=>hgb e.symm)) M.at_) (M.but.puts hput hlow.1 M.lt) (by rw[hput.size];exact Nat.le_refl _) (fun k _ _ hk2=>hput.rest k (fun e=>hk2 (by rw[e];rfl))) (que_firm _ _ _ _) (fun y hy=>?_) (fun y hy=> .inr hy) (fun G _ _=>?_))
  ·have e:g=y:=by injection hy
   subst e
   exact⟨hlow.1,by rw[hput.size];exact hlow.2⟩
  ·refine⟨by simpa using hr,h2,_,_,hown,by simpa using h4,fun j hj=>?_⟩
   rw[List.getElem?_set]
   simp only[List.length_append,List.length_cons,List.length_nil]at hj
   by_cases hjx:j=xs.length
   ·subst hjx
    rw[if_pos rfl,if_pos (by omega)]
    simp
   ·rw[if_neg (by omega),h5 j (by omega)]
    congr 2
    rw[List.getElem_append_left]
 ·obtain⟨v',w',hrun,ho',hg⟩:=run_append_arg_grows (P:=P) w t t e ti z 1 ti.bytes g1 g2 g3 g4 rfl g5 g6 ⟨g,off,none⟩ xs.length cap (xs.map .string) (by simp) (fun j c hj=>by
    rw[Go.WideShapes.add_plain,h3.cell]
    rw[List.getElem?_map]at hj
    cases hx:xs[j]? with
    |none=>rw[hx]at hj;cases hj
    |some sx=>
     rw[hx]at hj
     obtain⟨hjl,hje⟩:=List.getElem?_eq_some_iff.1 hx
     rw[h5 j hjl,hje]
     exact hj) ⟨q,0,none⟩ 1 1 [.string y] (by simp) (fun j c hj=>by rw[Go.WideShapes.add_plain,Nat.zero_add,hO.cell];exact hj) (by omega) (by unfold maxLen;omega) (Nat.le_trans (Nat.mul_le_mul_left _ g9) (by omega))
  refine wp_append_run sl x t ho hty hs hx hrun ?_
  rcases ho'.2 with⟨_,h0⟩|⟨g',cap',cur,rfl,hg',hh,hnc,hcm,hsz,htk⟩
  ·omega
  ·have hlt' :g' <w'.heap.size:=(Array.getElem?_eq_some_iff.1 hh).1
   refine h g' 0 cap' w' (M.setAt hi (M.stay s w w' (hg.block b hbl (by simp)) M.at_) (M.but.step ⟨hg.os,hg.tape,hg.output,hg.size,fun k hk=>hg.block k hk (by simp)⟩ (Nat.le_of_lt hbl)) hg.size (fun k hk _ _=>hg.block k hk (by simp)) (que_firm _ _ _ _) (fun y hy=>?_) (fun y hy=>?_) (fun G _ _=>?_))
   ·have e:g' =y:=by injection hy
    subst e
    exact⟨Nat.le_trans M.size hg',hlt'⟩
   ·have e:g' =y:=by injection hy
    subst e
    exact .inl hg'
   ·refine⟨by simpa using hnc,hcm,cur.toList,e,by unfold Own;simpa using hh,by simp;omega,fun j hj=>?_⟩
    simp only[List.length_append,List.length_cons,List.length_nil]at hj
    have hk:(cur.toList.take ((xs.length+1)*1))[j]?=(xs.map Value.string++[Value.string y])[j]?:=by rw[htk]
    rw[List.getElem?_take,if_pos (by omega)]at hk
    rw[Nat.zero_add,hk]
    by_cases hjx:j=xs.length
    ·subst hjx
     simp
    ·rw[List.getElem?_append_left (by simp;omega),List.getElem?_map,List.getElem?_eq_getElem (by omega)]
     simp only[Option.map_some]
     congr 2
     rw[List.getElem_append_left]
end
section
variable {P:Program} {dst:Option Tmp} {pos:String} {after:Array Edge} {g0:Option (Nat×Bool)} {l:List Value} {ds:List Deferred} {Q:Exit→Act→World→Prop} {K:Act→World→Prop}
variable {At:PS→World→Prop} {b:Nat} {u w:World} {s:PS} {L:List Ent} {ty j j' :Nat}
theorem q_push(M:Mem At b u w s L){e g off cap n iq q:Nat}{xs:List ByteArray}{y:ByteArray}{te:TypeId}[hT:RowI P ty e 1][hs:Nth l j (.slice (some ⟨g,off,none⟩) n cap)][hx:Nth l j' (.slice (some ⟨q,0,none⟩) 1 1)][hq:Has L q iq [.string y] te](i:Nat)(hi:L[i]?=some (que g off cap xs))(hn:n=xs.length)(hsm:xs.length≤1000001)
  {F:Nat→Nat→Nat→List Value}[hd: ∀ g' off' cap',PutI l dst (.slice (some ⟨g',off',none⟩) (n+1) cap') (F g' off' cap')](h: ∀ g' off' cap' w',Mem At b u w' s (L.set i (que g' off' cap' (xs++[y])))→K ⟨(F g' off' cap').toArray,ds⟩ w'):
  OWP P ⟨dst,.call {callee:= .builtin .append,args:= #[.tmp j,.tmp j'],argTypes:= #[ty,ty]},ty,pos,after,g0⟩ ⟨l.toArray,ds⟩ w K Q:=
 owp_of (op_quePush M hT.row _ _ rfl rfl (eval_tmp hs.nth) hn (eval_tmp hx.nth) hi (Mem.of_get hq.at_) hsm (fun g' off' cap' w' M' =>by rw[(hd g' off' cap').put];exact h g' off' cap' w' M'))
end
end Go.Proofs.YtcebfkdhicbmkaaDoor
/-
  The walks of the program's Check, twelfth part: of what types events come. Printed by pgm.py.
-/
namespace Go.Proofs.YtcebfkdhicbmkaaDoor
open Go.RowKit
set_option linter.unusedVariables false
set_option linter.unusedSimpArgs false
section
variable {g:Nat} {F:Nat→Prop} {w0:World} {a2:Option Addr} {n2 c2:Nat} {rs:List Rul}
theorem idx_zero{gq oq n cq:Nat}(hn:0<n): ∀ wx,(Instr.indexAt 60 (.slice (some ⟨gq,oq,none⟩) n cq) (.int .i64 0)).run Tryd.prog wx= .ok (.pointer (some ⟨gq,oq,none⟩)) wx:=fun wx=>by
 have hs:SizeIs Tryd.prog 9 1:=fun w=>by kernel_rfl
 have hsw:=hs wx
 simp[Instr.indexAt,run_underlying Tryd.underlying60,asIntOf,hsw,Addr.add]
 omega
theorem Mem.quePop0{At:PS→World→Prop}{b:Nat}{u w:World}{s:PS}{L:List Ent}{gq oq:Nat}{x:ByteArray}(M:Mem At b u w s (que gq oq 1 [x]::L)):Mem At b u w s (que gq oq (1 - 1) []::L):=
 M.turn _ (que_firm _ _ _ _) (fun z hz=>hz) (fun F G _ _ h=>by
  obtain⟨h1,h2,cs,t,h3,h4,h5⟩:=h
  exact⟨Nat.le_refl _,by decide,cs,t,h3,by omega,fun j hj=>absurd hj (Nat.not_lt_zero j)⟩)
def ReachPost(rs:List Rul)(fr:ByteArray)(w:World):Ending→World→Prop:=fun e w' =>
 ∃ zm m f,e= .returned (.map (some zm))∧Below w.heap.size w w' ∧MapOf Tryd.prog 9 w' zm m f∧ ∀ s,f s=if comesB rs rs.length s fr=true then some (.bool true)else none
set_option maxRecDepth 8000 in
set_option maxHeartbeats 8000000 in
theorem reach_any(hg:g<w0.heap.size)(fr:ByteArray)(zb:Nat)(hz:zb<w0.heap.size)(h1:w0.cell? ⟨zb,1,none⟩=some (.slice a2 n2 c2))(X2:SlF F w0 7 rulF a2 n2 c2 rs)(hes: ∀ x∈rs,x.etype.size≤maxLen)(hn:rs.length≤1000000):Calls Tryd.prog 39 #[.string fr,.pointer (some ⟨zb,0,none⟩)] w0 (ReachPost rs fr w0):=by
 have M:=Mem.begin hg ⟨0,0⟩
 have N2:=Lib.hid X2.len
 have hle2:=X2.le
 have HB1:Hid (∀ wx,Below w0.heap.size w0 wx→wx.cell? ⟨zb,1,none⟩=some (.slice a2 n2 c2)):=fun wx hb=>by rw[(bcell hb).1 _ _ hz];exact h1
 have HX:=Lib.hid X2
 have HES:=Lib.hid hes
 have HG:=Lib.hid hg
 replace hn:=Lib.hid hn
 clear hg hz h1 X2 hes
 go_enter Tryd.func39,Tryd.ntmps39
 go_wp2_with (with_reducible (first|(refine w_ (q_map (t:=97) M ?_);clear M;intro zm w M)|(refine w_ (q_row1 M ?_);clear M;intro q w M;replace M:=M.asQue)))
 go_loopg [5] (1+rs.length) (fun fu v wr=> ∃ (gq oq cq n:Nat) (xs seen:List ByteArray) (m:Nat) (ft:MapF),v= .slice (some ⟨gq,oq,none⟩) n cq∧Hid (n=xs.length)∧Mem (StaysB g w0) g w0 wr ⟨0,0⟩ (que gq oq cq xs::mp Tryd.prog 9 zm m ft::[])∧Hid (m≤seen.length)∧Hid (TakF ft seen)∧Hid (Srch rs fr seen xs none)∧Hid (xs.length+unseen rs seen≤fu))
 case atStart=>exact⟨_,_,_,1,[fr],[],0,noneF,rfl,Lib.hid rfl,M,Lib.hid (Nat.le_refl _),takF_none,srch_start fr,(srch_start fr).small⟩
 case round=>
  clear M
  obtain⟨gq,oq,cq,n,xs,seen,m,ft,rfl,HN,M,HM,HT,HS,HF⟩:=hrel
  cases xs with
  |nil=>
   have hn0:n=0:=HN.out
   subst hn0
   have HV:Hid (∀ s,ft s=if comesB rs rs.length s fr=true then some (.bool true)else none):=fun s=>by rw[HT.out s,HS.out.ends s]
   clear HN HT HS HF
   go_wp2_with (with_reducible (first|refine wq M ?_|(refine wS M ?_;clear M;intro w M)|(refine wV M ?_;clear M;intro z w M)|(refine wR M ?_;clear M;intro q w M)))
   go_ret
   exact⟨zm,m,ft,rfl,M.new,M.map_ (i:=1) rfl,HV.out⟩
  |cons x xs=>
   have hn1:n=xs.length+1:=HN.out
   have hcq:=M.queLe (i:=0) rfl
   have hc1:xs.length+1≤cq:=hcq.1
   have hix:=idx_zero (gq:=gq) (oq:=oq) (n:=n) (cq:=cq) (by omega)
   have hnp:decide ((0:Int)<n)=true:=by simp;omega
   have HS2:=Lib.hid HS.out.pop
   obtain⟨f0,hf0⟩: ∃ f0,f0=gk - 1:=⟨_,rfl⟩
   have HF2:Hid (xs.length+unseen rs seen≤f0):=by have:=HF.out;simp only[List.length_cons]at this;show _≤_;omega
   have hgk:1≤gk:=by have:=HF.out;simp only[List.length_cons]at this;omega
   have hlo:1≤n:=by omega
   have hhi:n≤cq:=by omega
   have hxl:Hid (cq=1→xs=[]):=fun h=>List.eq_nil_of_length_eq_zero (by omega)
   have HN1:Hid (n - 1=xs.length):=by show _=_;omega
   replace hn1:=Lib.hid hn1
   clear HS HF hcq hc1
   go_upto_region 5 with(with_reducible (refine wC (M.queHead (i:=0) rfl) ?_))
   go_cut [5] (fun v wx=> ∃ oq',v= .slice (some ⟨gq,oq',none⟩) (n - 1) (cq - 1)∧Mem (StaysB g w0) g w0 wx ⟨0,0⟩ (que gq oq' (cq - 1) xs::mp Tryd.prog 9 zm m ft::[]))
   case first=>
    by_cases hq1:cq=1
    ·have hx0:=hxl.out hq1
     subst hq1
     subst hx0
     go_wp2_with fail
     go_meet
     case rel=>exact⟨oq,by(have e:n=1:=hn1.out;rw[e]),M.quePop0⟩
    ·have hq2: ¬ cq - 1=0:=by omega
     go_wp2_with fail
     go_meet
     case rel=>exact⟨oq+1,rfl,M.quePop (i:=0) rfl⟩
   case rest=>
   clear M
   obtain⟨oq',rfl,M⟩:=hcut
   clear hix
   go_wp2_with (with_reducible refine wC (HB1.out _ M.new) ?_)
   have HSM:Hid (xs.length+unseen rs seen≤f0):=HF2
   go_loopg [5,24] n2 (fun fu v i wr=> ∃ (j gq oq cq n:Nat) (xs seen:List ByteArray) (m:Nat) (ft:MapF),j+fu=n2∧v= .slice (some ⟨gq,oq,none⟩) n cq∧i= .int .i64 j∧Hid (n=xs.length)∧Mem (StaysB g w0) g w0 wr ⟨0,0⟩ (que gq oq cq xs::mp Tryd.prog 9 zm m ft::[])∧Hid (m≤seen.length)∧Hid (TakF ft seen)∧Hid (Srch rs fr seen xs (some (x,j)))∧Hid (xs.length+unseen rs seen≤f0))
   case atStart=>exact⟨0,gq,oq',cq - 1,n - 1,xs,seen,m,ft,by omega,rfl,rfl,HN1,M,HM,HT,HS2,HF2⟩
   case round=>
    clear M HN HN1 HM HT HS2 HF2 HSM hxl hn1 hnp
    clear hlo hhi
    clear seen ft
    obtain⟨j,gq,oq,cq,n,xs,seen,m,ft,hj,rfl,rfl,HN,M,HM,HT,HS,HF⟩:=hrel
    by_cases hlt:j<n2
    ·have hkl:j<rs.length:=by have:=N2.out;omega
     obtain⟨cr,or,rowr,hixr, -,hrrr,hwr⟩:=SlF.rowAt (P:=Tryd.prog) HX.out rulF_firm Tryd.underlying23 size_rul (i:=j) hkl
     have hes:Hid (rs[j].etype.size≤maxLen):=HES.out _ (List.getElem_mem hkl)
     have HU:Hid (∀ wx,Below w0.heap.size w0 wx→Calls Tryd.prog 40 #[.agg rowr.toArray,.string x] wx fun e w' =>e= .returned (.bool (speaks rs[j] x))∧Below wx.heap.size wx w'):=fun wx hb=>
      uses_any (Nat.lt_of_lt_of_le HG.out hb.size) rs[j] rowr (rulF_firm _ _ _ _ _ _ (Same.below hb) hrrr) x
     obtain⟨b1,m1,e1,b2,m2,e2,b3,m3,e3,b4,m4,e4,b6,m6,e6,rfl, -⟩:=hrrr
     have HR:=Lib.hid (fun wx hb=>(hwr wx hb).1)
     have HPS:=Lib.hid (HS.out.pass hkl)
     have HAD:=Lib.hid (HS.out.add hkl)
     have hsm:Hid (xs.length≤1000001):=by have:=HS.out.small;have:=hn.out;show _≤_;omega
     have hmm:Hid (m<maxLen):=by have:=HM.out;have:=HS.out.few;have:=hn.out;show _<_;unfold maxLen;omega
     have hcnt:Hid (inS seen rs[j].etype=false→unseen rs (seen++[rs[j].etype])+1≤unseen rs seen):=unseen_snoc (List.getElem_mem hkl)
     have HLB0:Hid ((ft rs[j].etype).getD (.bool false)= .bool (inS seen rs[j].etype)):=by show _=_;rw[HT.out];cases inS seen rs[j].etype<;>rfl
     clear hwr HS
     generalize rs[j]=y at HU HR HPS HAD hes HLB0 hcnt
     clear hkl
     unfold rulC at HR HU
     cases h1:emS y.etype with
     |true=>
      have he0:y.etype.toList=[]:=by simpa[emS]using h1
      have HSN:=Lib.hid (HPS.out (fun h=>absurd (h1.symm.trans h) (by decide)))
      clear HPS HAD h1
      go_wp2_with (with_reducible (first|(refine wV M ?_;clear M;intro zx w M)|refine wq M ?_|(refine wS M ?_;clear M;intro w M)|refine wA (HR.out _ M.new) ?_))
      go_roundg (n2 - (j+1))
      case measure=>omega
      case rel=>exact⟨j+1,_,_,_,_,_,_,_,_,by omega,rfl,by go_num,HN,M.drop,HM,HT,HSN,HF⟩
     |false=>
      have he0:y.etype.toList.isEmpty=false:=h1
      cases h2:inS seen y.etype with
      |true=>
       have HLB:=HLB0
       rw[h2]at HLB
       have HSN:=Lib.hid (HPS.out (fun _ _=>h2))
       clear HPS HAD h1 h2 HLB0
       go_wp2_with (first|(with_reducible (first|(refine wV M ?_;clear M;intro zx w M)|refine wq M ?_|(refine wS M ?_;clear M;intro w M)|refine wA (HR.out _ M.new) ?_))|((with_reducible refine o_listg fun K hK=>?_);refine q_lookb (M.map_ (i:=2) rfl) hes.out HLB.out ?_;refine hK _ _ ?_;clear hK K))
       go_roundg (n2 - (j+1))
       case measure=>omega
       case rel=>exact⟨j+1,_,_,_,_,_,_,_,_,by omega,rfl,by go_num,HN,M.drop,HM,HT,HSN,HF⟩
      |false=>
       have HLB:=HLB0
       rw[h2]at HLB
       cases h3:speaks y x with
       |false=>
        rw[h3]at HU
        have HSN:=Lib.hid (HPS.out (fun _ h=>absurd (h3.symm.trans h) (by decide)))
        clear HPS HAD h1 h2 h3 HLB0
        go_wp2_with (first|(with_reducible (first|(refine wV M ?_;clear M;intro zx w M)|refine wq M ?_|(refine wS M ?_;clear M;intro w M)|refine wA (HR.out _ M.new) ?_))|((with_reducible refine o_listg fun K hK=>?_);refine q_lookb (M.map_ (i:=2) rfl) hes.out HLB.out ?_;refine hK _ _ ?_;clear hK K)|(go_at_call 40;with_reducible refine(HU.out _ M.new).mono ?_;rintro e w5 ⟨rfl,hb5⟩;replace M:=M.below hb5;clear hb5))
        go_roundg (n2 - (j+1))
        case measure=>omega
        case rel=>exact⟨j+1,_,_,_,_,_,_,_,_,by omega,rfl,by go_num,HN,M.drop,HM,HT,HSN,HF⟩
       |true=>
        rw[h3]at HU
        have HSN:=Lib.hid (HAD.out h1 h2 h3)
        have HFN:Hid ((xs++[y.etype]).length+unseen rs (seen++[y.etype])≤f0):=by have:=HF.out;have:=hcnt.out h2;show _≤_;simp only[List.length_append,List.length_cons,List.length_nil];omega
        have HMN:Hid (m+1≤(seen++[y.etype]).length):=by have:=HM.out;show _≤_;simp only[List.length_append,List.length_cons,List.length_nil];omega
        have HTN:=Lib.hid (HT.out.snoc y.etype)
        have HNN:Hid (n+1=(xs++[y.etype]).length):=by have:=HN.out;show _=_;simp only[List.length_append,List.length_cons,List.length_nil];omega
        clear HPS HAD h1 h2 h3 HLB0
        go_wp2_with (first|(with_reducible (first|(refine wV M ?_;clear M;intro zx w M)|(refine w_ (q_row1 M ?_);clear M;intro q w M)|refine wq M ?_|(refine wS M ?_;clear M;intro w M)|refine wA (HR.out _ M.new) ?_|(refine w_ (q_mset (v:= .bool true) rfl (M.map_ (i:=2) rfl) hmm.out hes.out ?_);intro wu hou hbu;replace M:=M.remap (i:=2) rfl hbu hou;clear hou hbu;(simp only[List.set_cons_zero,List.set_cons_succ]at M))|(refine w_ (q_push M 2 rfl HN.out hsm.out ?_);clear M;intro gq2 oq2 cq2 w M;(simp only[List.set_cons_zero,List.set_cons_succ]at M))))|((with_reducible refine o_listg fun K hK=>?_);refine q_lookb (M.map_ (i:=2) rfl) hes.out HLB.out ?_;refine hK _ _ ?_;clear hK K)|(go_at_call 40;with_reducible refine(HU.out _ M.new).mono ?_;rintro e w5 ⟨rfl,hb5⟩;replace M:=M.below hb5;clear hb5))
        go_roundg (n2 - (j+1))
        case measure=>omega
        case rel=>exact⟨j+1,_,_,_,_,_,_,_,_,by omega,rfl,by go_num,HNN,M.drop.drop,HMN,HTN,HSN,HFN⟩
    ·have hjn:j=rs.length:=by have:=N2.out;omega
     have HSN:Hid (Srch rs fr seen xs none):=by
      have h:=HS.out
      rw[hjn]at h
      exact h.next
     clear HS
     go_wp2_with (with_reducible (first|refine wq M ?_|(refine wS M ?_;clear M;intro w M)|(refine wV M ?_;clear M;intro z w M)|(refine wR M ?_;clear M;intro q w M)))
     go_roundg f0
     case measure=>omega
     case rel=>exact⟨_,_,_,_,_,_,_,_,rfl,HN,M,HM,HT,HSN,HF⟩
end
end Go.Proofs.YtcebfkdhicbmkaaDoor
/-
  The walks of the program's Check, thirteenth part: books that never end. Printed by pgn.py.
-/
namespace Go.Proofs.YtcebfkdhicbmkaaDoor
open Go.RowKit
set_option linter.unusedVariables false
set_option linter.unusedSimpArgs false
theorem oneG:OneT Tryd.prog 104:=⟨by kernel_rfl,_,Tryd.underlying104,rfl⟩
instance :OneI Tryd.prog 104:=⟨oneG⟩
theorem zG:(Tryd.prog.info? 104).map (·.zero)=some (some .nilFunc):=by kernel_rfl
theorem look_of{f:MapF}{c:ByteArray→Bool}(h: ∀ s,f s=if c s=true then some (.bool true)else none)(s:ByteArray):(f s).getD (.bool false)= .bool (c s):=by
 rw[h];cases c s<;>rfl
section
variable {At:PS→World→Prop} {b:Nat} {u w:World} {s:PS} {L:List Ent}
theorem Mem.cell1{i z:Nat}{c0 c:Value}{cs:List Value}{t:TypeId}(M:Mem At b u w s L)(hi:L[i]?=some (own z (c0::c::cs) t)):w.cell? ⟨z,1,none⟩=some c:=by
 rw[(M.own_ (Mem.of_get hi)).cell];rfl
end
section
variable {g:Nat} {F G:Nat→Prop} {ao:Option Addr} {n cap:Nat} {w0:World} {a2:Option Addr} {n2 c2:Nat} {rs:List Rul}
set_option maxRecDepth 8000 in
set_option maxHeartbeats 8000000 in
theorem ends_any(hg:g<w0.heap.size)(t:Typ)(so:Option Addr)(sn sc:Nat)(hnm:t.name.size≤maxLen)(zf zb:Nat)(hzf:zf<w0.heap.size)(hzb:zb<w0.heap.size)(hf:w0.cell? ⟨zf,0,none⟩=some (.func (Fn.func 39) #[] #[.pointer (some ⟨zb,0,none⟩)]))(h1:w0.cell? ⟨zb,1,none⟩=some (.slice a2 n2 c2))(X2:SlF F w0 7 rulF a2 n2 c2 rs)(hes: ∀ x∈rs,x.etype.size≤maxLen)(hn:rs.length≤1000000):
  Calls Tryd.prog 42 #[.agg (typC t so sn sc).toArray,.pointer (some ⟨zf,0,none⟩)] w0 fun e w' =>e= .returned (.bool (comesB rs rs.length t.name t.name))∧Below w0.heap.size w0 w' :=by
 have M:=Mem.begin hg ⟨0,0⟩
 have HF0:Hid (∀ wx,Below w0.heap.size w0 wx→wx.cell? ⟨zf,0,none⟩=some (.func (Fn.func 39) #[] #[.pointer (some ⟨zb,0,none⟩)])):=fun wx hb=>by rw[(bcell hb).1 _ _ hzf];exact hf
 have HRC:Hid (∀ wx,Below w0.heap.size w0 wx→Calls Tryd.prog 39 #[.string t.name,.pointer (some ⟨zb,0,none⟩)] wx (ReachPost rs t.name wx)):=fun wx hb=>
  reach_any (Nat.lt_of_lt_of_le hg hb.size) t.name zb (Nat.lt_of_lt_of_le hzb hb.size) (by rw[(bcell hb).1 _ _ hzb];exact h1) (X2.below rulF_firm hb) hes hn
 replace hnm:=Lib.hid hnm
 unfold typC
 generalize t.name=nm at HRC hnm ⊢
 clear hg hzf hzb hf h1 X2 hes hn
 go_enter Tryd.func42,Tryd.ntmps42
 go_wp2_with (with_reducible (refine wB (L:=[]) M ?_;clear M;intro za w1 M))
 (refine wp_region_any (by kernel_rfl) ?_;(try(change wpAny _ _ _ _ _ _ _ (World.drew _)));replace M:=M.drew;generalize World.drew _=w at M ⊢;have S:=St.o;((refine tk 1 (v:=?_) rfl (by kernel_rfl) rfl ?_ ?_;rotate_left;focus(intro w;go_simp;try with_reducible rfl));(try go_simp);(refine tk 4 (v:=?_) rfl (by kernel_rfl) rfl ?_ ?_;rotate_left;focus(intro w;go_simp;try with_reducible rfl));(try go_simp);replace S:=S.add 18;refine rd3 0 2 5 (by kernel_rfl) rfl rfl ?_ rfl rfl ?_ rfl rfl ?_<;>intro K hK);all_goals(first|(refine o_dst (some 4) ?_;(refine q_cellat (HF0.out _ M.new) ?_);(all_goals(refine hK _ _ ?_;clear hK K;replace S:=S.add 1)))|(refine o_dst (some 6) ?_;(refine q_get M (by exact rfl) ?_);(all_goals(refine hK _ _ ?_;clear hK K;replace S:=S.add 4)))|(refine o_dst (some 9) ?_;(refine q_get M (by exact rfl) ?_);(all_goals(refine hK _ _ ?_;clear hK K;replace S:=S.add 32))));all_goals(first|(replace S:St 19:=S;refine rd2 2 5 (by kernel_rfl) rfl rfl ?_ rfl rfl ?_<;>intro K hK)|(replace S:St 22:=S;refine rd2 0 5 (by kernel_rfl) rfl rfl ?_ rfl rfl ?_<;>intro K hK)|(replace S:St 50:=S;refine rd2 0 2 (by kernel_rfl) rfl rfl ?_ rfl rfl ?_<;>intro K hK));all_goals(first|(refine o_dst (some 6) ?_;(refine q_get M (by exact rfl) ?_);(all_goals(refine hK _ _ ?_;clear hK K;replace S:=S.add 4)))|(refine o_dst (some 9) ?_;(refine q_get M (by exact rfl) ?_);(all_goals(refine hK _ _ ?_;clear hK K;replace S:=S.add 32)))|(refine o_dst (some 4) ?_;(refine q_cellat (HF0.out _ M.new) ?_);(all_goals(refine hK _ _ ?_;clear hK K;replace S:=S.add 1))));all_goals(first|(replace S:St 23:=S;refine rd2 3 5 (by kernel_rfl) rfl rfl ?_ rfl rfl ?_<;>intro K hK)|(replace S:St 51:=S;refine rd1 2 (by kernel_rfl) rfl rfl ?_<;>intro K hK)|(replace S:St 54:=S;refine rd1 0 (by kernel_rfl) rfl rfl ?_<;>intro K hK));all_goals(first|(refine o_dst (some 7) ?_;(refine owp_of ?_;go_simp;(go_at_call 39;with_reducible refine(HRC.out _ M.new).mono ?_;rintro e w5 hh;unfold ReachPost at hh;obtain⟨zm,mm,ff,he,hb5,hmo,hff⟩:=hh;subst he;replace M:=M.below hb5;clear hb5;have HMO:=Lib.hid hmo;have HLB:=Lib.hid (look_of hff nm);clear hmo hff);(try go_simp));(all_goals(refine hK _ _ ?_;clear hK K;replace S:=S.add 8)))|(refine o_dst (some 9) ?_;(refine q_get M (by exact rfl) ?_);(all_goals(refine hK _ _ ?_;clear hK K;replace S:=S.add 32)))|(refine o_dst (some 6) ?_;(refine q_get M (by exact rfl) ?_);(all_goals(refine hK _ _ ?_;clear hK K;replace S:=S.add 4)))|(refine o_dst (some 4) ?_;(refine q_cellat (HF0.out _ M.new) ?_);(all_goals(refine hK _ _ ?_;clear hK K;replace S:=S.add 1))));all_goals(first|(replace S:St 31:=S;refine rd1 5 (by kernel_rfl) rfl rfl ?_<;>intro K hK)|(replace S:St 55:=S;refine rd1 3 (by kernel_rfl) rfl rfl ?_<;>intro K hK));all_goals(first|(refine o_dst (some 9) ?_;(refine q_get M (by exact rfl) ?_);(all_goals(refine hK _ _ ?_;clear hK K;replace S:=S.add 32)))|(refine o_dst (some 7) ?_;(refine owp_of ?_;go_simp;(go_at_call 39;with_reducible refine(HRC.out _ M.new).mono ?_;rintro e w5 hh;unfold ReachPost at hh;obtain⟨zm,mm,ff,he,hb5,hmo,hff⟩:=hh;subst he;replace M:=M.below hb5;clear hb5;have HMO:=Lib.hid hmo;have HLB:=Lib.hid (look_of hff nm);clear hmo hff);(try go_simp));(all_goals(refine hK _ _ ?_;clear hK K;replace S:=S.add 8))));all_goals(refine rd1 6 (by kernel_rfl) rfl rfl ?_<;>intro K hK);all_goals(refine o_dst (some 10) ?_;(refine q_lookb HMO.out hnm.out HLB.out ?_);(all_goals(refine hK _ _ ?_;clear hK K;replace S:=S.add 64)));all_goals(clear S;((refine tk 7 (v:=?_) rfl (by kernel_rfl) rfl ?_ ?_;rotate_left;focus(intro w;go_simp;try with_reducible rfl));(try go_simp);refine wpAny_done (by kernel_rfl) ?_ _)))
 all_goals go_wp2
 all_goals go_ret
 all_goals exact⟨rfl,M.new⟩
set_option maxRecDepth 8000 in
set_option maxHeartbeats 4000000 in
theorem ixTyp_any(hg:g<w0.heap.size){l:List Typ}(hX:SlF F w0 2 typF ao n cap l)(pr:Typ→Bool)(z:Nat)(HC0: ∀ p∈l,∀ so sn sc wx,Below w0.heap.size w0 wx→Calls Tryd.prog 42 #[.agg (typC p so sn sc).toArray,.pointer (some ⟨z,0,none⟩)] wx fun e w' =>e= .returned (.bool (pr p))∧Below wx.heap.size wx w'):
  Calls Tryd.prog 67 #[.slice ao n cap,.func (Fn.func 42) #[] #[.pointer (some ⟨z,0,none⟩)]] w0 fun e w' =>e= .returned (.int .i64 (placeV (l.findIdx pr) l.length))∧Below w0.heap.size w0 w' :=by
 have NL:=Lib.hid hX.len
 have hle:=hX.le
 have M:=Mem.begin hg ⟨0,0⟩
 have HX:=Lib.hid hX
 have HC0:=Lib.hid HC0
 clear hX hg
 go_enter Tryd.func67,Tryd.ntmps67
 go_wp2_with (with_reducible (first|refine wq M ?_|(refine wS M ?_;clear M;intro w M)|(refine wV M ?_;clear M;intro z w M)|(refine wR M ?_;clear M;intro q w M)))
 go_loopg [8] n (fun f i wr=> ∃ k:Nat,k+f=n∧i= .int .i64 k∧Mem (StaysB g w0) g w0 wr ⟨0,0⟩ []∧Hid (NoB l pr k))
 case atStart=>exact⟨0,by omega,rfl,M,noB_zero _ _⟩
 case round=>
  clear M
  obtain⟨k,hk,rfl,M,HB⟩:=hrel
  by_cases hlt:k<n
  ·have hkl:k<l.length:=by have:=NL.out;omega
   obtain⟨ca,oa,rowa,hixa, -,hrra,hwa⟩:=SlF.rowAt (P:=Tryd.prog) HX.out typF_firm Tryd.underlying22 size_typ (i:=k) hkl
   have HC1:=Lib.hid (HC0.out l[k] (List.getElem_mem hkl))
   have HS:Hid (pr l[k]=true→placeV (l.findIdx pr) l.length=k):=fun h=>place_at HB.out hkl h
   have HT:Hid (pr l[k]=false→NoB l pr (k+1)):=fun h=>noB_succ HB.out hkl h
   obtain⟨p1,q1,s1,ea,u1⟩:=hrra
   subst ea
   have HC:=Lib.hid (HC1.out p1 q1 s1)
   clear HC1
   have HR:=Lib.hid (fun wx hb=>(hwa wx hb).1)
   clear hwa u1 HB
   unfold typC at HR HC
   generalize l[k]=p at HR HC HS HT
   cases hsm:pr p with
   |true=>
    have HV:=Lib.hid (HS.out hsm)
    rw[hsm]at HC
    clear HS HT hsm
    go_wp2_with (first|(with_reducible refine wA (HR.out _ M.new) ?_)|(go_at_call 42;with_reducible refine(HC.out _ M.new).mono ?_;rintro e w5 ⟨rfl,hb5⟩;replace M:=M.below hb5;clear hb5))
    go_ret
    rw[HV.out]
    exact⟨rfl,M.new⟩
   |false=>
    have HV:=Lib.hid (HT.out hsm)
    rw[hsm]at HC
    clear HS HT hsm
    go_wp2_with (first|(with_reducible refine wA (HR.out _ M.new) ?_)|(go_at_call 42;with_reducible refine(HC.out _ M.new).mono ?_;rintro e w5 ⟨rfl,hb5⟩;replace M:=M.below hb5;clear hb5))
    go_roundg (n - (k+1))
    case measure=>omega
    case rel=>exact⟨k+1,by omega,by go_num,M,HV⟩
  ·have HV:Hid (placeV (l.findIdx pr) l.length= -1):=by
    have e:k=l.length:=by have:=NL.out;omega
    exact place_none (e▸HB.out)
   go_wp2_with (with_reducible (first|refine wq M ?_|(refine wS M ?_;clear M;intro w M)|(refine wV M ?_;clear M;intro z w M)|(refine wR M ?_;clear M;intro q w M)))
   go_ret
   rw[HV.out]
   exact⟨rfl,M.new⟩
set_option maxRecDepth 8000 in
set_option maxHeartbeats 4000000 in
theorem conTyp_any(hg:g<w0.heap.size){l:List Typ}(hX:SlF F w0 2 typF ao n cap l)(pr:Typ→Bool)(z:Nat)(HC0: ∀ p∈l,∀ so sn sc wx,Below w0.heap.size w0 wx→Calls Tryd.prog 42 #[.agg (typC p so sn sc).toArray,.pointer (some ⟨z,0,none⟩)] wx fun e w' =>e= .returned (.bool (pr p))∧Below wx.heap.size wx w'):
  Calls Tryd.prog 41 #[.slice ao n cap,.func (Fn.func 42) #[] #[.pointer (some ⟨z,0,none⟩)]] w0 fun e w' =>e= .returned (.bool (l.any pr))∧Below w0.heap.size w0 w' :=by
 have M:=Mem.begin hg ⟨0,0⟩
 have HI:Hid (∀ wx,Below w0.heap.size w0 wx→Calls Tryd.prog 67 #[.slice ao n cap,.func (Fn.func 42) #[] #[.pointer (some ⟨z,0,none⟩)]] wx fun e w' =>e= .returned (.int .i64 (placeV (l.findIdx pr) l.length))∧Below wx.heap.size wx w'):=fun wx hb=>
  ixTyp_any (Nat.lt_of_lt_of_le hg hb.size) (hX.below typF_firm hb) pr z (fun p hp so sn sc wy hby=>HC0 p hp so sn sc wy (hb.trans (hby.mono hb.size)))
 have hge:decide ((0:Int)≤placeV (l.findIdx pr) l.length)=decide (l.findIdx pr<l.length):=by
  unfold placeV
  by_cases h:l.findIdx pr<l.length
  ·rw[if_pos h];simp[h]
  ·rw[if_neg h];simp[h]
 have hany:l.any pr=decide (l.findIdx pr<l.length):=by rw[Bool.eq_iff_iff,decide_eq_true_iff,List.findIdx_lt_length,List.any_eq_true]
 rw[hany,←hge]
 generalize placeV (l.findIdx pr) l.length=v at HI ⊢
 clear hg hX HC0 hge hany
 go_enter Tryd.func41,Tryd.ntmps41
 go_wp2_with (go_at_call 67;with_reducible refine(HI.out _ M.new).mono ?_;rintro e w5 ⟨rfl,hb5⟩;replace M:=M.below hb5;clear hb5)
 go_ret
 exact⟨rfl,M.new⟩
set_option maxRecDepth 8000 in
set_option maxHeartbeats 8000000 in
theorem endless_any(hg:g<w0.heap.size)(bk:Bok)(a1:Option Addr)(n1 c1:Nat)(X1:SlF F w0 2 typF a1 n1 c1 bk.types)(X2:SlF G w0 7 rulF a2 n2 c2 bk.rules)(hts: ∀ t∈bk.types,t.name.size≤maxLen)(hes: ∀ x∈bk.rules,x.etype.size≤maxLen)(hn:bk.rules.length≤1000000):
  Calls Tryd.prog 17 #[.agg #[.slice a1 n1 c1,.slice a2 n2 c2]] w0 fun e w' =>e= .returned (.bool (endB bk))∧Below w0.heap.size w0 w' :=by
 have M:=Mem.begin hg ⟨0,0⟩
 have HE:Hid (∀ (zf zb:Nat) wx,Below w0.heap.size w0 wx→zf<wx.heap.size→zb<wx.heap.size→wx.cell? ⟨zf,0,none⟩=some (.func (Fn.func 39) #[] #[.pointer (some ⟨zb,0,none⟩)])→wx.cell? ⟨zb,1,none⟩=some (.slice a2 n2 c2)→Calls Tryd.prog 41 #[.slice a1 n1 c1,.func (Fn.func 42) #[] #[.pointer (some ⟨zf,0,none⟩)]] wx fun e w' =>e= .returned (.bool (endB bk))∧Below wx.heap.size wx w'):=fun zf zb wx hb hzf hzb hf h1=>
  conTyp_any (Nat.lt_of_lt_of_le hg hb.size) (X1.below typF_firm hb) (fun t=>comesB bk.rules bk.rules.length t.name t.name) zf (fun t ht so sn sc wy hby=>ends_any (Nat.lt_of_lt_of_le hg (Nat.le_trans hb.size hby.size)) t so sn sc (hts t ht) zf zb (Nat.lt_of_lt_of_le hzf hby.size) (Nat.lt_of_lt_of_le hzb hby.size) (by rw[(bcell hby).1 _ _ hzf];exact hf) (by rw[(bcell hby).1 _ _ hzb];exact h1) ((X2.below rulF_firm hb).below rulF_firm hby) hes hn)
 generalize endB bk=eb at HE ⊢
 clear hg X1 X2 hts hes hn
 go_enter Tryd.func17,Tryd.ntmps17
 go_wp2_with (first|(with_reducible (first|(refine wB (L:=[]) M ?_;clear M;intro za w1 M)|(refine w_ (q_varf M zG ?_);clear M;intro zf w M)|refine w_ (q_func _ ?_)|refine wq M ?_|(refine wS M ?_;clear M;intro w M)))|(go_at_call 41;with_reducible refine(HE.out zf za _ M.new (M.lt0 (i:=0) rfl) (M.lt0 (i:=1) rfl) (M.cell0 (i:=0) rfl) (M.cell1 (i:=1) rfl)).mono ?_;rintro e w5 ⟨rfl,hb5⟩;replace M:=M.below hb5;clear hb5))
 go_ret
 exact⟨rfl,M.new⟩
end
end Go.Proofs.YtcebfkdhicbmkaaDoor
/-
  The walks of the program's Check, the last part: books. Printed by pgo.py.
-/
namespace Go.Proofs.YtcebfkdhicbmkaaDoor
open Go.RowKit
set_option linter.unusedVariables false
set_option linter.unusedSimpArgs false

theorem btyp_good {b : Bok} (h : AllZ (btypE b) b.types.length) : ∀ t ∈ b.types, typE t.name t.fields = 0 := fun t ht => by
  obtain ⟨i, hi, rfl⟩ := List.mem_iff_getElem.1 ht
  have hz := h i hi
  rw [btypE_at hi] at hz
  unfold btypP at hz
  apply Classical.byContradiction
  intro hn
  rw [if_pos hn] at hz
  exact hn hz
/-- None of the fields ahead of place m has a word's name; nor has the type. -/
def okB (t : Typ) (m : Nat) : Bool := !keptB t.name && !(t.fields.take m).any (fun f => keptB f.name)
theorem okB_zero (t : Typ) : okB t 0 = !keptB t.name := by unfold okB; simp
theorem okB_succ {t : Typ} {m : Nat} (h : m < t.fields.length) : okB t (m + 1) = (okB t m && !keptB t.fields[m].name) := by
  unfold okB
  rw [List.take_add_one, List.getElem?_eq_getElem h, List.any_append]
  simp [Bool.and_assoc]
theorem okB_end (t : Typ) (m : Nat) (h : t.fields.length ≤ m) : okB t m = (!keptB t.name && !t.fields.any (fun f => keptB f.name)) := by
  unfold okB
  rw [List.take_of_length_le h]
section
variable {g : Nat} {F : Nat → Prop} {w0 : World}
set_option maxRecDepth 8000 in
set_option maxHeartbeats 16000000 in
theorem check_size (hg : g < w0.heap.size) (E : Env F w0) (hF : ∀ b, F b → b < w0.heap.size) (b : Bok) (a1 : Option Addr) (n1 c1 : Nat) (a2 : Option Addr) (n2 c2 : Nat) (X1 : SlF F w0 2 typF a1 n1 c1 b.types) (X2 : SlF F w0 7 rulF a2 n2 c2 b.rules) (hts : ∀ t ∈ b.types, typOk t) (hrs : ∀ x ∈ b.rules, RulFit x) (hes : ∀ x ∈ b.rules, x.etype.size ≤ maxLen) (h0 : 6 < b.types.length ∨ 5 < b.rules.length) : Calls Tryd.prog 7 #[.agg #[.slice a1 n1 c1, .slice a2 n2 c2]] w0 fun e w' => e = .returned (.int .i64 (bookE b)) ∧ Below w0.heap.size w0 w' := by
  have HV : Hid (bookE b = 1) := by show _ = _; unfold bookE; rw [if_pos h0]
  have M := Mem.begin hg ⟨0, 0⟩
  have N1 := X1.len
  have N2 := X2.len
  by_cases c1 : 6 < n1
  · have d1 : decide ((6 : Int) < n1) = true := by simp; omega
    clear h0 X1 X2 hts hrs hg N1 N2 E hF hes
    go_enter Tryd.func7, Tryd.ntmps7
    go_wp2_with (with_reducible (first | (refine wB (L := []) M ?_; clear M; intro za w1 M) | refine wq M ?_))
    go_ret
    rw [HV.out]
    exact ⟨rfl, M.new⟩
  · have d1 : decide ((6 : Int) < n1) = false := by simp; omega
    have d2 : decide ((5 : Int) < n2) = true := by simp; omega
    clear h0 X1 X2 hts hrs hg N1 N2 E hF hes
    go_enter Tryd.func7, Tryd.ntmps7
    go_wp2_with (with_reducible (first | (refine wB (L := []) M ?_; clear M; intro za w1 M) | refine wq M ?_))
    go_ret
    rw [HV.out]
    exact ⟨rfl, M.new⟩
set_option maxRecDepth 8000 in
set_option maxHeartbeats 16000000 in
theorem check_main (hg : g < w0.heap.size) (E : Env F w0) (hF : ∀ b, F b → b < w0.heap.size) (b : Bok) (a1 : Option Addr) (n1 c1 : Nat) (a2 : Option Addr) (n2 c2 : Nat) (X1 : SlF F w0 2 typF a1 n1 c1 b.types) (X2 : SlF F w0 7 rulF a2 n2 c2 b.rules) (hts : ∀ t ∈ b.types, typOk t) (hrs : ∀ x ∈ b.rules, RulFit x) (hes : ∀ x ∈ b.rules, x.etype.size ≤ maxLen) (h0 : ¬ (6 < b.types.length ∨ 5 < b.rules.length)) : Calls Tryd.prog 7 #[.agg #[.slice a1 n1 c1, .slice a2 n2 c2]] w0 fun e w' => e = .returned (.int .i64 (bookE b)) ∧ Below w0.heap.size w0 w' := by
  have M := Mem.begin hg ⟨0, 0⟩
  have N1 := Lib.hid X1.len
  have N2 := Lib.hid X2.len
  have hle1 := X1.le
  have hle2 := X2.le
  have d1 : decide ((6 : Int) < n1) = false := by have := N1.out; simp; omega
  have d2 : decide ((5 : Int) < n2) = false := by have := N2.out; simp; omega
  have hn2 : Hid (b.rules.length ≤ 1000000) := by show _ ≤ _; omega
  replace h0 := Lib.hid h0
  replace X1 := Lib.hid X1
  replace X2 := Lib.hid X2
  replace hts := Lib.hid hts
  replace hrs := Lib.hid hrs
  replace hes := Lib.hid hes
  replace E := Lib.hid E
  replace hF := Lib.hid hF
  replace hg := Lib.hid hg
  go_enter Tryd.func7, Tryd.ntmps7
  go_wp2_with (with_reducible (first | (refine wB (L := []) M ?_; clear M; intro za w1 M) | refine wq M ?_))
  go_loopg [29] n1 (fun f i wr => ∃ (j : Nat), j + f = n1 ∧ i = .int .i64 j ∧ Mem (StaysB g w0) g w0 wr ⟨0, 0⟩ (own za [.slice a1 n1 c1, .slice a2 n2 c2] 25 :: []) ∧ Hid (AllZ (btypE b) j))
  case atStart => exact ⟨0, by omega, rfl, M, allZ_zero _⟩
  case round =>
    clear M
    obtain ⟨j, hj, rfl, M, HZ⟩ := hrel
    by_cases hlt : j < n1
    · have hkl : j < b.types.length := by have := N1.out; omega
      have HE : Hid (∀ e, btypP (b.types.take j) b.types[j] j = e → e ≠ 0 → bookE b = e) := fun e he hn => book_type h0.out HZ.out hkl (by rw [btypE_at hkl]; exact he) hn
      have HZ2 : Hid (btypP (b.types.take j) b.types[j] j = 0 → AllZ (btypE b) (j + 1)) := fun h => allZ_succ HZ.out (by rw [btypE_at hkl]; exact h)
      obtain ⟨ct, ot, rowt, hixt, -, hrrt, hwt⟩ := SlF.rowAt (P := Tryd.prog) X1.out typF_firm Tryd.underlying22 size_typ (i := j) hkl
      obtain ⟨p1, q1, s1, et, ut⟩ := hrrt
      subst et
      have HR := Lib.hid (fun wx hb => (hwt wx hb).1)
      have hto := hts.out _ (List.getElem_mem hkl)
      have hjc : j ≤ c1 := by omega
      have HXJ : Hid (SlF F w0 2 typF a1 j c1 (b.types.take j)) := X1.out.take j c1 (by omega) (by omega) (Nat.le_refl _)
      have HTL : Hid ((b.types.take j).length = j) := by show _ = _; rw [List.length_take]; omega
      generalize b.types[j] = t at HE HZ2 HR hto ut
      unfold btypP at HE HZ2
      have HTF : Hid (∀ wx, Below w0.heap.size w0 wx → Calls Tryd.prog 14 #[.agg #[.string t.name, .slice p1 q1 s1]] wx fun e w' => e = .returned (.int .i64 (typE t.name t.fields)) ∧ Below wx.heap.size wx w') := fun wx hb =>
        checkType_any t.name p1 q1 s1 t.fields wx hto.1 (fld_R (ut.below (plainF_firm _) hb) hto.2)
      have HKW : Hid (∀ s wx, Below w0.heap.size w0 wx → Calls Tryd.prog 15 #[.string s] wx fun e w' => e = .returned (.bool (keptB s)) ∧ Below wx.heap.size wx w') := fun s wx hb => (kept_any F s wx (E.out.below hb).kept (E.out.below hb).rels).mono (by rintro e w' ⟨rfl, rfl⟩; exact ⟨rfl, Below.refl _ _⟩)
      have UT := Lib.hid ut
      have NT := Lib.hid ut.len
      have hleT := ut.le
      clear hwt hto ut HZ hkl
      unfold typC at HR
      by_cases hte : typE t.name t.fields = 0
      · rw [hte] at HTF
        have HE2 := Lib.hid (fun e he => HE.out e (by rw [if_neg (by rw [hte]; simp)]; exact he))
        have HZ3 := Lib.hid (fun he => HZ2.out (by rw [if_neg (by rw [hte]; simp)]; exact he))
        clear HE HZ2 hte
        have HKN := Lib.hid (HKW.out t.name)
        go_upto_region 10 with (first | (with_reducible (first | (refine wV M ?_; clear M; intro zt w M) | refine wq M ?_ | (refine wS M ?_; clear M; intro w M) | refine wA (HR.out _ M.new) ?_)) | (go_at_call 14; with_reducible refine (HTF.out _ M.new).mono ?_; rintro e w5 ⟨rfl, hb5⟩; replace M := M.below hb5; clear hb5) | (go_at_call 15; with_reducible refine (HKN.out _ M.new).mono ?_; rintro e w5 ⟨rfl, hb5⟩; replace M := M.below hb5; clear hb5))
        go_wp2_with (with_reducible refine wq M ?_)
        go_loopg [6, 46] q1 (fun f v i wr => ∃ (m : Nat), m + f = q1 ∧ v = .bool (okB t m) ∧ i = .int .i64 m ∧ Mem (StaysB g w0) g w0 wr ⟨0, 0⟩ (own zt [.string t.name, .slice p1 q1 s1] 38 :: own za [.slice a1 n1 c1, .slice a2 n2 c2] 25 :: []))
        case atStart => exact ⟨0, by omega, by rw [okB_zero], rfl, M⟩
        case round =>
          clear M HKN
          obtain ⟨m, hm, rfl, rfl, M⟩ := hrel
          by_cases hltm : m < q1
          · have hkm : m < t.fields.length := by have := NT.out; omega
            obtain ⟨cf, of, rowf, hixf, -, hrrf, hwf⟩ := SlF.rowAt (P := Tryd.prog) UT.out (plainF_firm _) Tryd.underlying36 size_fld (i := m) hkm
            have e2 : rowf = fldC t.fields[m] := hrrf
            subst e2
            have HR2 : Hid (∀ wx, Below w0.heap.size w0 wx → wx.rangeAt cf of [.string t.fields[m].name, .int .i64 t.fields[m].kind]) := fun wx hb => (hwf wx hb).1
            have HKF := Lib.hid (HKW.out t.fields[m].name)
            have HOS := Lib.hid (okB_succ hkm)
            clear hwf hrrf
            generalize t.fields[m].name = fnm at HR2 HKF HOS
            generalize t.fields[m].kind = fkd at HR2
            generalize okB t m = o1 at HOS ⊢
            clear hkm
            cases o1 with
            | true =>
              generalize keptB fnm = kb at HKF HOS
              cases kb <;>
              (go_wp2_with (first | (with_reducible (first | (refine wV M ?_; clear M; intro zf w M) | refine wq M ?_ | (refine wS M ?_; clear M; intro w M) | refine wA (HR2.out _ M.new) ?_)) | (go_at_call 15; with_reducible refine (HKF.out _ M.new).mono ?_; rintro e w5 ⟨rfl, hb5⟩; replace M := M.below hb5; clear hb5))
               go_roundg (q1 - (m + 1))
               case measure => omega
               case rel => exact ⟨m + 1, by omega, by rw [HOS.out]; rfl, by go_num, M.drop⟩)
            | false =>
              go_wp2_with (with_reducible (first | (refine wV M ?_; clear M; intro zf w M) | refine wq M ?_ | (refine wS M ?_; clear M; intro w M) | refine wA (HR2.out _ M.new) ?_))
              go_roundg (q1 - (m + 1))
              case measure => omega
              case rel => exact ⟨m + 1, by omega, by rw [HOS.out]; rfl, by go_num, M.drop⟩
          · have hend := okB_end t m (by have := NT.out; omega)
            generalize okB t m = o1 at hend ⊢
            cases o1 with
            | false =>
              have hor : keptB t.name = true ∨ t.fields.any (fun f => keptB f.name) = true := by
                cases h1 : keptB t.name <;> cases h2 : t.fields.any (fun f => keptB f.name) <;> simp [h1, h2] at hend ⊢
              have HV : Hid (bookE b = 4) := HE2.out 4 (by rw [if_pos hor]) (by decide)
              clear HE2 HZ3 hend hor
              go_wp2_with (with_reducible (first | refine wq M ?_ | (refine wS M ?_; clear M; intro w M) | (refine wV M ?_; clear M; intro z w M) | (refine wR M ?_; clear M; intro q w M)))
              go_ret
              rw [HV.out]
              exact ⟨rfl, M.new⟩
            | true =>
              have hor : ¬ (keptB t.name = true ∨ t.fields.any (fun f => keptB f.name) = true) := by
                cases h1 : keptB t.name <;> cases h2 : t.fields.any (fun f => keptB f.name) <;> simp [h1, h2] at hend ⊢
              have HE3 := Lib.hid (fun e he => HE2.out e (by rw [if_neg hor]; exact he))
              have HZ4 := Lib.hid (fun he => HZ3.out (by rw [if_neg hor]; exact he))
              clear HE2 HZ3 hend hor
              go_wp2_with (with_reducible refine wq M ?_)
              go_loopg [65] j (fun f i wr => ∃ (k : Nat), k + f = j ∧ i = .int .i64 k ∧ Mem (StaysB g w0) g w0 wr ⟨0, 0⟩ (own zt [.string t.name, .slice p1 q1 s1] 38 :: own za [.slice a1 n1 c1, .slice a2 n2 c2] 25 :: []) ∧ Hid (NoB (b.types.take j) (fun u => sameS u.name t.name) k))
              case atStart => exact ⟨0, by omega, rfl, M, noB_zero _ _⟩
              case round =>
                clear M
                obtain ⟨k, hk, rfl, M, HB⟩ := hrel
                by_cases hltk : k < j
                · have hkt : k < (b.types.take j).length := by rw [HTL.out]; exact hltk
                  obtain ⟨cs, os, rows, hixs, -, hrrs, hws⟩ := SlF.rowAt (P := Tryd.prog) HXJ.out typF_firm Tryd.underlying22 size_typ (i := k) hkt
                  obtain ⟨p2, q2, s2, et2, -⟩ := hrrs
                  subst et2
                  have HR2 : Hid (∀ wx, Below w0.heap.size w0 wx → wx.rangeAt cs os [.string (b.types.take j)[k].name, .slice p2 q2 s2]) := fun wx hb => (hws wx hb).1
                  have HSQ : Hid (∀ c, sameS (b.types.take j)[k].name t.name = c → ((b.types.take j)[k].name.toList == t.name.toList) = c) := fun c h => h
                  have HF1 : Hid (sameS (b.types.take j)[k].name t.name = true → typI (b.types.take j) t.name < j) := fun h => by
                    have e : typI (b.types.take j) t.name = k := noB_at HB.out hkt h
                    omega
                  have HF0 : Hid (sameS (b.types.take j)[k].name t.name = false → NoB (b.types.take j) (fun u => sameS u.name t.name) (k + 1)) := fun h => noB_succ HB.out hkt h
                  clear hws HB
                  generalize (b.types.take j)[k].name = unm at HR2 HSQ HF1 HF0
                  clear hkt
                  cases hsm : sameS unm t.name with
                  | true =>
                    have hsb := HSQ.out _ hsm
                    have HV : Hid (bookE b = 7) := HE3.out 7 (by rw [if_pos (HF1.out hsm)]) (by decide)
                    clear HE3 HZ4 HSQ HF1 HF0 hsm
                    go_wp2_with (with_reducible (first | (refine wV M ?_; clear M; intro zu w M) | refine wq M ?_ | (refine wS M ?_; clear M; intro w M) | refine wA (HR2.out _ M.new) ?_))
                    go_ret
                    rw [HV.out]
                    exact ⟨rfl, M.new⟩
                  | false =>
                    have hsb := HSQ.out _ hsm
                    have HB2 := Lib.hid (HF0.out hsm)
                    clear HSQ HF1 HF0 hsm
                    go_wp2_with (with_reducible (first | (refine wV M ?_; clear M; intro zu w M) | refine wq M ?_ | (refine wS M ?_; clear M; intro w M) | refine wA (HR2.out _ M.new) ?_))
                    go_roundg (j - (k + 1))
                    case measure => omega
                    case rel => exact ⟨k + 1, by omega, by go_num, M.drop, HB2⟩
                · have hkj : k = j := by omega
                  have hno : ¬ typI (b.types.take j) t.name < j := by
                    have e : typI (b.types.take j) t.name = (b.types.take j).length := noB_none (by have h := HB.out; rw [hkj] at h; rw [HTL.out]; exact h)
                    rw [e, HTL.out]
                    omega
                  have HZ5 := Lib.hid (HZ4.out (by rw [if_neg hno]))
                  clear HE3 HZ4 HB hno
                  go_wp2_with (with_reducible (first | refine wq M ?_ | (refine wS M ?_; clear M; intro w M) | (refine wV M ?_; clear M; intro z w M) | (refine wR M ?_; clear M; intro q w M)))
                  go_roundg (n1 - (j + 1))
                  case measure => omega
                  case rel => exact ⟨j + 1, by omega, by go_num, M.drop, HZ5⟩
      · have HV : Hid (bookE b = typE t.name t.fields) := HE.out _ (by rw [if_pos hte]) hte
        have hqb : (typE t.name t.fields != 0) = true := by simpa using hte
        generalize typE t.name t.fields = te at HTF HV hqb
        clear HE HZ2 hte HKW
        go_wp2_with (first | (with_reducible (first | (refine wV M ?_; clear M; intro zt w M) | refine wq M ?_ | (refine wS M ?_; clear M; intro w M) | refine wA (HR.out _ M.new) ?_)) | (go_at_call 14; with_reducible refine (HTF.out _ M.new).mono ?_; rintro e w5 ⟨rfl, hb5⟩; replace M := M.below hb5; clear hb5))
        go_ret
        rw [HV.out]
        exact ⟨rfl, M.new⟩
    · have HT1 : Hid (AllZ (btypE b) b.types.length) := by have e : j = b.types.length := (by have := N1.out; omega); rw [← e]; exact HZ.out
      have HTG : Hid (∀ t ∈ b.types, TypGood t) := fun t ht => ⟨hts.out t ht, btyp_good HT1.out t ht⟩
      clear HZ
      go_wp2_with (with_reducible refine wq M ?_)
      go_loopg [79] n2 (fun f i wr => ∃ (j : Nat), j + f = n2 ∧ i = .int .i64 j ∧ Mem (StaysB g w0) g w0 wr ⟨0, 0⟩ (own za [.slice a1 n1 c1, .slice a2 n2 c2] 25 :: []) ∧ Hid (AllZ (brulE b) j))
      case atStart => exact ⟨0, by omega, rfl, M, allZ_zero _⟩
      case round =>
        clear M
        obtain ⟨j, hj, rfl, M, HZ⟩ := hrel
        by_cases hlt : j < n2
        · have hkl : j < b.rules.length := by have := N2.out; omega
          have HE : Hid (∀ e, brulP b.types (b.rules.take j) b.rules[j] = e → e ≠ 0 → bookE b = e) := fun e he hn => book_rule h0.out HT1.out HZ.out hkl (by rw [brulE_at hkl]; exact he) hn
          have HZ2 : Hid (brulP b.types (b.rules.take j) b.rules[j] = 0 → AllZ (brulE b) (j + 1)) := fun h => allZ_succ HZ.out (by rw [brulE_at hkl]; exact h)
          obtain ⟨cr, or, rowr, hixr, -, hrrr, hwr⟩ := SlF.rowAt (P := Tryd.prog) X2.out rulF_firm Tryd.underlying23 size_rul (i := j) hkl
          have hro := hrs.out _ (List.getElem_mem hkl)
          have HRF : Hid (∀ wx, Below w0.heap.size w0 wx → Calls Tryd.prog 16 #[.slice a1 n1 c1, .agg rowr.toArray] wx fun e w' => e = .returned (.int .i64 (ruleE b.types b.rules[j])) ∧ Below wx.heap.size wx w') := fun wx hb =>
            rule_any (Nat.lt_of_lt_of_le hg.out hb.size) (X1.out.below typF_firm hb) (E.out.below hb) (fun k hk => Nat.lt_of_lt_of_le (hF.out k hk) hb.size) HTG.out b.rules[j] rowr (rulF_firm _ _ _ _ _ _ (Same.below hb) hrrr) hro
          obtain ⟨b1, m1, e1, b2, m2, e2, b3, m3, e3, b4, m4, e4, b6, m6, e6, rfl, -⟩ := hrrr
          have HR := Lib.hid (fun wx hb => (hwr wx hb).1)
          have hjc : j ≤ c2 := by omega
          have HXJ : Hid (SlF F w0 7 rulF a2 j c2 (b.rules.take j)) := X2.out.take j c2 (by omega) (by omega) (Nat.le_refl _)
          have HTL : Hid ((b.rules.take j).length = j) := by show _ = _; rw [List.length_take]; omega
          clear hwr hro HZ
          generalize b.rules[j] = x at HE HZ2 HRF HR
          clear hkl
          unfold brulP at HE HZ2
          unfold rulC at HR HRF
          by_cases hq : ruleE b.types x = 0
          · rw [hq] at HRF
            have HE2 := Lib.hid (fun e he => HE.out e (by rw [if_neg (by rw [hq]; simp)]; exact he))
            have HZ3 := Lib.hid (fun he => HZ2.out (by rw [if_neg (by rw [hq]; simp)]; exact he))
            clear HE HZ2 hq
            go_wp2_with (first | (with_reducible (first | (refine wV M ?_; clear M; intro zr w M) | refine wq M ?_ | (refine wS M ?_; clear M; intro w M) | refine wA (HR.out _ M.new) ?_)) | (go_at_call 16; with_reducible refine (HRF.out _ M.new).mono ?_; rintro e w5 ⟨rfl, hb5⟩; replace M := M.below hb5; clear hb5))
            go_loopg [96] j (fun f i wr => ∃ (k : Nat), k + f = j ∧ i = .int .i64 k ∧ Mem (StaysB g w0) g w0 wr ⟨0, 0⟩ (own zr [.string x.name, .slice b1 m1 e1, .slice b2 m2 e2, .slice b3 m3 e3, .slice b4 m4 e4, .string x.etype, .slice b6 m6 e6] 50 :: own za [.slice a1 n1 c1, .slice a2 n2 c2] 25 :: []) ∧ Hid (NoB (b.rules.take j) (fun y => sameS y.name x.name) k))
            case atStart => exact ⟨0, by omega, rfl, M, noB_zero _ _⟩
            case round =>
              clear M
              obtain ⟨k, hk, rfl, M, HB⟩ := hrel
              by_cases hltk : k < j
              · have hkt : k < (b.rules.take j).length := by rw [HTL.out]; exact hltk
                obtain ⟨cs, os, rows, hixs, -, hrrs, hws⟩ := SlF.rowAt (P := Tryd.prog) HXJ.out rulF_firm Tryd.underlying23 size_rul (i := k) hkt
                obtain ⟨f1, f2, f3, f4, f5, f6, f7, f8, f9, f10, f11, f12, f13, f14, f15, rfl, -⟩ := hrrs
                have HR2 : Hid (∀ wx, Below w0.heap.size w0 wx → wx.rangeAt cs os [.string (b.rules.take j)[k].name, .slice f1 f2 f3, .slice f4 f5 f6, .slice f7 f8 f9, .slice f10 f11 f12, .string (b.rules.take j)[k].etype, .slice f13 f14 f15]) := fun wx hb => (hws wx hb).1
                have HSQ : Hid (∀ c, sameS (b.rules.take j)[k].name x.name = c → ((b.rules.take j)[k].name.toList == x.name.toList) = c) := fun c h => h
                have HF1 : Hid (sameS (b.rules.take j)[k].name x.name = true → (b.rules.take j).any (fun y => sameS y.name x.name) = true) := fun h => List.any_eq_true.2 ⟨_, List.getElem_mem hkt, h⟩
                have HF0 : Hid (sameS (b.rules.take j)[k].name x.name = false → NoB (b.rules.take j) (fun y => sameS y.name x.name) (k + 1)) := fun h => noB_succ HB.out hkt h
                clear hws HB
                generalize (b.rules.take j)[k] = y at HR2 HSQ HF1 HF0
                clear hkt
                cases hsm : sameS y.name x.name with
                | true =>
                  have hsb := HSQ.out _ hsm
                  have HV : Hid (bookE b = 7) := HE2.out 7 (by rw [if_pos (HF1.out hsm)]) (by decide)
                  clear HE2 HZ3 HSQ HF1 HF0 hsm HRF
                  go_wp2_with (with_reducible (first | (refine wV M ?_; clear M; intro zu w M) | refine wq M ?_ | (refine wS M ?_; clear M; intro w M) | refine wA (HR2.out _ M.new) ?_))
                  go_ret
                  rw [HV.out]
                  exact ⟨rfl, M.new⟩
                | false =>
                  have hsb := HSQ.out _ hsm
                  have HB2 := Lib.hid (HF0.out hsm)
                  clear HSQ HF1 HF0 hsm HRF
                  go_wp2_with (with_reducible (first | (refine wV M ?_; clear M; intro zu w M) | refine wq M ?_ | (refine wS M ?_; clear M; intro w M) | refine wA (HR2.out _ M.new) ?_))
                  go_roundg (j - (k + 1))
                  case measure => omega
                  case rel => exact ⟨k + 1, by omega, by go_num, M.drop, HB2⟩
              · have hany : (b.rules.take j).any (fun y => sameS y.name x.name) = false := noB_any (by have h := HB.out; rw [show k = j by omega] at h; rw [HTL.out]; exact h)
                have HZ5 := Lib.hid (HZ3.out (by rw [hany]; rfl))
                clear HE2 HZ3 HB hany HRF
                go_wp2_with (with_reducible (first | refine wq M ?_ | (refine wS M ?_; clear M; intro w M) | (refine wV M ?_; clear M; intro z w M) | (refine wR M ?_; clear M; intro q w M)))
                go_roundg (n2 - (j + 1))
                case measure => omega
                case rel => exact ⟨j + 1, by omega, by go_num, M.drop, HZ5⟩
          · have HV : Hid (bookE b = ruleE b.types x) := HE.out _ (by rw [if_pos hq]) hq
            have hqb : (ruleE b.types x != 0) = true := by simpa using hq
            generalize ruleE b.types x = q at HRF HV hqb
            clear HE HZ2 hq
            go_wp2_with (first | (with_reducible (first | (refine wV M ?_; clear M; intro zr w M) | refine wq M ?_ | (refine wS M ?_; clear M; intro w M) | refine wA (HR.out _ M.new) ?_)) | (go_at_call 16; with_reducible refine (HRF.out _ M.new).mono ?_; rintro e w5 ⟨rfl, hb5⟩; replace M := M.below hb5; clear hb5))
            go_ret
            rw [HV.out]
            exact ⟨rfl, M.new⟩
        · have HT2 : Hid (AllZ (brulE b) b.rules.length) := by have e : j = b.rules.length := (by have := N2.out; omega); rw [← e]; exact HZ.out
          have HV0 := Lib.hid (book_rest h0.out HT1.out HT2.out)
          have HEN : Hid (∀ wx, Below w0.heap.size w0 wx → Calls Tryd.prog 17 #[.agg #[.slice a1 n1 c1, .slice a2 n2 c2]] wx fun e w' => e = .returned (.bool (endB b)) ∧ Below wx.heap.size wx w') := fun wx hb =>
            endless_any (Nat.lt_of_lt_of_le hg.out hb.size) b a1 n1 c1 (X1.out.below typF_firm hb) (X2.out.below rulF_firm hb) (fun t ht => (hts.out t ht).1) hes.out hn2.out
          clear HZ HT1 HT2 HTG
          generalize endB b = eb at HEN HV0
          cases eb with
          | true =>
            have HV : Hid (bookE b = 15) := HV0.out
            go_wp2_with (first | (with_reducible refine wq M ?_) | (go_at_call 17; with_reducible refine (HEN.out _ M.new).mono ?_; rintro e w5 ⟨rfl, hb5⟩; replace M := M.below hb5; clear hb5))
            go_ret
            rw [HV.out]
            exact ⟨rfl, M.new⟩
          | false =>
            have HV : Hid (bookE b = 0) := HV0.out
            go_wp2_with (first | (with_reducible refine wq M ?_) | (go_at_call 17; with_reducible refine (HEN.out _ M.new).mono ?_; rintro e w5 ⟨rfl, hb5⟩; replace M := M.below hb5; clear hb5))
            go_ret
            rw [HV.out]
            exact ⟨rfl, M.new⟩
theorem check_any (hg : g < w0.heap.size) (E : Env F w0) (hF : ∀ b, F b → b < w0.heap.size) (b : Bok) (a1 : Option Addr) (n1 c1 : Nat) (a2 : Option Addr) (n2 c2 : Nat) (X1 : SlF F w0 2 typF a1 n1 c1 b.types) (X2 : SlF F w0 7 rulF a2 n2 c2 b.rules) (hts : ∀ t ∈ b.types, typOk t) (hrs : ∀ x ∈ b.rules, RulFit x) (hes : ∀ x ∈ b.rules, x.etype.size ≤ maxLen) : Calls Tryd.prog 7 #[.agg #[.slice a1 n1 c1, .slice a2 n2 c2]] w0 fun e w' => e = .returned (.int .i64 (bookE b)) ∧ Below w0.heap.size w0 w' := by
  by_cases h0 : 6 < b.types.length ∨ 5 < b.rules.length
  · exact check_size hg E hF b a1 n1 c1 a2 n2 c2 X1 X2 hts hrs hes h0
  · exact check_main hg E hF b a1 n1 c1 a2 n2 c2 X1 X2 hts hrs hes h0
end
end Go.Proofs.YtcebfkdhicbmkaaDoor
