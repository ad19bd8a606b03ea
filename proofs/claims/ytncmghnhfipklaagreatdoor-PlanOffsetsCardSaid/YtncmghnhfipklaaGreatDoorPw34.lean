/-
  The walks of the program's Check, tenth part: who uses a type. Printed by pgj.py.
-/
import Derived.Test.YtncmghnhfipklaaGreatDoorPw28
import Derived.ArgAppend
namespace Go.Proofs.YtncmghnhfipklaaGreatDoor
open Go.RowKit
set_option linter.unusedVariables false
set_option linter.unusedSimpArgs false
theorem oneF:OneT Tryz.prog 131:=⟨by kernel_rfl,_,Tryz.underlying131,rfl⟩
instance :OneI Tryz.prog 131:=⟨oneF⟩
section
variable {P:Program} {dst:Option Tmp} {oty:TypeId} {pos:String} {after:Array Edge} {g:Option (Nat×Bool)} {l:List Value} {ds:List Deferred} {Q:Exit→Act→World→Prop} {K:Act→World→Prop}
variable {At:PS→World→Prop} {b:Nat} {u w:World} {s:PS} {L:List Ent} {ty j:Nat}
theorem Mem.cell0{i z:Nat}{c:Value}{cs:List Value}{t:TypeId}(M:Mem At b u w s L)(hi:L[i]?=some (own z (c::cs) t)):w.cell? ⟨z,0,none⟩=some c:=by
 rw[(M.own_ (Mem.of_get hi)).cell];rfl
theorem Mem.lt0{i z:Nat}{cs:List Value}{t:TypeId}(M:Mem At b u w s L)(hi:L[i]?=some (own z cs t)):z<w.heap.size:=(M.low _ (Mem.of_get hi) _ rfl).2
theorem q_box1(M:Mem At b u w s L){s1:ByteArray}[hy:Nth l j (.string s1)]{F:Nat→List Value}[hd: ∀ z,PutI l dst (.pointer (some ⟨z,0,none⟩)) (F z)](h: ∀ z w',Mem At b u w' s (own z [.string s1] ty::L)→K ⟨(F z).toArray,ds⟩ w'):OWP P ⟨dst,.box ty (.tmp j),oty,pos,after,g⟩ ⟨l.toArray,ds⟩ w K Q:=by
 refine owp_of ?_
 have hy' :=eval_tmp (ds:=ds) hy.nth
 unfold Oper.wp execOp
 simp only[Instr.box,hy',Sem.run_bind,newVar,newRow,newObj,Value.cells]
 have hlow: ∀ y,(own w.heap.size [.string s1] ty).blk y→w.heap.size≤y∧y<(w.alloc (.cells [.string s1].toArray ty)).heap.size:=fun y hy=>by
  have e:w.heap.size=y:=by injection hy
  subst e
  simp
 have key:=h w.heap.size (w.alloc (.cells [Value.string s1].toArray ty)) (M.push (e:=own w.heap.size [Value.string s1] ty) (Joins.below_alloc1 w _) (own_firm _ _ _) hlow (fun G _=>heap_alloc_new w (.cells [Value.string s1].toArray ty)))
 rw[←(hd w.heap.size).put]at key
 exact key
theorem q_varf(M:Mem At b u w s L)(hi:(P.info? ty).map (·.zero)=some (some .nilFunc)){F:Nat→List Value}[hd: ∀ z,PutI l dst (.pointer (some ⟨z,0,none⟩)) (F z)](h: ∀ z w',Mem At b u w' s (own z [.nilFunc] ty::L)→K ⟨(F z).toArray,ds⟩ w'):OWP P ⟨dst,.alloc ty,oty,pos,after,g⟩ ⟨l.toArray,ds⟩ w K Q:=
 owp_of (op_var M ty rfl [.nilFunc] .nilFunc rfl hi (fun z w' M' =>by rw[(hd z).put];exact h z w' M'))
theorem q_func(fn:Fn){j' :Nat}{c:Value}[hc:Nth l j' c]{l' :List Value}[hd:PutI l dst (.func fn #[] #[c]) l'](h:K ⟨l'.toArray,ds⟩ w):OWP P ⟨dst,.makeFunc fn #[] #[.tmp j'],oty,pos,after,g⟩ ⟨l.toArray,ds⟩ w K Q:=by
 refine owp_of ?_
 have hk:K (Act.put ⟨l.toArray,ds⟩ dst (.func fn #[] #[c])) w:=by rw[hd.put];exact h
 unfold Oper.wp execOp
 simp only[Instr.makeFunc,Sem.run_bind,Sem.run_pure,Result.andThen_ok,List.map_toArray,List.map_nil,List.map_cons,eval_tmp hc.nth]
 exact hk
end
theorem zF:(Tryz.prog.info? 131).map (·.zero)=some (some .nilFunc):=by kernel_rfl
section
variable {g:Nat} {F:Nat→Prop} {ao:Option Addr} {n cap:Nat} {w0:World}
set_option maxRecDepth 8000 in
set_option maxHeartbeats 4000000 in
theorem uses1_any(hg:g<w0.heap.size)(p:Pat)(so:Option Addr)(sn scap:Nat)(zn:Nat)(nm:ByteArray)(hz:zn<w0.heap.size)(h0:w0.cell? ⟨zn,0,none⟩=some (.string nm)):
  Calls Tryz.prog 71 #[.agg (pat18 p so sn scap).toArray,.pointer (some ⟨zn,0,none⟩)] w0 fun e w' =>e= .returned (.bool (sameS p.type nm))∧Below w0.heap.size w0 w' :=by
 have M:=Mem.begin hg ⟨0,0⟩
 have HN0:Hid (∀ wx,Below w0.heap.size w0 wx→wx.cell? ⟨zn,0,none⟩=some (.string nm)):=fun wx hb=>by rw[(bcell hb).1 _ _ hz];exact h0
 have HV:Hid (sameS p.type nm=(p.type.toList==nm.toList)):=rfl
 unfold pat18
 clear hg hz h0
 go_enter Tryz.func71,Tryz.ntmps71
 go_wp2_with (with_reducible (first|(refine wB (L:=[]) M ?_;clear M;intro za w1 M)|refine wq M ?_|refine wC (HN0.out _ M.new) ?_))
 go_ret
 rw[HV.out]
 exact⟨rfl,M.new⟩
set_option maxRecDepth 8000 in
set_option maxHeartbeats 4000000 in
theorem ixPat_any(hg:g<w0.heap.size){l:List Pat}(hX:SlF F w0 18 patF ao n cap l)(pr:Pat→Bool)(z:Nat)(HC0: ∀ p∈l,∀ so sn sc wx,Below w0.heap.size w0 wx→Calls Tryz.prog 71 #[.agg (pat18 p so sn sc).toArray,.pointer (some ⟨z,0,none⟩)] wx fun e w' =>e= .returned (.bool (pr p))∧Below wx.heap.size wx w'):
  Calls Tryz.prog 94 #[.slice ao n cap,.func (Fn.func 71) #[] #[.pointer (some ⟨z,0,none⟩)]] w0 fun e w' =>e= .returned (.int .i64 (placeV (l.findIdx pr) l.length))∧Below w0.heap.size w0 w' :=by
 have NL:=Lib.hid hX.len
 have hle:=hX.le
 have M:=Mem.begin hg ⟨0,0⟩
 have HX:=Lib.hid hX
 have HC0:=Lib.hid HC0
 clear hX hg
 go_enter Tryz.func94,Tryz.ntmps94
 go_wp2_with (with_reducible (first|refine wq M ?_|(refine wS M ?_;clear M;intro w M)|(refine wV M ?_;clear M;intro z w M)|(refine wR M ?_;clear M;intro q w M)))
 go_loopg [8] n (fun f i wr=> ∃ k:Nat,k+f=n∧i= .int .i64 k∧Mem (StaysB g w0) g w0 wr ⟨0,0⟩ []∧Hid (NoB l pr k))
 case atStart=>exact⟨0,by omega,rfl,M,noB_zero _ _⟩
 case round=>
  clear M
  obtain⟨k,hk,rfl,M,HB⟩:=hrel
  by_cases hlt:k<n
  ·have hkl:k<l.length:=by have:=NL.out;omega
   obtain⟨ca,oa,rowa,hixa, -,hrra,hwa⟩:=SlF.rowAt (P:=Tryz.prog) HX.out patF_firm Tryz.underlying40 size_pat (i:=k) hkl
   have HC1:=Lib.hid (HC0.out l[k] (List.getElem_mem hkl))
   have HS:Hid (pr l[k]=true→placeV (l.findIdx pr) l.length=k):=fun h=>place_at HB.out hkl h
   have HT:Hid (pr l[k]=false→NoB l pr (k+1)):=fun h=>noB_succ HB.out hkl h
   obtain⟨p1,q1,s1,ea,u1⟩:=patF.open18 hrra
   subst ea
   have HC:=Lib.hid (HC1.out p1 q1 s1)
   clear HC1
   have HR:=Lib.hid (fun wx hb=>(hwa wx hb).1)
   clear hwa u1 HB
   unfold pat18 at HR HC
   generalize l[k]=p at HR HC HS HT
   cases hsm:pr p with
   |true=>
    have HV:=Lib.hid (HS.out hsm)
    rw[hsm]at HC
    clear HS HT hsm
    go_wp2_with (first|(with_reducible refine wA (HR.out _ M.new) ?_)|(go_at_call 71;with_reducible refine(HC.out _ M.new).mono ?_;rintro e w5 ⟨rfl,hb5⟩;replace M:=M.below hb5;clear hb5))
    go_ret
    rw[HV.out]
    exact⟨rfl,M.new⟩
   |false=>
    have HV:=Lib.hid (HT.out hsm)
    rw[hsm]at HC
    clear HS HT hsm
    go_wp2_with (first|(with_reducible refine wA (HR.out _ M.new) ?_)|(go_at_call 71;with_reducible refine(HC.out _ M.new).mono ?_;rintro e w5 ⟨rfl,hb5⟩;replace M:=M.below hb5;clear hb5))
    go_roundg (n - (k+1))
    case measure=>omega
    case rel=>exact⟨k+1,by omega,by go_num,M,HV⟩
  ·have HV:Hid (placeV (l.findIdx pr) l.length= -1):=by
    have e:k=l.length:=by have:=NL.out;omega
    exact place_none (e▸HB.out)
   go_wp2_with (with_reducible (first|refine wq M ?_|(refine wS M ?_;clear M;intro w M)|(refine wV M ?_;clear M;intro z w M)|(refine wR M ?_;clear M;intro q w M)))
   go_ret
   rw[HV.out]
   exact⟨rfl,M.new⟩
set_option maxRecDepth 8000 in
set_option maxHeartbeats 4000000 in
theorem conPat_any(hg:g<w0.heap.size){l:List Pat}(hX:SlF F w0 18 patF ao n cap l)(pr:Pat→Bool)(z:Nat)(HC0: ∀ p∈l,∀ so sn sc wx,Below w0.heap.size w0 wx→Calls Tryz.prog 71 #[.agg (pat18 p so sn sc).toArray,.pointer (some ⟨z,0,none⟩)] wx fun e w' =>e= .returned (.bool (pr p))∧Below wx.heap.size wx w'):
  Calls Tryz.prog 72 #[.slice ao n cap,.func (Fn.func 71) #[] #[.pointer (some ⟨z,0,none⟩)]] w0 fun e w' =>e= .returned (.bool (l.any pr))∧Below w0.heap.size w0 w' :=by
 have M:=Mem.begin hg ⟨0,0⟩
 have HI:Hid (∀ wx,Below w0.heap.size w0 wx→Calls Tryz.prog 94 #[.slice ao n cap,.func (Fn.func 71) #[] #[.pointer (some ⟨z,0,none⟩)]] wx fun e w' =>e= .returned (.int .i64 (placeV (l.findIdx pr) l.length))∧Below wx.heap.size wx w'):=fun wx hb=>
  ixPat_any (Nat.lt_of_lt_of_le hg hb.size) (hX.below patF_firm hb) pr z (fun p hp so sn sc wy hby=>HC0 p hp so sn sc wy (hb.trans (hby.mono hb.size)))
 have hge:decide ((0:Int)≤placeV (l.findIdx pr) l.length)=decide (l.findIdx pr<l.length):=by
  unfold placeV
  by_cases h:l.findIdx pr<l.length
  ·rw[if_pos h];simp[h]
  ·rw[if_neg h];simp[h]
 have hany:l.any pr=decide (l.findIdx pr<l.length):=by rw[Bool.eq_iff_iff,decide_eq_true_iff,List.findIdx_lt_length,List.any_eq_true]
 rw[hany,←hge]
 generalize placeV (l.findIdx pr) l.length=v at HI ⊢
 clear hg hX HC0 hge hany
 go_enter Tryz.func72,Tryz.ntmps72
 go_wp2_with (go_at_call 94;with_reducible refine(HI.out _ M.new).mono ?_;rintro e w5 ⟨rfl,hb5⟩;replace M:=M.below hb5;clear hb5)
 go_ret
 exact⟨rfl,M.new⟩
set_option maxRecDepth 8000 in
set_option maxHeartbeats 4000000 in
theorem ixMan_any(hg:g<w0.heap.size){l:List Many}(hX:SlF F w0 20 manF ao n cap l)(pr:Many→Bool)(z:Nat)(HC0: ∀ p∈l,∀ so sn sc wx,Below w0.heap.size w0 wx→Calls Tryz.prog 74 #[.agg (man20 p so sn sc).toArray,.pointer (some ⟨z,0,none⟩)] wx fun e w' =>e= .returned (.bool (pr p))∧Below wx.heap.size wx w'):
  Calls Tryz.prog 95 #[.slice ao n cap,.func (Fn.func 74) #[] #[.pointer (some ⟨z,0,none⟩)]] w0 fun e w' =>e= .returned (.int .i64 (placeV (l.findIdx pr) l.length))∧Below w0.heap.size w0 w' :=by
 have NL:=Lib.hid hX.len
 have hle:=hX.le
 have M:=Mem.begin hg ⟨0,0⟩
 have HX:=Lib.hid hX
 have HC0:=Lib.hid HC0
 clear hX hg
 go_enter Tryz.func95,Tryz.ntmps95
 go_wp2_with (with_reducible (first|refine wq M ?_|(refine wS M ?_;clear M;intro w M)|(refine wV M ?_;clear M;intro z w M)|(refine wR M ?_;clear M;intro q w M)))
 go_loopg [8] n (fun f i wr=> ∃ k:Nat,k+f=n∧i= .int .i64 k∧Mem (StaysB g w0) g w0 wr ⟨0,0⟩ []∧Hid (NoB l pr k))
 case atStart=>exact⟨0,by omega,rfl,M,noB_zero _ _⟩
 case round=>
  clear M
  obtain⟨k,hk,rfl,M,HB⟩:=hrel
  by_cases hlt:k<n
  ·have hkl:k<l.length:=by have:=NL.out;omega
   obtain⟨ca,oa,rowa,hixa, -,hrra,hwa⟩:=SlF.rowAt (P:=Tryz.prog) HX.out manF_firm Tryz.underlying41 size_man (i:=k) hkl
   have HC1:=Lib.hid (HC0.out l[k] (List.getElem_mem hkl))
   have HS:Hid (pr l[k]=true→placeV (l.findIdx pr) l.length=k):=fun h=>place_at HB.out hkl h
   have HT:Hid (pr l[k]=false→NoB l pr (k+1)):=fun h=>noB_succ HB.out hkl h
   obtain⟨p1,q1,s1,ea,u1⟩:=manF.open20 hrra
   subst ea
   have HC:=Lib.hid (HC1.out p1 q1 s1)
   clear HC1
   have HR:=Lib.hid (fun wx hb=>(hwa wx hb).1)
   clear hwa u1 HB
   unfold man20 pat18 at HR HC
   generalize l[k]=p at HR HC HS HT
   cases hsm:pr p with
   |true=>
    have HV:=Lib.hid (HS.out hsm)
    rw[hsm]at HC
    clear HS HT hsm
    go_wp2_with (first|(with_reducible refine wA (HR.out _ M.new) ?_)|(go_at_call 74;with_reducible refine(HC.out _ M.new).mono ?_;rintro e w5 ⟨rfl,hb5⟩;replace M:=M.below hb5;clear hb5))
    go_ret
    rw[HV.out]
    exact⟨rfl,M.new⟩
   |false=>
    have HV:=Lib.hid (HT.out hsm)
    rw[hsm]at HC
    clear HS HT hsm
    go_wp2_with (first|(with_reducible refine wA (HR.out _ M.new) ?_)|(go_at_call 74;with_reducible refine(HC.out _ M.new).mono ?_;rintro e w5 ⟨rfl,hb5⟩;replace M:=M.below hb5;clear hb5))
    go_roundg (n - (k+1))
    case measure=>omega
    case rel=>exact⟨k+1,by omega,by go_num,M,HV⟩
  ·have HV:Hid (placeV (l.findIdx pr) l.length= -1):=by
    have e:k=l.length:=by have:=NL.out;omega
    exact place_none (e▸HB.out)
   go_wp2_with (with_reducible (first|refine wq M ?_|(refine wS M ?_;clear M;intro w M)|(refine wV M ?_;clear M;intro z w M)|(refine wR M ?_;clear M;intro q w M)))
   go_ret
   rw[HV.out]
   exact⟨rfl,M.new⟩
set_option maxRecDepth 8000 in
set_option maxHeartbeats 4000000 in
theorem conMan_any(hg:g<w0.heap.size){l:List Many}(hX:SlF F w0 20 manF ao n cap l)(pr:Many→Bool)(z:Nat)(HC0: ∀ p∈l,∀ so sn sc wx,Below w0.heap.size w0 wx→Calls Tryz.prog 74 #[.agg (man20 p so sn sc).toArray,.pointer (some ⟨z,0,none⟩)] wx fun e w' =>e= .returned (.bool (pr p))∧Below wx.heap.size wx w'):
  Calls Tryz.prog 73 #[.slice ao n cap,.func (Fn.func 74) #[] #[.pointer (some ⟨z,0,none⟩)]] w0 fun e w' =>e= .returned (.bool (l.any pr))∧Below w0.heap.size w0 w' :=by
 have M:=Mem.begin hg ⟨0,0⟩
 have HI:Hid (∀ wx,Below w0.heap.size w0 wx→Calls Tryz.prog 95 #[.slice ao n cap,.func (Fn.func 74) #[] #[.pointer (some ⟨z,0,none⟩)]] wx fun e w' =>e= .returned (.int .i64 (placeV (l.findIdx pr) l.length))∧Below wx.heap.size wx w'):=fun wx hb=>
  ixMan_any (Nat.lt_of_lt_of_le hg hb.size) (hX.below manF_firm hb) pr z (fun p hp so sn sc wy hby=>HC0 p hp so sn sc wy (hb.trans (hby.mono hb.size)))
 have hge:decide ((0:Int)≤placeV (l.findIdx pr) l.length)=decide (l.findIdx pr<l.length):=by
  unfold placeV
  by_cases h:l.findIdx pr<l.length
  ·rw[if_pos h];simp[h]
  ·rw[if_neg h];simp[h]
 have hany:l.any pr=decide (l.findIdx pr<l.length):=by rw[Bool.eq_iff_iff,decide_eq_true_iff,List.findIdx_lt_length,List.any_eq_true]
 rw[hany,←hge]
 generalize placeV (l.findIdx pr) l.length=v at HI ⊢
 clear hg hX HC0 hge hany
 go_enter Tryz.func73,Tryz.ntmps73
 go_wp2_with (go_at_call 95;with_reducible refine(HI.out _ M.new).mono ?_;rintro e w5 ⟨rfl,hb5⟩;replace M:=M.below hb5;clear hb5)
 go_ret
 exact⟨rfl,M.new⟩
set_option maxRecDepth 8000 in
set_option maxHeartbeats 4000000 in
theorem uses2_any(hg:g<w0.heap.size)(m:Many)(so:Option Addr)(sn scap:Nat)(zf zn:Nat)(nm:ByteArray)(hzf:zf<w0.heap.size)(hz:zn<w0.heap.size)(h1:w0.cell? ⟨zf,0,none⟩=some (.func (Fn.func 71) #[] #[.pointer (some ⟨zn,0,none⟩)]))(h0:w0.cell? ⟨zn,0,none⟩=some (.string nm)):
  Calls Tryz.prog 74 #[.agg (man20 m so sn scap).toArray,.pointer (some ⟨zf,0,none⟩)] w0 fun e w' =>e= .returned (.bool (sameS m.pat.type nm))∧Below w0.heap.size w0 w' :=by
 have M:=Mem.begin hg ⟨0,0⟩
 have HF0:Hid (∀ wx,Below w0.heap.size w0 wx→wx.cell? ⟨zf,0,none⟩=some (.func (Fn.func 71) #[] #[.pointer (some ⟨zn,0,none⟩)])):=fun wx hb=>by rw[(bcell hb).1 _ _ hzf];exact h1
 have HC:Hid (∀ wx,Below w0.heap.size w0 wx→Calls Tryz.prog 71 #[.agg (pat18 m.pat so sn scap).toArray,.pointer (some ⟨zn,0,none⟩)] wx fun e w' =>e= .returned (.bool (sameS m.pat.type nm))∧Below wx.heap.size wx w'):=fun wx hb=>
  uses1_any (Nat.lt_of_lt_of_le hg hb.size) m.pat so sn scap zn nm (Nat.lt_of_lt_of_le hz hb.size) (by rw[(bcell hb).1 _ _ hz];exact h0)
 unfold man20 pat18
 unfold pat18 at HC
 clear hg hz hzf h0 h1
 go_enter Tryz.func74,Tryz.ntmps74
 go_wp2_with (first|(with_reducible (first|(refine wB (L:=[]) M ?_;clear M;intro za w1 M)|refine wq M ?_|refine wC (HF0.out _ M.new) ?_))|(go_at_call 71;with_reducible refine(HC.out _ M.new).mono ?_;rintro e w5 ⟨rfl,hb5⟩;replace M:=M.below hb5;clear hb5))
 go_ret
 exact⟨rfl,M.new⟩
set_option maxRecDepth 8000 in
set_option maxHeartbeats 8000000 in
theorem uses_any(hg:g<w0.heap.size)(x:Rul)(row:List Value)(h:rulF F w0 row x)(nm:ByteArray):
  Calls Tryz.prog 43 #[.agg row.toArray,.string nm] w0 fun e w' =>e= .returned (.bool (speaks x nm))∧Below w0.heap.size w0 w' :=by
 obtain⟨a1,n1,c1,a2,n2,c2,a3,n3,c3,a4,n4,c4,a6,n6,c6,rfl,X1,X2,X3,X4,X6⟩:=h
 have M:=Mem.begin hg ⟨0,0⟩
 have HW:Hid (∀ (zn:Nat) wx,Below w0.heap.size w0 wx→zn<wx.heap.size→wx.cell? ⟨zn,0,none⟩=some (.string nm)→Calls Tryz.prog 72 #[.slice a1 n1 c1,.func (Fn.func 71) #[] #[.pointer (some ⟨zn,0,none⟩)]] wx fun e w' =>e= .returned (.bool (x.whens.any (fun p=>sameS p.type nm)))∧Below wx.heap.size wx w'):=fun zn wx hb hz h0=>
  conPat_any (Nat.lt_of_lt_of_le hg hb.size) (X1.below patF_firm hb) (fun p=>sameS p.type nm) zn (fun p _ so sn sc wy hby=>uses1_any (Nat.lt_of_lt_of_le hg (Nat.le_trans hb.size hby.size)) p so sn sc zn nm (Nat.lt_of_lt_of_le hz hby.size) (by rw[(bcell hby).1 _ _ hz];exact h0))
 have HO:Hid (∀ (zn:Nat) wx,Below w0.heap.size w0 wx→zn<wx.heap.size→wx.cell? ⟨zn,0,none⟩=some (.string nm)→Calls Tryz.prog 72 #[.slice a2 n2 c2,.func (Fn.func 71) #[] #[.pointer (some ⟨zn,0,none⟩)]] wx fun e w' =>e= .returned (.bool (x.nots.any (fun p=>sameS p.type nm)))∧Below wx.heap.size wx w'):=fun zn wx hb hz h0=>
  conPat_any (Nat.lt_of_lt_of_le hg hb.size) (X2.below patF_firm hb) (fun p=>sameS p.type nm) zn (fun p _ so sn sc wy hby=>uses1_any (Nat.lt_of_lt_of_le hg (Nat.le_trans hb.size hby.size)) p so sn sc zn nm (Nat.lt_of_lt_of_le hz hby.size) (by rw[(bcell hby).1 _ _ hz];exact h0))
 have HM:Hid (∀ (zf zn:Nat) wx,Below w0.heap.size w0 wx→zf<wx.heap.size→zn<wx.heap.size→wx.cell? ⟨zf,0,none⟩=some (.func (Fn.func 71) #[] #[.pointer (some ⟨zn,0,none⟩)])→wx.cell? ⟨zn,0,none⟩=some (.string nm)→Calls Tryz.prog 73 #[.slice a3 n3 c3,.func (Fn.func 74) #[] #[.pointer (some ⟨zf,0,none⟩)]] wx fun e w' =>e= .returned (.bool (x.manies.any (fun m=>sameS m.pat.type nm)))∧Below wx.heap.size wx w'):=fun zf zn wx hb hzf hz h1 h0=>
  conMan_any (Nat.lt_of_lt_of_le hg hb.size) (X3.below manF_firm hb) (fun m=>sameS m.pat.type nm) zf (fun m _ so sn sc wy hby=>uses2_any (Nat.lt_of_lt_of_le hg (Nat.le_trans hb.size hby.size)) m so sn sc zf zn nm (Nat.lt_of_lt_of_le hzf hby.size) (Nat.lt_of_lt_of_le hz hby.size) (by rw[(bcell hby).1 _ _ hzf];exact h1) (by rw[(bcell hby).1 _ _ hz];exact h0))
 have HV:Hid (speaks x nm=(x.whens.any (fun p=>sameS p.type nm)||x.nots.any (fun p=>sameS p.type nm)||x.manies.any (fun m=>sameS m.pat.type nm))):=rfl
 rw[HV.out]
 generalize x.whens.any (fun p=>sameS p.type nm)=A1 at HW ⊢
 generalize x.nots.any (fun p=>sameS p.type nm)=B at HO ⊢
 generalize x.manies.any (fun m=>sameS m.pat.type nm)=C at HM ⊢
 unfold rulC
 clear hg X1 X2 X3 X4 X6 HV
 cases A1<;>cases B
 all_goals
  go_enter Tryz.func43,Tryz.ntmps43
  go_wp2_with (first|(first|((with_reducible refine o_list rfl fun K hK=>?_);refine q_func _ ?_;refine hK _ _ ?_;clear hK K)|((with_reducible refine o_listg fun K hK=>?_);refine q_func _ ?_;refine hK _ _ ?_;clear hK K))|(with_reducible (first|(refine wB (L:=[]) M ?_;clear M;intro za w1 M)|(refine w_ (q_box1 M ?_);clear M;intro zn w M)|(refine w_ (q_varf M zF ?_);clear M;intro zf w M)|refine wq M ?_|(refine wS M ?_;clear M;intro w M)))|(go_at_call 72;with_reducible refine(HW.out zn _ M.new (M.lt0 (i:=1) rfl) (M.cell0 (i:=1) rfl)).mono ?_;rintro e w5 ⟨rfl,hb5⟩;replace M:=M.below hb5;clear hb5)|(go_at_call 72;with_reducible refine(HO.out zn _ M.new (M.lt0 (i:=1) rfl) (M.cell0 (i:=1) rfl)).mono ?_;rintro e w5 ⟨rfl,hb5⟩;replace M:=M.below hb5;clear hb5)|(go_at_call 73;with_reducible refine(HM.out zf zn _ M.new (M.lt0 (i:=0) rfl) (M.lt0 (i:=1) rfl) (M.cell0 (i:=0) rfl) (M.cell0 (i:=1) rfl)).mono ?_;rintro e w5 ⟨rfl,hb5⟩;replace M:=M.below hb5;clear hb5))
  go_ret
  exact⟨rfl,M.new⟩
end
section
variable {rs:List Rul}
theorem comes_intro{k:Nat}{tt fr:ByteArray}{x:Rul}(hx:x∈rs)(h1:emS x.etype=false)(h2:speaks x fr=true)(h3:sameS x.etype tt=true∨comesB rs k tt x.etype=true):comesB rs (k+1) tt fr=true:=by
 unfold comesB
 refine List.any_eq_true.2 ⟨x,hx,?_⟩
 rw[h1,h2]
 rcases h3 with h|h<;>simp[h]
theorem comes_elim{k:Nat}{tt fr:ByteArray}(h:comesB rs (k+1) tt fr=true): ∃ x∈rs,emS x.etype=false∧speaks x fr=true∧(sameS x.etype tt=true∨comesB rs k tt x.etype=true):=by
 unfold comesB at h
 obtain⟨x,hx,h⟩:=List.any_eq_true.1 h
 refine⟨x,hx,?_⟩
 cases h1:emS x.etype<;>cases h2:speaks x fr<;>simp[h1,h2]at h ⊢
 exact h
theorem comes_mono1: ∀ (k:Nat) (tt fr:ByteArray),comesB rs k tt fr=true→comesB rs (k+1) tt fr=true
 |0,tt,fr,h=>by unfold comesB at h;cases h
 |k+1,tt,fr,h=>by
  obtain⟨x,hx,h1,h2,h3⟩:=comes_elim h
  exact comes_intro hx h1 h2 (h3.imp id (comes_mono1 k tt x.etype))
theorem comes_mono{k m:Nat}{tt fr:ByteArray}(h:comesB rs k tt fr=true)(hm:k≤m):comesB rs m tt fr=true:=by
 induction hm with
 |refl=>exact h
 |step _ ih=>exact comes_mono1 _ _ _ ih
theorem comes_back: ∀ (k:Nat) (nm fr:ByteArray),comesB rs k nm fr=true→ ∀ x∈rs,emS x.etype=false→speaks x nm=true→comesB rs (k+1) x.etype fr=true
 |0,nm,fr,h,_,_,_,_=>by unfold comesB at h;cases h
 |k+1,nm,fr,h,x,hx,h1,h2=>by
  obtain⟨y,hy,e1,e2,e3⟩:=comes_elim h
  refine comes_intro hy e1 e2 (.inr ?_)
  rcases e3 with e|e
  ·have:=sameS_eq e
   rw[this]
   exact comes_mono (comes_intro hx h1 h2 (.inl (sameS_self _)):comesB rs (0+1) x.etype nm=true) (by omega)
  ·exact comes_back k nm y.etype e x hx h1 h2
def unseen(rs:List Rul)(seen:List ByteArray):Nat:=(rs.filter (fun x=>!inS seen x.etype)).length
theorem unseen_nil(rs:List Rul):unseen rs []=rs.length:=by
 have h:rs.filter (fun x=>!inS [] x.etype)=rs:=List.filter_eq_self.2 (fun x _=>rfl)
 unfold unseen
 rw[h]
theorem filter_less{α:Type}{p q:α→Bool}: ∀ (l:List α),(∀ x∈l,q x=true→p x=true)→(∃ x∈l,p x=true∧q x=false)→(l.filter q).length+1≤(l.filter p).length
 |[],_,⟨x,hx,_⟩=>by cases hx
 |a::r,h,⟨x,hx,h1,h2⟩=>by
  have hle: ∀ (l:List α),(∀ x∈l,q x=true→p x=true)→(l.filter q).length≤(l.filter p).length:=fun l=>by
   induction l with
   |nil=>intro _;exact Nat.le_refl _
   |cons b t ih=>
    intro hb
    have ht:=ih (fun x hx=>hb x (List.mem_cons_of_mem _ hx))
    have hb0:=hb b (List.mem_cons_self ..)
    cases hq:q b<;>cases hp:p b<;>simp[List.filter_cons,hq,hp]at hb0 ⊢ <;>omega
  rcases List.mem_cons.1 hx with rfl|hx'
  ·have:=hle r (fun y hy=>h y (List.mem_cons_of_mem _ hy))
   simp only[List.filter_cons,h1,h2,if_true]
   simp
   exact this
  ·have:=filter_less r (fun y hy=>h y (List.mem_cons_of_mem _ hy)) ⟨x,hx',h1,h2⟩
   have h0:=h a (List.mem_cons_self ..)
   cases hq:q a<;>cases hp:p a<;>simp[List.filter_cons,hq,hp]at h0 ⊢ <;>omega
theorem unseen_snoc{seen:List ByteArray}{x:Rul}(hx:x∈rs)(h:inS seen x.etype=false):unseen rs (seen++[x.etype])+1≤unseen rs seen:=by
 unfold unseen
 refine filter_less rs (fun y _ hy=>?_) ⟨x,hx,by rw[h];rfl,by rw[inS_snoc,sameS_self];simp⟩
 rw[inS_snoc]at hy
 cases hq:inS seen y.etype<;>simp[hq]at hy ⊢
def DoneTo(rs:List Rul)(seen:List ByteArray)(a:ByteArray)(j:Nat):Prop:= ∀ i (h:i<rs.length),i<j→emS rs[i].etype=false→speaks rs[i] a=true→inS seen rs[i].etype=true
theorem DoneTo.snoc{seen:List ByteArray}{a v:ByteArray}{j:Nat}(h:DoneTo rs seen a j):DoneTo rs (seen++[v]) a j:=fun i hi hij h1 h2=>by rw[inS_snoc,h i hi hij h1 h2];rfl
structure Srch (rs:List Rul) (fr:ByteArray) (seen xs:List ByteArray) (cur:Option (ByteArray×Nat)):Prop where
 come: ∀ s,inS seen s=true→comesB rs seen.length s fr=true
 known: ∀ s∈xs,s=fr∨inS seen s=true
 now: ∀ a j,cur=some (a,j)→(a=fr∨inS seen a=true)∧DoneTo rs seen a j
 done: ∀ a,(a=fr∨inS seen a=true)→a∈xs∨DoneTo rs seen a rs.length∨ ∃ j,cur=some (a,j)
 few:seen.length+unseen rs seen≤rs.length
 small:xs.length+unseen rs seen≤1+rs.length
theorem srch_start(fr:ByteArray):Srch rs fr [] [fr] none where
 come:=fun s h=>by cases h
 known:=fun s h=> .inl (List.mem_singleton.1 h)
 now:=fun a j h=>by cases h
 done:=fun a h=>by
  rcases h with rfl|h
  ·exact .inl (List.mem_singleton.2 rfl)
  ·cases h
 few:=by rw[unseen_nil];simp
 small:=by rw[unseen_nil];simp
theorem Srch.pop{fr x:ByteArray}{seen xs:List ByteArray}(h:Srch rs fr seen (x::xs) none):Srch rs fr seen xs (some (x,0)) where
 come:=h.come
 known:=fun s hs=>h.known s (List.mem_cons_of_mem _ hs)
 now:=fun a j e=>by
  injection e with e;injection e with e1 e2
  subst e1 e2
  exact⟨h.known _ (List.mem_cons_self ..),fun i _ hi=>absurd hi (Nat.not_lt_zero i)⟩
 done:=fun a ha=>by
  rcases h.done a ha with h1|h1|⟨j,h1⟩
  ·rcases List.mem_cons.1 h1 with rfl|h2
   ·exact .inr (.inr ⟨0,rfl⟩)
   ·exact .inl h2
  ·exact .inr (.inl h1)
  ·cases h1
 few:=h.few
 small:=by have:=h.small;simp only[List.length_cons]at this;omega
theorem Srch.pass{fr a:ByteArray}{seen xs:List ByteArray}{j:Nat}(h:Srch rs fr seen xs (some (a,j)))(hj:j<rs.length)(hp:emS rs[j].etype=false→speaks rs[j] a=true→inS seen rs[j].etype=true):Srch rs fr seen xs (some (a,j+1)) where
 come:=h.come
 known:=h.known
 now:=fun b k e=>by
  injection e with e;injection e with e1 e2
  subst e1 e2
  obtain⟨h1,h2⟩:=h.now _ _ rfl
  refine⟨h1,fun i hi hij=>?_⟩
  rcases Nat.lt_succ_iff_lt_or_eq.1 hij with h3|rfl
  ·exact h2 i hi h3
  ·exact hp
 done:=fun b hb=>by
  rcases h.done b hb with h1|h1|⟨k,h1⟩
  ·exact .inl h1
  ·exact .inr (.inl h1)
  ·injection h1 with h1;injection h1 with e1 e2
   subst e1
   exact .inr (.inr ⟨_,rfl⟩)
 few:=h.few
 small:=h.small
theorem Srch.add{fr a:ByteArray}{seen xs:List ByteArray}{j:Nat}(h:Srch rs fr seen xs (some (a,j)))(hj:j<rs.length)(h1:emS rs[j].etype=false)(h2:inS seen rs[j].etype=false)(h3:speaks rs[j] a=true):Srch rs fr (seen++[rs[j].etype]) (xs++[rs[j].etype]) (some (a,j+1)) where
 come:=fun s hs=>by
  rw[List.length_append]
  rw[inS_snoc]at hs
  obtain⟨k1, -⟩:=h.now _ _ rfl
  cases hq:inS seen s with
  |true=>exact comes_mono (h.come s hq) (by simp)
  |false=>
   rw[hq]at hs
   have e:=sameS_eq (show sameS rs[j].etype s=true by simpa using hs)
   rw[←e]
   have hm:rs[j]∈rs:=List.getElem_mem hj
   rcases k1 with rfl|k1
   ·exact comes_mono (comes_intro hm h1 h3 (.inl (sameS_self _)):comesB rs (0+1) rs[j].etype a=true) (by simp)
   ·exact comes_back _ _ _ (h.come a k1) _ hm h1 h3
 known:=fun s hs=>by
  rw[inS_snoc]
  rcases List.mem_append.1 hs with h4|h4
  ·rcases h.known s h4 with h5|h5
   ·exact .inl h5
   ·exact .inr (by rw[h5];rfl)
  ·rw[List.mem_singleton.1 h4,sameS_self];exact .inr (by simp)
 now:=fun b k e=>by
  injection e with e;injection e with e1 e2
  subst e1 e2
  obtain⟨k1,k2⟩:=h.now _ _ rfl
  refine⟨k1.imp id (fun k1=>by rw[inS_snoc,k1];rfl),fun i hi hij=>?_⟩
  rcases Nat.lt_succ_iff_lt_or_eq.1 hij with h5|rfl
  ·exact k2.snoc i hi h5
  ·intro _ _;rw[inS_snoc,sameS_self];simp
 done:=fun b hb=>by
  rw[inS_snoc]at hb
  have key:(b=fr∨inS seen b=true)∨b=rs[j].etype:=by
   rcases hb with hb|hb
   ·exact .inl (.inl hb)
   ·cases hq:inS seen b with
    |true=>exact .inl (.inr rfl)
    |false=>rw[hq]at hb;exact .inr (sameS_eq (show sameS rs[j].etype b=true by simpa using hb)).symm
  rcases key with hb|hb
  ·rcases h.done b hb with h4|h4|⟨k,h4⟩
   ·exact .inl (List.mem_append.2 (.inl h4))
   ·exact .inr (.inl h4.snoc)
   ·injection h4 with h4;injection h4 with e1 e2
    subst e1
    exact .inr (.inr ⟨_,rfl⟩)
  ·exact .inl (List.mem_append.2 (.inr (List.mem_singleton.2 hb)))
 few:=by have:=h.few;have:=unseen_snoc (List.getElem_mem hj) h2;simp only[List.length_append,List.length_cons,List.length_nil];omega
 small:=by have:=h.small;have:=unseen_snoc (List.getElem_mem hj) h2;simp only[List.length_append,List.length_cons,List.length_nil];omega
theorem Srch.next{fr a:ByteArray}{seen xs:List ByteArray}(h:Srch rs fr seen xs (some (a,rs.length))):Srch rs fr seen xs none where
 come:=h.come
 known:=h.known
 now:=fun b k e=>by cases e
 done:=fun b hb=>by
  rcases h.done b hb with h1|h1|⟨k,h1⟩
  ·exact .inl h1
  ·exact .inr (.inl h1)
  ·injection h1 with h1;injection h1 with e1 e2
   subst e1
   exact .inr (.inl (h.now _ _ rfl).2)
 few:=h.few
 small:=h.small
theorem Srch.all{fr:ByteArray}{seen:List ByteArray}(h:Srch rs fr seen [] none): ∀ (k:Nat) (a s:ByteArray),(a=fr∨inS seen a=true)→comesB rs k s a=true→inS seen s=true
 |0,a,s,_,hc=>by unfold comesB at hc;cases hc
 |k+1,a,s,ha,hc=>by
  obtain⟨y,hy,e1,e2,e3⟩:=comes_elim hc
  obtain⟨i,hi,rfl⟩:=List.mem_iff_getElem.1 hy
  have hd:DoneTo rs seen a rs.length:=by
   rcases h.done a ha with h1|h1|⟨j,h1⟩
   ·cases h1
   ·exact h1
   ·cases h1
  have hse:=hd i hi hi e1 e2
  rcases e3 with e|e
  ·rw[←sameS_eq e];exact hse
  ·exact h.all k _ s (.inr hse) e
theorem Srch.ends{fr:ByteArray}{seen:List ByteArray}(h:Srch rs fr seen [] none)(s:ByteArray):inS seen s=comesB rs rs.length s fr:=by
 rw[Bool.eq_iff_iff]
 refine⟨fun hs=>comes_mono (h.come s hs) (by have:=h.few;omega),fun hs=>h.all _ fr s (.inl rfl) hs⟩
end
end Go.Proofs.YtncmghnhfipklaaGreatDoor
