/-
  Closures of watch, and searches with them. Printed by wac.py.
-/
import Derived.Test.YtfahleafppfkaaaGreatDoorWf30
import Derived.Test.YtfahleafppfkaaaGreatDoorWf24
namespace Go.Proofs.YtfahleafppfkaaaGreatDoor
open Go.RowKit
set_option linter.unusedVariables false
set_option linter.unusedSimpArgs false
section
variable {P:Program} {dst:Option Tmp} {oty:TypeId} {pos:String} {after:Array Edge} {g:Option (Nat×Bool)} {l:List Value} {ds:List Deferred} {Q:Exit→Act→World→Prop} {K:Act→World→Prop}
variable {At:PS→World→Prop} {b:Nat} {u w:World} {s:PS} {L:List Ent} {ty j:Nat}
theorem cells_one{v:Value}(h:v.oneCell' =true):v.cells= #[v]:=by cases v<;>first|rfl|(simp[Value.oneCell']at h)
theorem q_boxv{v:Value}(M:Mem At b u w s L)[hy:Nth l j v][h1:OneC v]{F:Nat→List Value}[hd: ∀ z,PutI l dst (.pointer (some ⟨z,0,none⟩)) (F z)](h: ∀ z w',Mem At b u w' s (own z [v] ty::L)→K ⟨(F z).toArray,ds⟩ w'):OWP P ⟨dst,.box ty (.tmp j),oty,pos,after,g⟩ ⟨l.toArray,ds⟩ w K Q:=by
 refine owp_of ?_
 have hy' :=eval_tmp (ds:=ds) hy.nth
 unfold Oper.wp execOp
 simp only[Instr.box,hy',Sem.run_bind,newVar,newRow,newObj,cells_one h1.one]
 have hlow: ∀ y,(own w.heap.size [v] ty).blk=some y→w.heap.size≤y∧y<(w.alloc (.cells [v].toArray ty)).heap.size:=fun y hy=>by
  have e:w.heap.size=y:=by injection hy
  subst e
  simp
 have key:=h w.heap.size (w.alloc (.cells [v].toArray ty)) (M.push (e:=own w.heap.size [v] ty) (Joins.below_alloc1 w _) (own_firm _ _ _) hlow (fun G _=>heap_alloc_new w (.cells [v].toArray ty)))
 rw[←(hd w.heap.size).put]at key
 exact key
class EvsI (l:List Value) (ys:List Operand) (vs:outParam (List Value)):Prop where
 evs: ∀ ds,ys.map (Act.eval ⟨l.toArray,ds⟩)=vs
instance {l:List Value}:EvsI l [] []:=⟨fun _=>rfl⟩
instance {l:List Value}{y:Operand}{ys:List Operand}{v:Value}{vs:List Value}[h:EvI l y v][h' :EvsI l ys vs]:EvsI l (y::ys) (v::vs):=⟨fun ds=>by rw[List.map_cons,h.ev,h'.evs]⟩
theorem q_funcs(fn:Fn){ys:List Operand}{vs:List Value}[hc:EvsI l ys vs]{l' :List Value}[hd:PutI l dst (.func fn #[] vs.toArray) l'](h:K ⟨l'.toArray,ds⟩ w):OWP P ⟨dst,.makeFunc fn #[] ys.toArray,oty,pos,after,g⟩ ⟨l.toArray,ds⟩ w K Q:=by
 refine owp_of ?_
 have hk:K (Act.put ⟨l.toArray,ds⟩ dst (.func fn #[] vs.toArray)) w:=by rw[hd.put];exact h
 unfold Oper.wp execOp
 simp only[Instr.makeFunc,Sem.run_bind,Sem.run_pure,Result.andThen_ok,List.map_toArray,List.map_nil,hc.evs]
 exact hk
theorem Mem.cells_{i z:Nat}{cs:List Value}{t:TypeId}(M:Mem At b u w s L)(hi:L[i]?=some (own z cs t)):w.rangeAt z 0 cs:=(M.own_ (Mem.of_get hi)).range
end
theorem keep_cell{w0:World}{z o:Nat}{v:Value}(hz:z<w0.heap.size)(h:w0.cell? ⟨z,o,none⟩=some v): ∀ wx,Below w0.heap.size w0 wx→wx.cell? ⟨z,o,none⟩=some v:=fun wx hb=>by rw[(bcell hb).1 _ _ hz];exact h
theorem keep_range{w0:World}{z o:Nat}{cs:List Value}(hz:z<w0.heap.size)(h:w0.rangeAt z o cs): ∀ wx,Below w0.heap.size w0 wx→wx.rangeAt z o cs:=fun wx hb j x hj=>by rw[(bcell hb).1 _ _ hz];exact h j x hj
theorem any_idx{α:Type}{l:List α}{pr:α→Bool}:decide ((0:Int)≤placeV (l.findIdx pr) l.length)=l.any pr:=by
 rw[Bool.eq_iff_iff,decide_eq_true_iff,List.any_eq_true,←List.findIdx_lt_length]
 unfold placeV
 by_cases h:l.findIdx pr<l.length
 ·rw[if_pos h];simp[h]
 ·rw[if_neg h];simp[h]
section
variable {g:Nat} {F:Nat→Prop} {ao:Option Addr} {n cap:Nat} {w0:World}
set_option maxRecDepth 8000 in
set_option maxHeartbeats 8000000 in
theorem numEq_any(hg:g<w0.heap.size)(y:Eve)(p:Option Addr)(q r zx:Nat)(k:Int)(hz:zx<w0.heap.size)(h0:w0.cell? ⟨zx,0,none⟩=some (.int .i64 k)):
  Calls Tryz.prog 43 #[.agg #[.int .i64 y.e.number,.int .i64 y.e.type,.int .i64 y.e.start,.int .i64 y.e.stop,.slice p q r],.pointer (some ⟨zx,0,none⟩)] w0 fun e w' =>e= .returned (.bool (y.e.number==k))∧Below w0.heap.size w0 w' :=by
 have M:=Mem.begin hg ⟨0,0⟩
 have HN0:=Lib.hid (keep_cell hz h0)
 clear hg hz h0
 go_enter Tryz.func43,Tryz.ntmps43
 go_wp2_with (with_reducible (first|(refine wB (L:=[]) M ?_;clear M;intro za w1 M)|refine wq M ?_|refine wC (HN0.out _ M.new) ?_))
 go_ret
 exact⟨rfl,M.new⟩
set_option maxRecDepth 8000 in
set_option maxHeartbeats 8000000 in
theorem varEq_any(hg:g<w0.heap.size)(y:Pat)(p:Option Addr)(q r zs:Nat)(nm:ByteArray)(hz:zs<w0.heap.size)(h0:w0.cell? ⟨zs,0,none⟩=some (.string nm)):
  Calls Tryz.prog 86 #[.agg (pat18 y p q r).toArray,.pointer (some ⟨zs,0,none⟩)] w0 fun e w' =>e= .returned (.bool (sameS y.var nm))∧Below w0.heap.size w0 w' :=by
 have M:=Mem.begin hg ⟨0,0⟩
 have HN0:=Lib.hid (keep_cell hz h0)
 unfold pat18
 clear hg hz h0
 go_enter Tryz.func86,Tryz.ntmps86
 go_wp2_with (with_reducible (first|(refine wB (L:=[]) M ?_;clear M;intro za w1 M)|refine wq M ?_|refine wC (HN0.out _ M.new) ?_))
 go_ret
 exact⟨rfl,M.new⟩
set_option maxRecDepth 8000 in
set_option maxHeartbeats 8000000 in
theorem typEq_any(hg:g<w0.heap.size)(y:Typ)(p:Option Addr)(q r zm:Nat)(nm:ByteArray)(hz:zm<w0.heap.size)(h0:w0.cell? ⟨zm,3,none⟩=some (.string nm)):
  Calls Tryz.prog 46 #[.agg #[.string y.name,.slice p q r],.pointer (some ⟨zm,0,none⟩)] w0 fun e w' =>e= .returned (.bool (sameS y.name nm))∧Below w0.heap.size w0 w' :=by
 have M:=Mem.begin hg ⟨0,0⟩
 have HN0:=Lib.hid (keep_cell hz h0)
 clear hg hz h0
 go_enter Tryz.func46,Tryz.ntmps46
 go_wp2_with (with_reducible (first|(refine wB (L:=[]) M ?_;clear M;intro za w1 M)|refine wq M ?_|refine wC (HN0.out _ M.new) ?_))
 go_ret
 exact⟨rfl,M.new⟩
set_option maxRecDepth 8000 in
set_option maxHeartbeats 8000000 in
theorem fldEq_any(hg:g<w0.heap.size)(y:Fld)(zm:Nat)(nm:ByteArray)(hz:zm<w0.heap.size)(h0:w0.cell? ⟨zm,1,none⟩=some (.string nm)):
  Calls Tryz.prog 48 #[.agg #[.string y.name,.int .i64 y.kind],.pointer (some ⟨zm,0,none⟩)] w0 fun e w' =>e= .returned (.bool (sameS y.name nm))∧Below w0.heap.size w0 w' :=by
 have M:=Mem.begin hg ⟨0,0⟩
 have HN0:=Lib.hid (keep_cell hz h0)
 clear hg hz h0
 go_enter Tryz.func48,Tryz.ntmps48
 go_wp2_with (with_reducible (first|(refine wB (L:=[]) M ?_;clear M;intro za w1 M)|refine wq M ?_|refine wC (HN0.out _ M.new) ?_))
 go_ret
 exact⟨rfl,M.new⟩
set_option maxRecDepth 8000 in
set_option maxHeartbeats 8000000 in
theorem optFit_any(hg:g<w0.heap.size)(o:Opt)(za zb:Nat)(s1 s2 t1 t2:Int)(hza:za<w0.heap.size)(hzb:zb<w0.heap.size)(h1:w0.rangeAt za 0 [.int .i64 s1,.int .i64 s2])(h2:w0.rangeAt zb 0 [.int .i64 t1,.int .i64 t2])(ho:optE o.rel o.lo o.hi=0)(hs:bothE s1 s2 t1 t2=0):
  Calls Tryz.prog 87 #[.agg #[.int .i64 o.rel,.int .i64 o.lo,.int .i64 o.hi],.pointer (some ⟨za,0,none⟩),.pointer (some ⟨zb,0,none⟩)] w0 fun e w' =>e= .returned (.bool (fitB o.rel o.lo o.hi s1 s2 t1 t2))∧Below w0.heap.size w0 w' :=by
 have M:=Mem.begin hg ⟨0,0⟩
 have HA0:=Lib.hid (keep_range hza h1)
 have HB0:=Lib.hid (keep_range hzb h2)
 have HF:Hid (∀ wx,Below w0.heap.size w0 wx→Calls Tryz.prog 80 #[.agg #[.int .i64 o.rel,.int .i64 o.lo,.int .i64 o.hi],.agg #[.int .i64 s1,.int .i64 s2],.agg #[.int .i64 t1,.int .i64 t2]] wx fun e w' =>e= .returned (.tuple #[.bool (fitB o.rel o.lo o.hi s1 s2 t1 t2),.int .i64 0])∧Below wx.heap.size wx w'):=fun wx hb=>fits_any _ _ _ _ _ _ _ wx ho hs
 generalize fitB o.rel o.lo o.hi s1 s2 t1 t2=fb at HF ⊢
 clear hg hza hzb h1 h2 ho hs
 go_enter Tryz.func87,Tryz.ntmps87
 go_wp2_with (first|(with_reducible (first|(refine wB (L:=[]) M ?_;clear M;intro za w1 M)|refine wq M ?_|refine wA (HA0.out _ M.new) ?_|refine wA (HB0.out _ M.new) ?_))|(go_at_call 80;with_reducible refine(HF.out _ M.new).mono ?_;rintro e w5 ⟨rfl,hb5⟩;replace M:=M.below hb5;clear hb5))
 go_ret
 exact⟨rfl,M.new⟩
set_option maxRecDepth 8000 in
set_option maxHeartbeats 8000000 in
theorem ixEve(hg:g<w0.heap.size){l:List Eve}(hX:SlF F w0 5 eveF ao n cap l)(pr:Eve→Bool)(zx:Nat)(HC0: ∀ p∈l,∀ so sn sc wx,Below w0.heap.size w0 wx→Calls Tryz.prog 43 #[.agg #[.int .i64 p.e.number,.int .i64 p.e.type,.int .i64 p.e.start,.int .i64 p.e.stop,.slice so sn sc],.pointer (some ⟨zx,0,none⟩)] wx fun e w' =>e= .returned (.bool (pr p))∧Below wx.heap.size wx w'):
  Calls Tryz.prog 72 #[.slice ao n cap,.func (Fn.func 43) #[] #[.pointer (some ⟨zx,0,none⟩)]] w0 fun e w' =>e= .returned (.int .i64 (placeV (l.findIdx pr) l.length))∧Below w0.heap.size w0 w' :=by
 have NL:=Lib.hid hX.len
 have hle:=hX.le
 have M:=Mem.begin hg ⟨0,0⟩
 have HX:=Lib.hid hX
 replace HC0:=Lib.hid HC0
 clear hX hg
 go_enter Tryz.func72,Tryz.ntmps72
 go_wp2_with (with_reducible (first|refine wq M ?_|(refine wS M ?_;clear M;intro w M)|(refine wV M ?_;clear M;intro z w M)|(refine wR M ?_;clear M;intro q w M)))
 go_loopg [8] n (fun f i wr=> ∃ k:Nat,k+f=n∧i= .int .i64 k∧Mem (StaysB g w0) g w0 wr ⟨0,0⟩ []∧Hid (NoB l pr k))
 case atStart=>exact⟨0,by omega,rfl,M,noB_zero _ _⟩
 case round=>
  clear M
  obtain⟨k,hk,rfl,M,HB⟩:=hrel
  by_cases hlt:k<n
  ·have hkl:k<l.length:=by have:=NL.out;omega
   obtain⟨ca,oa,rowa,hixa, -,hrra,hwa⟩:=SlF.rowAt (P:=Tryz.prog) HX.out eveF_firm Tryz.underlying26 size_eve (i:=k) hkl
   obtain⟨p1,q1,s1,ea,u1⟩:=hrra
   subst ea
   have HC:=Lib.hid (HC0.out l[k] (List.getElem_mem hkl) p1 q1 s1)
   have HS:Hid (pr l[k]=true→placeV (l.findIdx pr) l.length=k):=fun h=>place_at HB.out hkl h
   have HT:Hid (pr l[k]=false→NoB l pr (k+1)):=fun h=>noB_succ HB.out hkl h
   have HR:=Lib.hid (fun wx hb=>(hwa wx hb).1)
   clear hwa HB
   generalize l[k]=p at HR HC HS HT
   cases hsm:pr p
   all_goals
    rw[hsm]at HC
    go_wp2_with (first|(with_reducible refine wA (HR.out _ M.new) ?_)|(go_at_call 43;with_reducible refine(HC.out _ M.new).mono ?_;rintro e w5 ⟨rfl,hb5⟩;replace M:=M.below hb5;clear hb5))
   ·have HV:=Lib.hid (HT.out hsm)
    go_roundg (n - (k+1))
    case measure=>omega
    case rel=>exact⟨k+1,by omega,by go_num,M,HV⟩
   ·have HV:=Lib.hid (HS.out hsm)
    go_ret
    rw[HV.out]
    exact⟨rfl,M.new⟩
  ·have HV:Hid (placeV (l.findIdx pr) l.length= -1):=by
    have e:k=l.length:=by have:=NL.out;omega
    exact place_none (e▸HB.out)
   go_wp2_with (with_reducible (first|refine wq M ?_|(refine wS M ?_;clear M;intro w M)|(refine wV M ?_;clear M;intro z w M)|(refine wR M ?_;clear M;intro q w M)))
   go_ret
   rw[HV.out]
   exact⟨rfl,M.new⟩
set_option maxRecDepth 8000 in
set_option maxHeartbeats 8000000 in
theorem conEve(hg:g<w0.heap.size){l:List Eve}(hX:SlF F w0 5 eveF ao n cap l)(pr:Eve→Bool)(zx:Nat)(HC0: ∀ p∈l,∀ so sn sc wx,Below w0.heap.size w0 wx→Calls Tryz.prog 43 #[.agg #[.int .i64 p.e.number,.int .i64 p.e.type,.int .i64 p.e.start,.int .i64 p.e.stop,.slice so sn sc],.pointer (some ⟨zx,0,none⟩)] wx fun e w' =>e= .returned (.bool (pr p))∧Below wx.heap.size wx w'):
  Calls Tryz.prog 35 #[.slice ao n cap,.func (Fn.func 43) #[] #[.pointer (some ⟨zx,0,none⟩)]] w0 fun e w' =>e= .returned (.bool (l.any pr))∧Below w0.heap.size w0 w' :=by
 have M:=Mem.begin hg ⟨0,0⟩
 have HI:Hid (∀ wx,Below w0.heap.size w0 wx→Calls Tryz.prog 72 #[.slice ao n cap,.func (Fn.func 43) #[] #[.pointer (some ⟨zx,0,none⟩)]] wx fun e w' =>e= .returned (.int .i64 (placeV (l.findIdx pr) l.length))∧Below wx.heap.size wx w'):=fun wx hb=>
  ixEve (Nat.lt_of_lt_of_le hg hb.size) (hX.below eveF_firm hb) pr zx (fun p hp so sn sc wy hby=>HC0 p hp so sn sc wy (hb.trans (hby.mono hb.size)))
 rw[←any_idx]
 generalize placeV (l.findIdx pr) l.length=v at HI ⊢
 clear hg hX HC0
 go_enter Tryz.func35,Tryz.ntmps35
 go_wp2_with (go_at_call 72;with_reducible refine(HI.out _ M.new).mono ?_;rintro e w5 ⟨rfl,hb5⟩;replace M:=M.below hb5;clear hb5)
 go_ret
 exact⟨rfl,M.new⟩
set_option maxRecDepth 8000 in
set_option maxHeartbeats 8000000 in
theorem ixPat2(hg:g<w0.heap.size){l:List Pat}(hX:SlF F w0 18 patF ao n cap l)(pr:Pat→Bool)(zs:Nat)(HC0: ∀ p∈l,∀ so sn sc wx,Below w0.heap.size w0 wx→Calls Tryz.prog 86 #[.agg (pat18 p so sn sc).toArray,.pointer (some ⟨zs,0,none⟩)] wx fun e w' =>e= .returned (.bool (pr p))∧Below wx.heap.size wx w'):
  Calls Tryz.prog 76 #[.slice ao n cap,.func (Fn.func 86) #[] #[.pointer (some ⟨zs,0,none⟩)]] w0 fun e w' =>e= .returned (.int .i64 (placeV (l.findIdx pr) l.length))∧Below w0.heap.size w0 w' :=by
 have NL:=Lib.hid hX.len
 have hle:=hX.le
 have M:=Mem.begin hg ⟨0,0⟩
 have HX:=Lib.hid hX
 replace HC0:=Lib.hid HC0
 clear hX hg
 go_enter Tryz.func76,Tryz.ntmps76
 go_wp2_with (with_reducible (first|refine wq M ?_|(refine wS M ?_;clear M;intro w M)|(refine wV M ?_;clear M;intro z w M)|(refine wR M ?_;clear M;intro q w M)))
 go_loopg [8] n (fun f i wr=> ∃ k:Nat,k+f=n∧i= .int .i64 k∧Mem (StaysB g w0) g w0 wr ⟨0,0⟩ []∧Hid (NoB l pr k))
 case atStart=>exact⟨0,by omega,rfl,M,noB_zero _ _⟩
 case round=>
  clear M
  obtain⟨k,hk,rfl,M,HB⟩:=hrel
  by_cases hlt:k<n
  ·have hkl:k<l.length:=by have:=NL.out;omega
   obtain⟨ca,oa,rowa,hixa, -,hrra,hwa⟩:=SlF.rowAt (P:=Tryz.prog) HX.out patF_firm Tryz.underlying53 size_pat (i:=k) hkl
   obtain⟨p1,q1,s1,ea,u1⟩:=patF.open18 hrra
   subst ea
   have HC:=Lib.hid (HC0.out l[k] (List.getElem_mem hkl) p1 q1 s1)
   have HS:Hid (pr l[k]=true→placeV (l.findIdx pr) l.length=k):=fun h=>place_at HB.out hkl h
   have HT:Hid (pr l[k]=false→NoB l pr (k+1)):=fun h=>noB_succ HB.out hkl h
   have HR:=Lib.hid (fun wx hb=>(hwa wx hb).1)
   clear hwa HB
   unfold pat18 at HR HC
   generalize l[k]=p at HR HC HS HT
   cases hsm:pr p
   all_goals
    rw[hsm]at HC
    go_wp2_with (first|(with_reducible refine wA (HR.out _ M.new) ?_)|(go_at_call 86;with_reducible refine(HC.out _ M.new).mono ?_;rintro e w5 ⟨rfl,hb5⟩;replace M:=M.below hb5;clear hb5))
   ·have HV:=Lib.hid (HT.out hsm)
    go_roundg (n - (k+1))
    case measure=>omega
    case rel=>exact⟨k+1,by omega,by go_num,M,HV⟩
   ·have HV:=Lib.hid (HS.out hsm)
    go_ret
    rw[HV.out]
    exact⟨rfl,M.new⟩
  ·have HV:Hid (placeV (l.findIdx pr) l.length= -1):=by
    have e:k=l.length:=by have:=NL.out;omega
    exact place_none (e▸HB.out)
   go_wp2_with (with_reducible (first|refine wq M ?_|(refine wS M ?_;clear M;intro w M)|(refine wV M ?_;clear M;intro z w M)|(refine wR M ?_;clear M;intro q w M)))
   go_ret
   rw[HV.out]
   exact⟨rfl,M.new⟩
set_option maxRecDepth 8000 in
set_option maxHeartbeats 8000000 in
theorem ixOpt(hg:g<w0.heap.size){l:List Opt}(hX:SlF F w0 3 (plainF optC) ao n cap l)(pr:Opt→Bool)(za:Nat)(zb:Nat)(HC0: ∀ p∈l,∀ wx,Below w0.heap.size w0 wx→Calls Tryz.prog 87 #[.agg #[.int .i64 p.rel,.int .i64 p.lo,.int .i64 p.hi],.pointer (some ⟨za,0,none⟩),.pointer (some ⟨zb,0,none⟩)] wx fun e w' =>e= .returned (.bool (pr p))∧Below wx.heap.size wx w'):
  Calls Tryz.prog 119 #[.slice ao n cap,.func (Fn.func 87) #[] #[.pointer (some ⟨za,0,none⟩),.pointer (some ⟨zb,0,none⟩)]] w0 fun e w' =>e= .returned (.int .i64 (placeV (l.findIdx pr) l.length))∧Below w0.heap.size w0 w' :=by
 have NL:=Lib.hid hX.len
 have hle:=hX.le
 have M:=Mem.begin hg ⟨0,0⟩
 have HX:=Lib.hid hX
 replace HC0:=Lib.hid HC0
 clear hX hg
 go_enter Tryz.func119,Tryz.ntmps119
 go_wp2_with (with_reducible (first|refine wq M ?_|(refine wS M ?_;clear M;intro w M)|(refine wV M ?_;clear M;intro z w M)|(refine wR M ?_;clear M;intro q w M)))
 go_loopg [8] n (fun f i wr=> ∃ k:Nat,k+f=n∧i= .int .i64 k∧Mem (StaysB g w0) g w0 wr ⟨0,0⟩ []∧Hid (NoB l pr k))
 case atStart=>exact⟨0,by omega,rfl,M,noB_zero _ _⟩
 case round=>
  clear M
  obtain⟨k,hk,rfl,M,HB⟩:=hrel
  by_cases hlt:k<n
  ·have hkl:k<l.length:=by have:=NL.out;omega
   obtain⟨ca,oa,rowa,hixa, -,hrra,hwa⟩:=SlF.rowAt (P:=Tryz.prog) HX.out (plainF_firm _) Tryz.underlying132 szOpt (i:=k) hkl
   have ea:rowa=optC l[k]:=hrra
   subst ea
   have HC:=Lib.hid (HC0.out l[k] (List.getElem_mem hkl))
   have HS:Hid (pr l[k]=true→placeV (l.findIdx pr) l.length=k):=fun h=>place_at HB.out hkl h
   have HT:Hid (pr l[k]=false→NoB l pr (k+1)):=fun h=>noB_succ HB.out hkl h
   have HR:=Lib.hid (fun wx hb=>(hwa wx hb).1)
   clear hwa HB
   unfold optC at HR
   generalize l[k]=p at HR HC HS HT
   cases hsm:pr p
   all_goals
    rw[hsm]at HC
    go_wp2_with (first|(with_reducible refine wA (HR.out _ M.new) ?_)|(go_at_call 87;with_reducible refine(HC.out _ M.new).mono ?_;rintro e w5 ⟨rfl,hb5⟩;replace M:=M.below hb5;clear hb5))
   ·have HV:=Lib.hid (HT.out hsm)
    go_roundg (n - (k+1))
    case measure=>omega
    case rel=>exact⟨k+1,by omega,by go_num,M,HV⟩
   ·have HV:=Lib.hid (HS.out hsm)
    go_ret
    rw[HV.out]
    exact⟨rfl,M.new⟩
  ·have HV:Hid (placeV (l.findIdx pr) l.length= -1):=by
    have e:k=l.length:=by have:=NL.out;omega
    exact place_none (e▸HB.out)
   go_wp2_with (with_reducible (first|refine wq M ?_|(refine wS M ?_;clear M;intro w M)|(refine wV M ?_;clear M;intro z w M)|(refine wR M ?_;clear M;intro q w M)))
   go_ret
   rw[HV.out]
   exact⟨rfl,M.new⟩
set_option maxRecDepth 8000 in
set_option maxHeartbeats 8000000 in
theorem conOpt(hg:g<w0.heap.size){l:List Opt}(hX:SlF F w0 3 (plainF optC) ao n cap l)(pr:Opt→Bool)(za:Nat)(zb:Nat)(HC0: ∀ p∈l,∀ wx,Below w0.heap.size w0 wx→Calls Tryz.prog 87 #[.agg #[.int .i64 p.rel,.int .i64 p.lo,.int .i64 p.hi],.pointer (some ⟨za,0,none⟩),.pointer (some ⟨zb,0,none⟩)] wx fun e w' =>e= .returned (.bool (pr p))∧Below wx.heap.size wx w'):
  Calls Tryz.prog 78 #[.slice ao n cap,.func (Fn.func 87) #[] #[.pointer (some ⟨za,0,none⟩),.pointer (some ⟨zb,0,none⟩)]] w0 fun e w' =>e= .returned (.bool (l.any pr))∧Below w0.heap.size w0 w' :=by
 have M:=Mem.begin hg ⟨0,0⟩
 have HI:Hid (∀ wx,Below w0.heap.size w0 wx→Calls Tryz.prog 119 #[.slice ao n cap,.func (Fn.func 87) #[] #[.pointer (some ⟨za,0,none⟩),.pointer (some ⟨zb,0,none⟩)]] wx fun e w' =>e= .returned (.int .i64 (placeV (l.findIdx pr) l.length))∧Below wx.heap.size wx w'):=fun wx hb=>
  ixOpt (Nat.lt_of_lt_of_le hg hb.size) (hX.below (plainF_firm _) hb) pr za zb (fun p hp wy hby=>HC0 p hp wy (hb.trans (hby.mono hb.size)))
 rw[←any_idx]
 generalize placeV (l.findIdx pr) l.length=v at HI ⊢
 clear hg hX HC0
 go_enter Tryz.func78,Tryz.ntmps78
 go_wp2_with (go_at_call 119;with_reducible refine(HI.out _ M.new).mono ?_;rintro e w5 ⟨rfl,hb5⟩;replace M:=M.below hb5;clear hb5)
 go_ret
 exact⟨rfl,M.new⟩
set_option maxRecDepth 8000 in
set_option maxHeartbeats 8000000 in
theorem ixTyp(hg:g<w0.heap.size){l:List Typ}(hX:SlF F w0 2 typF ao n cap l)(pr:Typ→Bool)(zm:Nat)(HC0: ∀ p∈l,∀ so sn sc wx,Below w0.heap.size w0 wx→Calls Tryz.prog 46 #[.agg #[.string p.name,.slice so sn sc],.pointer (some ⟨zm,0,none⟩)] wx fun e w' =>e= .returned (.bool (pr p))∧Below wx.heap.size wx w'):
  Calls Tryz.prog 45 #[.slice ao n cap,.func (Fn.func 46) #[] #[.pointer (some ⟨zm,0,none⟩)]] w0 fun e w' =>e= .returned (.int .i64 (placeV (l.findIdx pr) l.length))∧Below w0.heap.size w0 w' :=by
 have NL:=Lib.hid hX.len
 have hle:=hX.le
 have M:=Mem.begin hg ⟨0,0⟩
 have HX:=Lib.hid hX
 replace HC0:=Lib.hid HC0
 clear hX hg
 go_enter Tryz.func45,Tryz.ntmps45
 go_wp2_with (with_reducible (first|refine wq M ?_|(refine wS M ?_;clear M;intro w M)|(refine wV M ?_;clear M;intro z w M)|(refine wR M ?_;clear M;intro q w M)))
 go_loopg [8] n (fun f i wr=> ∃ k:Nat,k+f=n∧i= .int .i64 k∧Mem (StaysB g w0) g w0 wr ⟨0,0⟩ []∧Hid (NoB l pr k))
 case atStart=>exact⟨0,by omega,rfl,M,noB_zero _ _⟩
 case round=>
  clear M
  obtain⟨k,hk,rfl,M,HB⟩:=hrel
  by_cases hlt:k<n
  ·have hkl:k<l.length:=by have:=NL.out;omega
   obtain⟨ca,oa,rowa,hixa, -,hrra,hwa⟩:=SlF.rowAt (P:=Tryz.prog) HX.out typF_firm Tryz.underlying22 size_typ (i:=k) hkl
   obtain⟨p1,q1,s1,ea,u1⟩:=hrra
   subst ea
   have HC:=Lib.hid (HC0.out l[k] (List.getElem_mem hkl) p1 q1 s1)
   have HS:Hid (pr l[k]=true→placeV (l.findIdx pr) l.length=k):=fun h=>place_at HB.out hkl h
   have HT:Hid (pr l[k]=false→NoB l pr (k+1)):=fun h=>noB_succ HB.out hkl h
   have HR:=Lib.hid (fun wx hb=>(hwa wx hb).1)
   clear hwa HB
   unfold typC at HR
   generalize l[k]=p at HR HC HS HT
   cases hsm:pr p
   all_goals
    rw[hsm]at HC
    go_wp2_with (first|(with_reducible refine wA (HR.out _ M.new) ?_)|(go_at_call 46;with_reducible refine(HC.out _ M.new).mono ?_;rintro e w5 ⟨rfl,hb5⟩;replace M:=M.below hb5;clear hb5))
   ·have HV:=Lib.hid (HT.out hsm)
    go_roundg (n - (k+1))
    case measure=>omega
    case rel=>exact⟨k+1,by omega,by go_num,M,HV⟩
   ·have HV:=Lib.hid (HS.out hsm)
    go_ret
    rw[HV.out]
    exact⟨rfl,M.new⟩
  ·have HV:Hid (placeV (l.findIdx pr) l.length= -1):=by
    have e:k=l.length:=by have:=NL.out;omega
    exact place_none (e▸HB.out)
   go_wp2_with (with_reducible (first|refine wq M ?_|(refine wS M ?_;clear M;intro w M)|(refine wV M ?_;clear M;intro z w M)|(refine wR M ?_;clear M;intro q w M)))
   go_ret
   rw[HV.out]
   exact⟨rfl,M.new⟩
set_option maxRecDepth 8000 in
set_option maxHeartbeats 8000000 in
theorem ixFld(hg:g<w0.heap.size){l:List Fld}(hX:SlF F w0 2 (plainF fldC) ao n cap l)(pr:Fld→Bool)(zm:Nat)(HC0: ∀ p∈l,∀ wx,Below w0.heap.size w0 wx→Calls Tryz.prog 48 #[.agg #[.string p.name,.int .i64 p.kind],.pointer (some ⟨zm,0,none⟩)] wx fun e w' =>e= .returned (.bool (pr p))∧Below wx.heap.size wx w'):
  Calls Tryz.prog 47 #[.slice ao n cap,.func (Fn.func 48) #[] #[.pointer (some ⟨zm,0,none⟩)]] w0 fun e w' =>e= .returned (.int .i64 (placeV (l.findIdx pr) l.length))∧Below w0.heap.size w0 w' :=by
 have NL:=Lib.hid hX.len
 have hle:=hX.le
 have M:=Mem.begin hg ⟨0,0⟩
 have HX:=Lib.hid hX
 replace HC0:=Lib.hid HC0
 clear hX hg
 go_enter Tryz.func47,Tryz.ntmps47
 go_wp2_with (with_reducible (first|refine wq M ?_|(refine wS M ?_;clear M;intro w M)|(refine wV M ?_;clear M;intro z w M)|(refine wR M ?_;clear M;intro q w M)))
 go_loopg [8] n (fun f i wr=> ∃ k:Nat,k+f=n∧i= .int .i64 k∧Mem (StaysB g w0) g w0 wr ⟨0,0⟩ []∧Hid (NoB l pr k))
 case atStart=>exact⟨0,by omega,rfl,M,noB_zero _ _⟩
 case round=>
  clear M
  obtain⟨k,hk,rfl,M,HB⟩:=hrel
  by_cases hlt:k<n
  ·have hkl:k<l.length:=by have:=NL.out;omega
   obtain⟨ca,oa,rowa,hixa, -,hrra,hwa⟩:=SlF.rowAt (P:=Tryz.prog) HX.out (plainF_firm _) Tryz.underlying67 szFld (i:=k) hkl
   have ea:rowa=fldC l[k]:=hrra
   subst ea
   have HC:=Lib.hid (HC0.out l[k] (List.getElem_mem hkl))
   have HS:Hid (pr l[k]=true→placeV (l.findIdx pr) l.length=k):=fun h=>place_at HB.out hkl h
   have HT:Hid (pr l[k]=false→NoB l pr (k+1)):=fun h=>noB_succ HB.out hkl h
   have HR:=Lib.hid (fun wx hb=>(hwa wx hb).1)
   clear hwa HB
   unfold fldC at HR
   generalize l[k]=p at HR HC HS HT
   cases hsm:pr p
   all_goals
    rw[hsm]at HC
    go_wp2_with (first|(with_reducible refine wA (HR.out _ M.new) ?_)|(go_at_call 48;with_reducible refine(HC.out _ M.new).mono ?_;rintro e w5 ⟨rfl,hb5⟩;replace M:=M.below hb5;clear hb5))
   ·have HV:=Lib.hid (HT.out hsm)
    go_roundg (n - (k+1))
    case measure=>omega
    case rel=>exact⟨k+1,by omega,by go_num,M,HV⟩
   ·have HV:=Lib.hid (HS.out hsm)
    go_ret
    rw[HV.out]
    exact⟨rfl,M.new⟩
  ·have HV:Hid (placeV (l.findIdx pr) l.length= -1):=by
    have e:k=l.length:=by have:=NL.out;omega
    exact place_none (e▸HB.out)
   go_wp2_with (with_reducible (first|refine wq M ?_|(refine wS M ?_;clear M;intro w M)|(refine wV M ?_;clear M;intro z w M)|(refine wR M ?_;clear M;intro q w M)))
   go_ret
   rw[HV.out]
   exact⟨rfl,M.new⟩
end
end Go.Proofs.YtfahleafppfkaaaGreatDoor
