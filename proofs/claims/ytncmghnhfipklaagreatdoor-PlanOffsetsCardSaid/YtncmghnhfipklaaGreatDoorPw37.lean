/-
  A book as an argument, opened: its types, its rules, and that all texts fit.
-/
import Derived.Test.YtncmghnhfipklaaGreatDoorPw36
import Derived.Test.YtncmghnhfipklaaGreatDoorPu00
import Derived.Test.YtncmghnhfipklaaGreatDoorPw31
import Derived.Test.YtncmghnhfipklaaGreatDoorPw32
namespace Go.Proofs.YtncmghnhfipklaaGreatDoor
open Go.ChangeShapes Go.WideShapes Go.ChangeAt Go.RowKit Go.Joins Go.Deep
set_option linter.unusedVariables false
set_option linter.unusedSimpArgs false
def OpensAt{H:Type}(enc:TypeId×Value→H)(P:Program)(w:World)(t k:Nat){α:Type}(R:(Nat→Prop)→World→List Value→α→Prop)(N:Nat):Prop:=
 ∀ (n:Nat) (row:List Value) (y:DataW H×List MemPlace),row.length=k→DataW.trod enc P w 0 (fun _=>true) true n t row=some y→
  (∀ p∈y.2,p.block<w.heap.size)→(∀ q∈y.1.weights P t,q≤reachBytes)→SizeOf.sizeOf y.1<N→ ∃ x,R (under w.heap.size) w row x
theorem Opens.at_{H:Type}{enc:TypeId×Value→H}{P:Program}{w:World}{t k:Nat}{α:Type}{R:(Nat→Prop)→World→List Value→α→Prop}(h:Opens P t k R)(N:Nat):OpensAt enc P w t k R N:=
 fun n row y hl ht hlt hB _=>h.2.2 w n row y hl ht hlt hB
def slIn{α:Type}(k:Nat)(R:(Nat→Prop)→World→List Value→α→Prop):(Nat→Prop)→World→List Value→List α→Prop:=
 fun F w row xs=> ∃ ao n cap,row=[.slice ao n cap]∧SlF F w k R ao n cap xs
theorem mem_size{H:Type}{ds:List (DataW H)}{d:DataW H}(h:d∈ds):SizeOf.sizeOf d<SizeOf.sizeOf ds:=List.sizeOf_lt_of_mem h
theorem sliceAt{α:Type}{H:Type}{enc:TypeId×Value→H}{P:Program}{w:World}{t e k:Nat}{R:(Nat→Prop)→World→List Value→α→Prop}(ht:P.underlying t=some (.slice e))(hke:P.cellsOf e=k)(hk0:0<k)(N:Nat)(hR:OpensAt enc P w e k R N):OpensAt enc P w t 1 (slIn k R) (N+1):=by
 intro fuel row0 y0 hl0 h hlt hB hN
 match row0,hl0 with
 |[v],_=>
 rcases open_slice ht h with⟨hcs,hx⟩|⟨a,len,cap,m,n,D,Pl,hcs,_,hl,hm,hmm,hx,hel⟩
 ·simp only[List.cons.injEq,and_true]at hcs
  exact⟨[],none,0,0,by rw[hcs],SlF.nil⟩
 ·simp only[List.cons.injEq,and_true]at hcs
  simp only[if_true]at hmm
  subst hmm
  subst hx
  simp only[DataW.weights,ht,List.mem_cons,List.mem_append]at hB
  have hsz: ∀ i,i<len→SizeOf.sizeOf (D i)<N:=fun i hi=>by
   have h1:=mem_size (List.mem_map.2 ⟨i,List.mem_range.2 hi,rfl⟩:D i∈(List.range len).map D)
   simp only[DataW.slice.sizeOf_spec]at hN
   omega
  have key: ∀ i,i<len→ ∃ x:α,∃ b off row,a=⟨b,off,none⟩∧under w.heap.size b∧b<w.heap.size∧RowAt w b (off+i*k) k row∧R (under w.heap.size) w row x:=by
   intro i hi
   obtain⟨cs',h1,h2⟩:=hel i (by omega)
   rw[hke]at h1
   obtain⟨_,hlen,hc⟩:=World.cells?_some h1
   obtain⟨x,hx⟩:=hR n cs' (D i,Pl i) hlen h2 (fun p hp=>hlt p (by simp only[List.mem_append,List.mem_flatMap,List.mem_range];exact Or.inr ⟨i,by omega,hp⟩)) (fun q hq=>hB q (Or.inr (Or.inl (weightsAll_has (List.mem_map.2 ⟨i,List.mem_range.2 hi,rfl⟩) q hq)))) (hsz i hi)
   obtain⟨cs0,h10,_⟩:=hel 0 (by omega)
   rw[hke]at h10
   obtain⟨_,hlen0,hc0⟩:=World.cells?_some h10
   have hc00:=hc0 0 hk0
   rw[List.getElem?_eq_getElem (by omega)]at hc00
   obtain⟨b,off,spot⟩:=a
   have hspot:spot=none:=by simpa[Addr.add]using World.cell?_spot hc00
   subst hspot
   have hbl:b<w.heap.size:=by simpa[Addr.add]using World.block_lt_of_cell? w _ hc00
   refine⟨x,b,off,cs',rfl,hbl,hbl,⟨hlen,fun j hj=>?_⟩,hx⟩
   have:=hc j hj
   rw[add_add,Go.WideShapes.add_plain]at this
   rw[Nat.add_assoc,this,List.getElem?_eq_getElem (by omega)]
   simp[List.getD,List.getElem?_eq_getElem (show j<cs'.length by omega)]
  have hch: ∃ xs:List α,xs.length=len∧ ∀ i (h:i<xs.length),∃ b off row,a=⟨b,off,none⟩∧under w.heap.size b∧b<w.heap.size∧RowAt w b (off+i*k) k row∧R (under w.heap.size) w row xs[i]:=by
   classical
   refine⟨(List.range len).attach.map (fun i=>Classical.choose (key i.1 (List.mem_range.1 i.2))),by simp,fun i hi=>?_⟩
   have hi' :i<len:=by simpa using hi
   have:=Classical.choose_spec (key i hi')
   simpa using this
  obtain⟨xs,hxl,hxs⟩:=hch
  refine⟨xs,some a,len,_,by rw[hcs],⟨hxl.symm,hl,hm,by simp,fun i hi=>?_⟩⟩
  obtain⟨b,off,row,e,r⟩:=hxs i hi
  exact⟨b,off,row,by rw[e],r⟩
theorem fieldS{α H:Type}{enc:TypeId×Value→H}{P:Program}{w:World}{t n:Nat}{fs:Array Field}{cs:List Value}{xs:List (DataW H×List MemPlace)}(ht:P.underlying t=some (.struct fs))
  (hf: ∀ (i:Nat) (f:Field),fs[i]?=some f→DataW.trod enc P w 0 (fun _=>true) true n f.type ((cs.drop f.offset).take (P.cellsOf f.type))=xs[i]?)
  (hlt: ∀ p∈xs.flatMap (·.2),p.block<w.heap.size)(hB: ∀ q∈(DataW.agg (xs.map (·.1))).weights P t,q≤reachBytes){N:Nat}(hN:SizeOf.sizeOf (DataW.agg (xs.map (·.1)))<N+1)
  (i:Nat)(f:Field)(hi:fs[i]?=some f)(hxi:i<xs.length){k:Nat}(hk:P.cellsOf f.type=k){R:(Nat→Prop)→World→List Value→α→Prop}(hR:OpensAt enc P w f.type k R N)(row:List Value)(hrow:(cs.drop f.offset).take k=row)(hl:row.length=k):
  ∃ x,R (under w.heap.size) w row x:=by
 have h1:=hf i f hi
 rw[hk,hrow,List.getElem?_eq_getElem hxi]at h1
 refine hR n row _ hl h1 (fun p hp=>hlt p (List.mem_flatMap.2 ⟨xs[i],List.getElem_mem hxi,hp⟩)) (fun q hq=>hB q ?_) ?_
 ·simp only[DataW.weights,ht]
  exact weightsEach_has (j:=i) (t:=f.type) (d:=xs[i].1) (by simp[hi]) (by simp[hxi]) q hq
 ·have h2:=mem_size (List.mem_map.2 ⟨xs[i],List.getElem_mem hxi,rfl⟩:xs[i].1∈xs.map (·.1))
  simp only[DataW.agg.sizeOf_spec]at hN
  omega
theorem SlF.split{α:Type}{F:Nat→Prop}{w:World}{k:Nat}{R:(Nat→Prop)→World→List Value→α→Prop}{p:α→Prop}{ao:Option Addr}{n cap:Nat}{xs:List α}(h:SlF F w k (fun F w row x=>R F w row x∧p x) ao n cap xs):SlF F w k R ao n cap xs∧ ∀ x∈xs,p x:=by
 obtain⟨h1,h2,h3,h5,h4⟩:=h
 refine⟨⟨h1,h2,h3,h5,fun i hi=>?_⟩,fun x hx=>?_⟩
 ·obtain⟨b,off,row,a1,a2,a3,a4,a5⟩:=h4 i hi
  exact⟨b,off,row,a1,a2,a3,a4,a5.1⟩
 ·obtain⟨i,hi,rfl⟩:=List.mem_iff_getElem.1 hx
  obtain⟨b,off,row,a1,a2,a3,a4,a5⟩:=h4 i hi
  exact a5.2
theorem fits{s:ByteArray}(h:s.size≤140737488351232):s.size≤maxLen:=by unfold maxLen;omega
theorem opensAt_zero{α H:Type}{enc:TypeId×Value→H}{P:Program}{w:World}{t k:Nat}{R:(Nat→Prop)→World→List Value→α→Prop}:OpensAt enc P w t k R 0:=fun n row y _ _ _ _ h=>absurd h (Nat.not_lt_zero _)
theorem sliceOf{α H:Type}{enc:TypeId×Value→H}{P:Program}{w:World}{t e k:Nat}{R:(Nat→Prop)→World→List Value→α→Prop}(ht:P.underlying t=some (.slice e))(hke:P.cellsOf e=k)(hk0:0<k)(hR: ∀ N,OpensAt enc P w e k R N): ∀ N,OpensAt enc P w t 1 (slIn k R) N
 |0=>opensAt_zero
 |N+1=>sliceAt ht hke hk0 N (hR N)
section
variable {H:Type} {enc:TypeId×Value→H} {w:World}
theorem at_int(N:Nat):OpensAt enc Tryz.prog w 3 1 intF N:=(opens_int Tryz.underlying3 (by kernel_rfl)).at_ N
theorem at_str(N:Nat):OpensAt enc Tryz.prog w 9 1 strF N:=(opens_string Tryz.underlying9 (by kernel_rfl)).at_ N
def valF:(Nat→Prop)→World→List Value→Int×Int×ByteArray→Prop:=fun _ _ row v=>row=[.int .i64 v.1,.int .i64 v.2.1,.string v.2.2]∧v.2.2.size≤maxLen
set_option maxRecDepth 100000 in
theorem at_val(N:Nat):OpensAt enc Tryz.prog w 55 3 valF N:=by
 match N with
 |0=>exact opensAt_zero
 |N+1=>
 intro n row y hl h hlt hB hN
 obtain⟨xs,k, -,rfl, -,hxl,hf⟩:=DataW.trod_struct Tryz.underlying55 h
 match row,hl,xs,hxl with
 |[c0,c1,c2],_,[y0,y1,y2],_=>
  obtain⟨i0,g0⟩:=fieldS Tryz.underlying55 hf hlt hB hN 0 _ rfl (by simp) (by kernel_rfl) (at_int N) [c0] (by simp) rfl
  obtain⟨i1,g1⟩:=fieldS Tryz.underlying55 hf hlt hB hN 1 _ rfl (by simp) (by kernel_rfl) (at_int N) [c1] (by simp) rfl
  obtain⟨s2,g2,z2⟩:=fieldS Tryz.underlying55 hf hlt hB hN 2 _ rfl (by simp) (by kernel_rfl) (at_str N) [c2] (by simp) rfl
  have g0' :[c0]=[Value.int .i64 i0]:=g0
  injection g0' with g0'
  subst g0'
  have g1' :[c1]=[Value.int .i64 i1]:=g1
  injection g1' with g1'
  subst g1'
  injection g2 with g2
  subst g2
  exact⟨(i0,i1,s2),rfl,fits z2⟩
def opdIn:(Nat→Prop)→World→List Value→Opd→Prop:=fun F w row o=>opdF F w row o∧OpdFit o
set_option maxRecDepth 100000 in
theorem at_opd(N:Nat):OpensAt enc Tryz.prog w 57 6 opdIn N:=by
 match N with
 |0=>exact opensAt_zero
 |N+1=>
 intro n row y hl h hlt hB hN
 obtain⟨xs,k, -,rfl, -,hxl,hf⟩:=DataW.trod_struct Tryz.underlying57 h
 match row,hl,xs,hxl with
 |[c0,c1,c2,c3,c4,c5],_,[y0,y1,y2,y3],_=>
  obtain⟨i0,g0⟩:=fieldS Tryz.underlying57 hf hlt hB hN 0 _ rfl (by simp) (by kernel_rfl) (at_int N) [c0] (by simp) rfl
  obtain⟨v,gv,zv⟩:=fieldS Tryz.underlying57 hf hlt hB hN 1 _ rfl (by simp) (by kernel_rfl) (at_val N) [c1,c2,c3] (by simp) rfl
  obtain⟨s4,g4,z4⟩:=fieldS Tryz.underlying57 hf hlt hB hN 2 _ rfl (by simp) (by kernel_rfl) (at_str N) [c4] (by simp) rfl
  obtain⟨s5,g5,z5⟩:=fieldS Tryz.underlying57 hf hlt hB hN 3 _ rfl (by simp) (by kernel_rfl) (at_str N) [c5] (by simp) rfl
  have g0' :[c0]=[Value.int .i64 i0]:=g0
  injection g0' with g0'
  subst g0'
  injection g4 with g4
  subst g4
  injection g5 with g5
  subst g5
  simp only[List.cons.injEq,and_true]at gv
  obtain⟨rfl,rfl,rfl⟩:=gv
  exact⟨⟨i0,v.1,v.2.1,v.2.2,s4,s5⟩,rfl,zv,fits z4⟩
def fldIn:(Nat→Prop)→World→List Value→Fld→Prop:=fun F w row f=>plainF fldC F w row f∧f.name.size≤maxLen
set_option maxRecDepth 100000 in
theorem at_fld(N:Nat):OpensAt enc Tryz.prog w 67 2 fldIn N:=by
 match N with
 |0=>exact opensAt_zero
 |N+1=>
 intro n row y hl h hlt hB hN
 obtain⟨xs,k, -,rfl, -,hxl,hf⟩:=DataW.trod_struct Tryz.underlying67 h
 match row,hl,xs,hxl with
 |[c0,c1],_,[y0,y1],_=>
  obtain⟨s0,g0,z0⟩:=fieldS Tryz.underlying67 hf hlt hB hN 0 _ rfl (by simp) (by kernel_rfl) (at_str N) [c0] (by simp) rfl
  obtain⟨i1,g1⟩:=fieldS Tryz.underlying67 hf hlt hB hN 1 _ rfl (by simp) (by kernel_rfl) (at_int N) [c1] (by simp) rfl
  have g1' :[c1]=[Value.int .i64 i1]:=g1
  injection g1' with g1'
  subst g1'
  injection g0 with g0
  subst g0
  exact⟨⟨s0,i1⟩,rfl,fits z0⟩
def typIn:(Nat→Prop)→World→List Value→Typ→Prop:=fun F w row t=>typF F w row t∧typOk t
set_option maxRecDepth 100000 in
theorem at_typ(N:Nat):OpensAt enc Tryz.prog w 51 2 typIn N:=by
 match N with
 |0=>exact opensAt_zero
 |N+1=>
 intro n row y hl h hlt hB hN
 obtain⟨xs,k, -,rfl, -,hxl,hf⟩:=DataW.trod_struct Tryz.underlying51 h
 match row,hl,xs,hxl with
 |[c0,c1],_,[y0,y1],_=>
  obtain⟨s0,g0,z0⟩:=fieldS Tryz.underlying51 hf hlt hB hN 0 _ rfl (by simp) (by kernel_rfl) (at_str N) [c0] (by simp) rfl
  obtain⟨x1,a1,n1,p1,g1,S1⟩:=fieldS Tryz.underlying51 hf hlt hB hN 1 _ rfl (by simp) (by kernel_rfl) (sliceOf Tryz.underlying49 (by kernel_rfl) (by omega) at_fld N) [c1] (by simp) rfl
  injection g0 with g0
  subst g0
  injection g1 with g1
  subst g1
  exact⟨⟨s0,x1⟩,⟨a1,n1,p1,rfl,S1.split.1⟩,fits z0,S1.split.2⟩
def condIn:(Nat→Prop)→World→List Value→Cond→Prop:=fun F w row c=>CondF F w row c∧CondFit c
set_option maxRecDepth 100000 in
theorem at_cond(N:Nat):OpensAt enc Tryz.prog w 59 14 condIn N:=by
 induction N using Nat.strongRecOn with
 |ind N ih=>
 match N,ih with
 |0,_=>exact opensAt_zero
 |N+1,ih=>
 intro n row y hl h hlt hB hN
 obtain⟨xs,k, -,rfl, -,hxl,hf⟩:=DataW.trod_struct Tryz.underlying59 h
 match row,hl,xs,hxl with
 |[c0,c1,c2,c3,c4,c5,c6,c7,c8,c9,c10,c11,c12,c13],_,[y0,y1,y2,y3],_=>
  obtain⟨i0,g0⟩:=fieldS Tryz.underlying59 hf hlt hB hN 0 _ rfl (by simp) (by kernel_rfl) (at_int N) [c0] (by simp) rfl
  obtain⟨x1,a1,n1,p1,g1,S1⟩:=fieldS Tryz.underlying59 hf hlt hB hN 1 _ rfl (by simp) (by kernel_rfl) (match N,ih with|0,_=>opensAt_zero|N+1,ih=>sliceAt Tryz.underlying53 (by kernel_rfl) (by omega) N (ih N (by omega))) [c1] (by simp) rfl
  obtain⟨l,gl,zl⟩:=fieldS Tryz.underlying59 hf hlt hB hN 2 _ rfl (by simp) (by kernel_rfl) (at_opd N) [c2,c3,c4,c5,c6,c7] (by simp) rfl
  obtain⟨r,gr,zr⟩:=fieldS Tryz.underlying59 hf hlt hB hN 3 _ rfl (by simp) (by kernel_rfl) (at_opd N) [c8,c9,c10,c11,c12,c13] (by simp) rfl
  have g0' :[c0]=[Value.int .i64 i0]:=g0
  injection g0' with g0'
  subst g0'
  injection g1 with g1
  subst g1
  have gl' :[c2,c3,c4,c5,c6,c7]=opdC l:=gl
  have gr' :[c8,c9,c10,c11,c12,c13]=opdC r:=gr
  unfold opdC at gl' gr'
  simp only[List.cons.injEq,and_true]at gl' gr'
  obtain⟨rfl,rfl,rfl,rfl,rfl,rfl⟩:=gl'
  obtain⟨rfl,rfl,rfl,rfl,rfl,rfl⟩:=gr'
  exact⟨.mk i0 x1 l r,CondF.make i0 l r S1.split.1,.mk zl zr S1.split.2⟩
def patIn:(Nat→Prop)→World→List Value→Pat→Prop:=fun F w row p=>patF F w row p∧PatFit p
set_option maxRecDepth 100000 in
theorem at_pat(N:Nat):OpensAt enc Tryz.prog w 61 18 patIn N:=by
 match N with
 |0=>exact opensAt_zero
 |N+1=>
 intro n row y hl h hlt hB hN
 obtain⟨xs,k, -,rfl, -,hxl,hf⟩:=DataW.trod_struct Tryz.underlying61 h
 match row,hl,xs,hxl with
 |[c0,c1,c2,c3,c4,c5,c6,c7,c8,c9,c10,c11,c12,c13,c14,c15,c16,c17],_,[y0,y1,y2,y3,y4],_=>
  obtain⟨s0,g0,z0⟩:=fieldS Tryz.underlying61 hf hlt hB hN 0 _ rfl (by simp) (by kernel_rfl) (at_str N) [c0] (by simp) rfl
  obtain⟨s1,g1,z1⟩:=fieldS Tryz.underlying61 hf hlt hB hN 1 _ rfl (by simp) (by kernel_rfl) (at_str N) [c1] (by simp) rfl
  obtain⟨c,gc,zc⟩:=fieldS Tryz.underlying61 hf hlt hB hN 2 _ rfl (by simp) (by kernel_rfl) (at_cond N) [c2,c3,c4,c5,c6,c7,c8,c9,c10,c11,c12,c13,c14,c15] (by simp) rfl
  obtain⟨i16,g16⟩:=fieldS Tryz.underlying61 hf hlt hB hN 3 _ rfl (by simp) (by kernel_rfl) (at_int N) [c16] (by simp) rfl
  obtain⟨i17,g17⟩:=fieldS Tryz.underlying61 hf hlt hB hN 4 _ rfl (by simp) (by kernel_rfl) (at_int N) [c17] (by simp) rfl
  have g16' :[c16]=[Value.int .i64 i16]:=g16
  injection g16' with g16'
  subst g16'
  have g17' :[c17]=[Value.int .i64 i17]:=g17
  injection g17' with g17'
  subst g17'
  injection g0 with g0
  subst g0
  injection g1 with g1
  subst g1
  obtain⟨a1,n1,p1,e,hs⟩:=gc.open
  refine⟨⟨s0,s1,c,i16,i17⟩,⟨a1,n1,p1,?_,hs⟩,fits z0,zc⟩
  unfold opdC at e
  simp only[List.cons_append,List.nil_append,List.cons.injEq,and_true]at e
  obtain⟨rfl,rfl,rfl,rfl,rfl,rfl,rfl,rfl,rfl,rfl,rfl,rfl,rfl,rfl⟩:=e
  rfl
def manIn:(Nat→Prop)→World→List Value→Many→Prop:=fun F w row m=>manF F w row m∧PatFit m.pat
set_option maxRecDepth 100000 in
theorem at_man(N:Nat):OpensAt enc Tryz.prog w 63 20 manIn N:=by
 match N with
 |0=>exact opensAt_zero
 |N+1=>
 intro n row y hl h hlt hB hN
 obtain⟨xs,k, -,rfl, -,hxl,hf⟩:=DataW.trod_struct Tryz.underlying63 h
 match row,hl,xs,hxl with
 |[c0,c1,c2,c3,c4,c5,c6,c7,c8,c9,c10,c11,c12,c13,c14,c15,c16,c17,c18,c19],_,[y0,y1,y2],_=>
  obtain⟨i0,g0⟩:=fieldS Tryz.underlying63 hf hlt hB hN 0 _ rfl (by simp) (by kernel_rfl) (at_int N) [c0] (by simp) rfl
  obtain⟨s1,g1,z1⟩:=fieldS Tryz.underlying63 hf hlt hB hN 1 _ rfl (by simp) (by kernel_rfl) (at_str N) [c1] (by simp) rfl
  obtain⟨p,gp,zp⟩:=fieldS Tryz.underlying63 hf hlt hB hN 2 _ rfl (by simp) (by kernel_rfl) (at_pat N) [c2,c3,c4,c5,c6,c7,c8,c9,c10,c11,c12,c13,c14,c15,c16,c17,c18,c19] (by simp) rfl
  have g0' :[c0]=[Value.int .i64 i0]:=g0
  injection g0' with g0'
  subst g0'
  injection g1 with g1
  subst g1
  obtain⟨a1,n1,p1,e,hs⟩:=gp
  refine⟨⟨i0,s1,p⟩,⟨a1,n1,p1,?_,hs⟩,zp⟩
  unfold manC
  rw[←e]
set_option maxRecDepth 100000 in
theorem at_opt(N:Nat):OpensAt enc Tryz.prog w 128 3 (plainF optC) N:=by
 match N with
 |0=>exact opensAt_zero
 |N+1=>
 intro n row y hl h hlt hB hN
 obtain⟨xs,k, -,rfl, -,hxl,hf⟩:=DataW.trod_struct Tryz.underlying128 h
 match row,hl,xs,hxl with
 |[c0,c1,c2],_,[y0,y1,y2],_=>
  obtain⟨i0,g0⟩:=fieldS Tryz.underlying128 hf hlt hB hN 0 _ rfl (by simp) (by kernel_rfl) (at_int N) [c0] (by simp) rfl
  obtain⟨i1,g1⟩:=fieldS Tryz.underlying128 hf hlt hB hN 1 _ rfl (by simp) (by kernel_rfl) (at_int N) [c1] (by simp) rfl
  obtain⟨i2,g2⟩:=fieldS Tryz.underlying128 hf hlt hB hN 2 _ rfl (by simp) (by kernel_rfl) (at_int N) [c2] (by simp) rfl
  have g0' :[c0]=[Value.int .i64 i0]:=g0
  injection g0' with g0'
  subst g0'
  have g1' :[c1]=[Value.int .i64 i1]:=g1
  injection g1' with g1'
  subst g1'
  have g2' :[c2]=[Value.int .i64 i2]:=g2
  injection g2' with g2'
  subst g2'
  exact⟨⟨i0,i1,i2⟩,rfl⟩
set_option maxRecDepth 100000 in
theorem at_lnk(N:Nat):OpensAt enc Tryz.prog w 97 3 lnkF N:=by
 match N with
 |0=>exact opensAt_zero
 |N+1=>
 intro n row y hl h hlt hB hN
 obtain⟨xs,k, -,rfl, -,hxl,hf⟩:=DataW.trod_struct Tryz.underlying97 h
 match row,hl,xs,hxl with
 |[c0,c1,c2],_,[y0,y1,y2],_=>
  obtain⟨s0,g0,z0⟩:=fieldS Tryz.underlying97 hf hlt hB hN 0 _ rfl (by simp) (by kernel_rfl) (at_str N) [c0] (by simp) rfl
  obtain⟨x1,a1,n1,p1,g1,S1⟩:=fieldS Tryz.underlying97 hf hlt hB hN 1 _ rfl (by simp) (by kernel_rfl) (sliceOf Tryz.underlying95 (by kernel_rfl) (by omega) at_opt N) [c1] (by simp) rfl
  obtain⟨s2,g2,z2⟩:=fieldS Tryz.underlying97 hf hlt hB hN 2 _ rfl (by simp) (by kernel_rfl) (at_str N) [c2] (by simp) rfl
  injection g0 with g0
  subst g0
  injection g1 with g1
  subst g1
  injection g2 with g2
  subst g2
  exact⟨⟨s0,x1,s2⟩,a1,n1,p1,rfl,S1⟩
def emiIn:(Nat→Prop)→World→List Value→ByteArray×List Opd→Prop:=fun F w row e=> ∃ a n c,row=[.string e.1,.slice a n c]∧SlF F w 6 opdF a n c e.2∧(∀ o∈e.2,OpdFit o)∧e.1.size≤maxLen
set_option maxRecDepth 100000 in
theorem at_emi(N:Nat):OpensAt enc Tryz.prog w 45 2 emiIn N:=by
 match N with
 |0=>exact opensAt_zero
 |N+1=>
 intro n row y hl h hlt hB hN
 obtain⟨xs,k, -,rfl, -,hxl,hf⟩:=DataW.trod_struct Tryz.underlying45 h
 match row,hl,xs,hxl with
 |[c0,c1],_,[y0,y1],_=>
  obtain⟨s0,g0,z0⟩:=fieldS Tryz.underlying45 hf hlt hB hN 0 _ rfl (by simp) (by kernel_rfl) (at_str N) [c0] (by simp) rfl
  obtain⟨x1,a1,n1,p1,g1,S1⟩:=fieldS Tryz.underlying45 hf hlt hB hN 1 _ rfl (by simp) (by kernel_rfl) (sliceOf Tryz.underlying43 (by kernel_rfl) (by omega) at_opd N) [c1] (by simp) rfl
  injection g0 with g0
  subst g0
  injection g1 with g1
  subst g1
  exact⟨(s0,x1),a1,n1,p1,rfl,S1.split.1,S1.split.2,fits z0⟩
def rulIn:(Nat→Prop)→World→List Value→Rul→Prop:=fun F w row x=>rulF F w row x∧RulFit x∧x.etype.size≤maxLen
set_option maxRecDepth 100000 in
theorem at_rul(N:Nat):OpensAt enc Tryz.prog w 47 7 rulIn N:=by
 match N with
 |0=>exact opensAt_zero
 |N+1=>
 intro n row y hl h hlt hB hN
 obtain⟨xs,k, -,rfl, -,hxl,hf⟩:=DataW.trod_struct Tryz.underlying47 h
 match row,hl,xs,hxl with
 |[c0,c1,c2,c3,c4,c5,c6],_,[y0,y1,y2,y3,y4,y5],_=>
  obtain⟨s0,g0,z0⟩:=fieldS Tryz.underlying47 hf hlt hB hN 0 _ rfl (by simp) (by kernel_rfl) (at_str N) [c0] (by simp) rfl
  obtain⟨x1,a1,n1,p1,g1,S1⟩:=fieldS Tryz.underlying47 hf hlt hB hN 1 _ rfl (by simp) (by kernel_rfl) (sliceOf Tryz.underlying40 (by kernel_rfl) (by omega) at_pat N) [c1] (by simp) rfl
  obtain⟨x2,a2,n2,p2,g2,S2⟩:=fieldS Tryz.underlying47 hf hlt hB hN 2 _ rfl (by simp) (by kernel_rfl) (sliceOf Tryz.underlying40 (by kernel_rfl) (by omega) at_pat N) [c2] (by simp) rfl
  obtain⟨x3,a3,n3,p3,g3,S3⟩:=fieldS Tryz.underlying47 hf hlt hB hN 3 _ rfl (by simp) (by kernel_rfl) (sliceOf Tryz.underlying41 (by kernel_rfl) (by omega) at_man N) [c3] (by simp) rfl
  obtain⟨x4,a4,n4,p4,g4,S4⟩:=fieldS Tryz.underlying47 hf hlt hB hN 4 _ rfl (by simp) (by kernel_rfl) (sliceOf Tryz.underlying42 (by kernel_rfl) (by omega) at_lnk N) [c4] (by simp) rfl
  obtain⟨e,a5,n5,p5,g5,S5,zo,ze⟩:=fieldS Tryz.underlying47 hf hlt hB hN 5 _ rfl (by simp) (by kernel_rfl) (at_emi N) [c5,c6] (by simp) rfl
  injection g0 with g0
  subst g0
  injection g1 with g1
  subst g1
  injection g2 with g2
  subst g2
  injection g3 with g3
  subst g3
  injection g4 with g4
  subst g4
  simp only[List.cons.injEq,and_true]at g5
  obtain⟨rfl,rfl⟩:=g5
  exact⟨⟨s0,x1,x2,x3,x4,e.1,e.2⟩,⟨a1,n1,p1,a2,n2,p2,a3,n3,p3,a4,n4,p4,a5,n5,p5,rfl,S1.split.1,S2.split.1,S3.split.1,S4,S5⟩,⟨fits z0,S1.split.2,S2.split.2,S3.split.2,zo⟩,ze⟩
def bokIn:(Nat→Prop)→World→List Value→Bok→Prop:=fun F w row b=> ∃ a1 n1 c1 a2 n2 c2,row=[.slice a1 n1 c1,.slice a2 n2 c2]∧SlF F w 2 typIn a1 n1 c1 b.types∧SlF F w 7 rulIn a2 n2 c2 b.rules
set_option maxRecDepth 100000 in
theorem at_bok(N:Nat):OpensAt enc Tryz.prog w 25 2 bokIn N:=by
 match N with
 |0=>exact opensAt_zero
 |N+1=>
 intro n row y hl h hlt hB hN
 obtain⟨xs,k, -,rfl, -,hxl,hf⟩:=DataW.trod_struct Tryz.underlying25 h
 match row,hl,xs,hxl with
 |[c0,c1],_,[y0,y1],_=>
  obtain⟨x0,a0,n0,p0,g0,S0⟩:=fieldS Tryz.underlying25 hf hlt hB hN 0 _ rfl (by simp) (by kernel_rfl) (sliceOf Tryz.underlying22 (by kernel_rfl) (by omega) at_typ N) [c0] (by simp) rfl
  obtain⟨x1,a1,n1,p1,g1,S1⟩:=fieldS Tryz.underlying25 hf hlt hB hN 1 _ rfl (by simp) (by kernel_rfl) (sliceOf Tryz.underlying23 (by kernel_rfl) (by omega) at_rul N) [c1] (by simp) rfl
  injection g0 with g0
  subst g0
  injection g1 with g1
  subst g1
  exact⟨⟨x0,x1⟩,a0,n0,p0,a1,n1,p1,rfl,S0,S1⟩
theorem open_book{W:World}{v:Value}{d:DataW H}{ps:List MemPlace}(hk:v.cells.toList.length=2)(h:DataW.Trod enc Tryz.prog W 0 (fun _=>true) true 25 v d ps)(hlt: ∀ p∈ps,p.block<W.heap.size)(hB: ∀ q∈d.weights Tryz.prog 25,q≤reachBytes):
  ∃ (b:Bok) (a1:Option Addr) (n1 c1:Nat) (a2:Option Addr) (n2 c2:Nat),v.cells.toList=[.slice a1 n1 c1,.slice a2 n2 c2]∧SlF (under W.heap.size) W 2 typF a1 n1 c1 b.types∧SlF (under W.heap.size) W 7 rulF a2 n2 c2 b.rules∧(∀ t∈b.types,typOk t)∧(∀ x∈b.rules,RulFit x)∧ ∀ x∈b.rules,x.etype.size≤maxLen:=by
 obtain⟨fuel,hf⟩:=h
 obtain⟨b,a1,n1,c1,a2,n2,c2,e,S1,S2⟩:=at_bok (enc:=enc) (w:=W) (SizeOf.sizeOf d+1) fuel v.cells.toList (d,ps) hk hf hlt hB (Nat.lt_succ_self _)
 have S2' :SlF (under W.heap.size) W 7 (fun F w row x=>rulF F w row x∧(RulFit x∧x.etype.size≤maxLen)) a2 n2 c2 b.rules:=S2
 exact⟨b,a1,n1,c1,a2,n2,c2,e,S1.split.1,S2'.split.1,S1.split.2,fun x hx=>(S2'.split.2 x hx).1,fun x hx=>(S2'.split.2 x hx).2⟩
end
set_option maxRecDepth 100000 in
theorem open_bok{H:Type}{enc:TypeId×Value→H}{W:World}{base:Nat}{v:Value}{d:DataW H}{ps:List MemPlace}(hv:Value.okWide Tryz.prog W .any base 25 v)(h:DataW.Trod enc Tryz.prog W 0 (fun _=>true) true 25 v d ps)(hlt: ∀ p∈ps,p.block<W.heap.size)(hB: ∀ q∈d.weights Tryz.prog 25,q≤reachBytes):
  ∃ (b:Bok) (a1:Option Addr) (n1 c1:Nat) (a2:Option Addr) (n2 c2:Nat),v= .agg #[.slice a1 n1 c1,.slice a2 n2 c2]∧SlF (under W.heap.size) W 2 typF a1 n1 c1 b.types∧SlF (under W.heap.size) W 7 rulF a2 n2 c2 b.rules∧(∀ t∈b.types,typOk t)∧(∀ x∈b.rules,RulFit x)∧ ∀ x∈b.rules,x.etype.size≤maxLen:=by
 obtain⟨cs,rfl,hsz⟩:=okWide_struct Tryz.underlying25 hv
 have hk:Tryz.prog.cellsOf 25=2:=by kernel_rfl
 obtain⟨b,a1,n1,c1,a2,n2,c2,e,r⟩:=open_book (by rw[hk]at hsz;simpa[Value.cells]using hsz) h hlt hB
 refine⟨b,a1,n1,c1,a2,n2,c2,?_,r⟩
 have h1:cs=cs.toList.toArray:=by simp
 have h2:cs.toList=[.slice a1 n1 c1,.slice a2 n2 c2]:=by simpa[Value.cells]using e
 rw[h1,h2]
end Go.Proofs.YtncmghnhfipklaaGreatDoor
/-
  plan.Rule and the reference's PlanOf. Printed by ply.py.
-/
namespace Go.Proofs.YtncmghnhfipklaaGreatDoor
open Go.RowKit
set_option linter.unusedVariables false
set_option linter.unusedSimpArgs false
theorem Mem.dpush{At:PS→World→Prop}{b:Nat}{u w w' :World}{s:PS}{L:List Ent}{D:(Nat→Prop)→World→Prop}(M:Mem At b u w s L)(f:FirmD D)(hb:Below w.heap.size w w')(h:D (from_ w.heap.size) w'):Mem At b u w' s (dat D::L):=
 M.push hb (dat_firm f) (fun z hz=>by cases hz) (fun Q hQ=>f _ _ _ _ ⟨Nat.le_refl _,fun k hk hlt=>⟨hQ k hk hlt (fun q=>by cases q),rfl⟩⟩ h)
def PlnD(p:Pln)(a1:Option Addr)(n1 c1:Nat)(a2:Option Addr)(n2 c2:Nat)(a3:Option Addr)(n3 c3:Nat)(F:Nat→Prop)(w:World):Prop:=SlF F w 1 intF a1 n1 c1 p.whens∧SlF F w 1 intF a2 n2 c2 p.nots∧SlF F w 1 intF a3 n3 c3 p.manies
theorem plnD_mk{p:Pln}{a1 a2 a3:Option Addr}{n1 c1 n2 c2 n3 c3:Nat}{F:Nat→Prop}{w:World}(h1:SlF F w 1 intF a1 n1 c1 p.whens)(h2:SlF F w 1 intF a2 n2 c2 p.nots)(h3:SlF F w 1 intF a3 n3 c3 p.manies):PlnD p a1 n1 c1 a2 n2 c2 a3 n3 c3 F w:=⟨h1,h2,h3⟩
theorem plnD_firm(p:Pln)(a1:Option Addr)(n1 c1:Nat)(a2:Option Addr)(n2 c2:Nat)(a3:Option Addr)(n3 c3:Nat):FirmD (PlnD p a1 n1 c1 a2 n2 c2 a3 n3 c3):=fun F F' w w' hs h=>⟨h.1.same (plainF_firm _) hs,h.2.1.same (plainF_firm _) hs,h.2.2.same (plainF_firm _) hs⟩
section
variable {g:Nat} {F:Nat→Prop} {w0:World}
end
end Go.Proofs.YtncmghnhfipklaaGreatDoor
