/-
  The arguments of a law, opened: what a reading of a type gives, type by type, with what it weighs. For every program. No condition.
-/
import Derived.Test.YtpnhkkjjdcjmgaaFoot
import Derived.SizedLaws
namespace Go.Proofs.Ytpnhkkjjdcjmgaa
open Go.ChangeShapes Go.WideShapes Go.ChangeAt Go.RowKit Go.Joins Go.Deep
set_option linter.unusedVariables false
def under(B:Nat):Nat→Prop:=fun b=>b<B
def Opens(P:Program)(t k:Nat){α:Type}(R:(Nat→Prop)→World→List Value→α→Prop):Prop:=
 P.cellsOf t=k∧0<k∧ ∀ {H:Type} {enc:TypeId×Value→H} (w:World) (n:Nat) (row:List Value) (y:DataW H×List MemPlace),row.length=k→DataW.trod enc P w 0 (fun _=>true) true n t row=some y→
  (∀ p∈y.2,p.block<w.heap.size)→(∀ q∈y.1.weights P t,q≤reachBytes)→ ∃ x,R (under w.heap.size) w row x
def sliceF{α:Type}(k bytes:Nat)(R:(Nat→Prop)→World→List Value→α→Prop):(Nat→Prop)→World→List Value→List α→Prop:=
 fun F w row xs=> ∃ ao n cap,row=[.slice ao n cap]∧SlF F w k R ao n cap xs∧xs.length*bytes≤140737488351232
theorem sliceF_firm{α:Type}{k bytes:Nat}{R:(Nat→Prop)→World→List Value→α→Prop}(hR:Firm R):Firm (sliceF k bytes R):=
 fun F G w w' row xs hs ⟨ao,n,cap,e,h,h8⟩=>⟨ao,n,cap,e,h.same hR hs,h8⟩
def intF:(Nat→Prop)→World→List Value→Int→Prop:=plainF fun x=>[.int .i64 x]
theorem intF_firm:Firm intF:=plainF_firm _
theorem opens_int{P:Program}{t:TypeId}(ht:P.underlying t=some (.int .i64))(hk:P.cellsOf t=1):Opens P t 1 intF:=
 ⟨hk,by omega,fun w n row y hl h _ _=>by
  match row,hl with
  |[c],_=>
   obtain⟨k,e, -, -⟩:=DataW.trod_int ht h
   exact⟨k,e⟩⟩
def boolF:(Nat→Prop)→World→List Value→Bool→Prop:=plainF fun x=>[.bool x]
theorem opens_bool{P:Program}{t:TypeId}(ht:P.underlying t=some .bool)(hk:P.cellsOf t=1):Opens P t 1 boolF:=
 ⟨hk,by omega,fun w n row y hl h _ _=>by
  match row,hl with
  |[c],_=>
   obtain⟨b,e, -⟩:=DataW.trod_bool ht h
   exact⟨b,e⟩⟩
def strF:(Nat→Prop)→World→List Value→ByteArray→Prop:=fun _ _ row s=>row=[.string s]∧s.size≤140737488351232
theorem strF_firm:Firm strF:=fun _ _ _ _ _ _ _ h=>h
theorem opens_string{P:Program}{t:TypeId}(ht:P.underlying t=some .string)(hk:P.cellsOf t=1):Opens P t 1 strF:=
 ⟨hk,by omega,fun w n row y hl h _ hB=>by
  match row,hl with
  |[c],_=>
   obtain⟨s,e,hy,hs⟩:=DataW.trod_string ht h
   refine⟨s,e,?_⟩
   rw[hy]at hB
   have:=hB s.data.toList.length (by simp[DataW.weights])
   simpa[reachBytes]using this⟩
theorem weightsAll_has{H:Type}{P:Program}{e:TypeId}: ∀ {l:List (DataW H)} {d:DataW H},d∈l→ ∀ n∈d.weights P e,n∈DataW.weightsAll P e l
 |x::l,d,hd,n,hn=>by
  simp only[DataW.weightsAll]
  rcases List.mem_cons.1 hd with rfl|hd
  ·exact List.mem_append_left _ hn
  ·exact List.mem_append_right _ (weightsAll_has hd n hn)
theorem opens_slice{α:Type}{P:Program}{t e k bytes:Nat}{R:(Nat→Prop)→World→List Value→α→Prop}(ht:P.underlying t=some (.slice e))(hk:P.cellsOf t=1)(hb:P.bytesOf e=bytes)(hR:Opens P e k R):Opens P t 1 (sliceF k bytes R):=by
 obtain⟨hke,hk0,hR⟩:=hR
 subst hb
 refine⟨hk,by omega,fun {H enc} w fuel row0 y0 hl0 h hlt hB=>?_⟩
 match row0,hl0 with
 |[v],_=>
 rcases open_slice ht h with⟨hcs,hx⟩|⟨a,len,cap,m,n,D,Pl,hcs,_,hl,hm,hmm,hx,hel⟩
 ·simp only[List.cons.injEq,and_true]at hcs
  exact⟨[],none,0,0,by rw[hcs],SlF.nil,by simp⟩
 ·simp only[List.cons.injEq,and_true]at hcs
  simp only[if_true]at hmm
  subst hmm
  subst hx
  simp only[DataW.weights,ht,List.mem_cons,List.mem_append]at hB
  have hlen8:len*P.bytesOf e≤reachBytes:=Nat.le_trans (Nat.mul_le_mul_right _ (by simp)) (hB _ (Or.inl rfl))
  have key: ∀ i,i<len→ ∃ x:α,∃ b off row,a=⟨b,off,none⟩∧under w.heap.size b∧b<w.heap.size∧RowAt w b (off+i*k) k row∧R (under w.heap.size) w row x:=by
   intro i hi
   obtain⟨cs',h1,h2⟩:=hel i (by omega)
   rw[hke]at h1
   obtain⟨_,hlen,hc⟩:=World.cells?_some h1
   obtain⟨x,hx⟩:=hR w n cs' (D i,Pl i) hlen h2 (fun p hp=>hlt p (by simp only[List.mem_append,List.mem_flatMap,List.mem_range];exact Or.inr ⟨i,by omega,hp⟩)) (fun q hq=>hB q (Or.inr (Or.inl (weightsAll_has (List.mem_map.2 ⟨i,List.mem_range.2 hi,rfl⟩) q hq))))
   obtain⟨cs0,h10,_⟩:=hel 0 (by omega)
   rw[hke]at h10
   obtain⟨_,hlen0,hc0⟩:=World.cells?_some h10
   have hc00:=hc0 0 hk0
   rw[List.getElem?_eq_getElem (by omega)]at hc00
   obtain⟨b,off,spot⟩:=a
   have hspot:spot=none:=by simpa[Addr.add]using World.cell?_spot hc00
   subst hspot
   have hbl:b<w.heap.size:=by simpa[Addr.add]using World.block_lt_of_cell? w _ hc00
   refine⟨x,b,off,cs',rfl,hbl,hbl,⟨hlen,fun j hj=>?_⟩,hx⟩
   have:=hc j hj
   rw[add_add,Go.WideShapes.add_plain]at this
   rw[Nat.add_assoc,this,List.getElem?_eq_getElem (by omega)]
   simp[List.getD,List.getElem?_eq_getElem (show j<cs'.length by omega)]
  have hch: ∃ xs:List α,xs.length=len∧ ∀ i (h:i<xs.length),∃ b off row,a=⟨b,off,none⟩∧under w.heap.size b∧b<w.heap.size∧RowAt w b (off+i*k) k row∧R (under w.heap.size) w row xs[i]:=by
   classical
   refine⟨(List.range len).attach.map (fun i=>Classical.choose (key i.1 (List.mem_range.1 i.2))),by simp,fun i hi=>?_⟩
   have hi' :i<len:=by simpa using hi
   have:=Classical.choose_spec (key i hi')
   simpa using this
  obtain⟨xs,hxl,hxs⟩:=hch
  refine⟨xs,some a,len,_,by rw[hcs],⟨hxl.symm,hl,hm,by simp,fun i hi=>?_⟩,by rw[hxl];exact hlen8⟩
  obtain⟨b,off,row,e,r⟩:=hxs i hi
  exact⟨b,off,row,by rw[e],r⟩
theorem weightsEach_has{H:Type}{P:Program}: ∀ {ts:List TypeId} {ds:List (DataW H)} {j:Nat} {t:TypeId} {d:DataW H},ts[j]?=some t→ds[j]?=some d→ ∀ n∈d.weights P t,n∈DataW.weightsEach P ts ds:=fun h1 h2 n hn=>DataW.weights_mem_each h1 h2 n hn
theorem opens_field{α H:Type}{enc:TypeId×Value→H}{P:Program}{w:World}{t n:Nat}{fs:Array Field}{cs:List Value}{xs:List (DataW H×List MemPlace)}(ht:P.underlying t=some (.struct fs))
  (hf: ∀ (i:Nat) (f:Field),fs[i]?=some f→DataW.trod enc P w 0 (fun _=>true) true n f.type ((cs.drop f.offset).take (P.cellsOf f.type))=xs[i]?)
  (hlt: ∀ p∈xs.flatMap (·.2),p.block<w.heap.size)(hB: ∀ q∈(DataW.agg (xs.map (·.1))).weights P t,q≤reachBytes)
  (i:Nat)(f:Field)(hi:fs[i]?=some f)(hxi:i<xs.length){k:Nat}{R:(Nat→Prop)→World→List Value→α→Prop}(hR:Opens P f.type k R)(row:List Value)(hrow:(cs.drop f.offset).take k=row)(hl:row.length=k):
  ∃ x,R (under w.heap.size) w row x:=by
 obtain⟨hk,hk0,h⟩:=hR
 have h1:=hf i f hi
 rw[hk,hrow,List.getElem?_eq_getElem hxi]at h1
 refine h w n row _ hl h1 (fun p hp=>hlt p (List.mem_flatMap.2 ⟨xs[i],List.getElem_mem hxi,hp⟩)) (fun q hq=>hB q ?_)
 simp only[DataW.weights,ht]
 exact weightsEach_has (j:=i) (t:=f.type) (d:=xs[i].1) (by simp[hi]) (by simp[hxi]) q hq
theorem open_arg{α H:Type}{enc:TypeId×Value→H}{P:Program}{w:World}{t k:Nat}{v:Value}{d:DataW H}{ps:List MemPlace}{R:(Nat→Prop)→World→List Value→α→Prop}(hR:Opens P t k R)(hk:v.cells.toList.length=k)
  (h:DataW.Trod enc P w 0 (fun _=>true) true t v d ps)(hlt: ∀ p∈ps,p.block<w.heap.size)(hB: ∀ q∈d.weights P t,q≤reachBytes): ∃ x,R (under w.heap.size) w v.cells.toList x:=by
 obtain⟨fuel,hf⟩:=h
 exact hR.2.2 w fuel _ _ hk hf hlt hB
end Go.Proofs.Ytpnhkkjjdcjmgaa
