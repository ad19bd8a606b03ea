/-
  The law CheckShows, proved: for every argument it answers true; its card, tied to the tables of the program's text. No condition but the tie.
-/
import Derived.Test.YtcebfkdhicbmkaaDoorLaw
import Derived.Test.YtcebfkdhicbmkaaDoorFoot
import Derived.Deep.DeepHandedRow
import Derived.Lib.LaidTab
import Derived.Stop.LaidErr
import Derived.MakeChecks
import Derived.Test.YtcebfkdhicbmkaaDoorRows
import Derived.Test.YtcebfkdhicbmkaaDoorOpen
import Derived.Test.YtcebfkdhicbmkaaDoorPgJQ
import Derived.Test.YtcebfkdhicbmkaaDoorShUm
import Derived.Test.YtcebfkdhicbmkaaDoorShFm
import Derived.Test.YtcebfkdhicbmkaaDoorCards
import Derived.Test.YtcebfkdhicbmkaaDoorTie
namespace Go.Proofs.YtcebfkdhicbmkaaDoor
open Go.ChangeShapes Go.WideShapes Go.ChangeAt Go.RowKit
set_option linter.unusedVariables false
def wordsData{H:Type}(xs:List ByteArray):DataW H:= .agg (xs.map fun s=> .lit (.string s.data.toList))
theorem cells_of_words{H:Type}{enc:TypeId×Value→H}{P:Program}{w:World}{base:Nat}{sp:Nat→Bool}{held:Bool}{fuel:Nat}{t e:TypeId}{n:Nat}{cs:List Value}{zs:List ByteArray}{p:List MemPlace}
  (ht:P.underlying t=some (.array n e))(he:P.underlying e=some .string)(hce:P.cellsOf e=1)(hct:P.cellsOf t=n)
  (h:DataW.trod enc P w base sp held fuel t cs=some (wordsData zs,p)):cs=zs.map Value.string:=by
 cases fuel with
 |zero=>simp[DataW.trod]at h
 |succ fuel=>
  simp only[DataW.trod,ht,hce,hct,Nat.mul_one]at h
  split at h
  ·rename_i hl
   obtain⟨xs,hm,hx⟩:=Option.map_eq_some_iff.1 h
   have hxs:xs.map (·.1)=zs.map fun z=>(DataW.lit (.string z.data.toList):DataW H):=by
    have:=congrArg Prod.fst hx
    simpa[wordsData]using this
   have hxl:xs.length=n:=by simpa using Lib.mapM_length hm
   have hzl:zs.length=n:=by
    have:=congrArg List.length hxs
    simp at this
    omega
   apply List.ext_getElem?
   intro i
   by_cases hi:i<n
   ·obtain⟨b,hb,hf⟩:=Lib.mapM_at hm i i (by simp[hi])
    obtain⟨z,hc,rfl,_⟩:=DataW.trod_string he hf
    have h1:cs[i]?=some (.string z):=by
     have:=congrArg (·[0]?) hc
     simpa[List.getElem?_take,List.getElem?_drop]using this
    have h2:(xs.map (·.1))[i]?=some (DataW.lit (.string z.data.toList):DataW H):=by simp[hb]
    rw[hxs]at h2
    simp only[List.getElem?_map,Option.map_eq_some_iff,DataW.lit.injEq,Lit.string.injEq]at h2
    obtain⟨z',hz',hzz⟩:=h2
    have:z' =z:=by
     apply ByteArray.ext
     apply Array.toList_inj.1
     exact hzz
    subst this
    simp[h1,hz']
   ·rw[List.getElem?_eq_none (by omega),List.getElem?_eq_none (by simp;omega)]
  ·cases h
theorem words_of_head{P:Program}{W:World}{name:String}{zs:List ByteArray}{rest:List (String×DataW Unit)}{g:Nat}{t e:TypeId}{n:Nat}
  (hg:P.globalNamed name=some g)(hty:(P.globals[g]?).map (·.type)=some t)(ht:P.underlying t=some (.array n e))(he:P.underlying e=some .string)(hce:P.cellsOf e=1)(hct:P.cellsOf t=n)
  (h:laidMet P ((name,wordsData zs)::rest) W): ∀ i (hi:i<zs.length),W.cell? ⟨g,i,none⟩=some (.string zs[i]):=by
 obtain⟨ps,⟨g',t',cs,fuel,p,q,hg',ht',hvar,hd,_,_⟩,_⟩:=h
 obtain rfl:=Option.some.inj (hg.symm.trans hg')
 obtain rfl:=Option.some.inj (hty.symm.trans ht')
 have hc:=cells_of_words ht he hce hct hd
 intro i hi
 have:=World.var?_cell hg hvar i
 rw[this,←Array.getElem?_toList,hc]
 simp[hi]
def layCells(h:Array Obj)(b:Nat)(cs:Array Value):Array Obj:=h.modify b fun
 | .cells _ t frozen=> .cells cs t frozen
 |o=>o
theorem lawrow_lift{C:Checked}{os:Os}{f:FuncId}{fn:Func}{s:ChangeSpec}{tb:TypeId}{H:Type}{enc:TypeId×Value→H}{F:Stop.Interp}{laid:List (String×DataW Unit)}
  (own:ownKnob C.prog.godebug=none)(started:os.Started)(noInit:C.prog.inits.idxOf? f=none)(hfn:C.prog.funcs[f]?=some fn)
  (hl:laidOutB C.prog=true)(hread:fn.params.toList.all (fun t=>C.prog.readableRec t&&decide (t<C.prog.types.size))=true)
  (hvars:s.vars=[])(hrt:fn.resultTypes= #[tb])(hub:C.prog.underlying tb=some .bool)
  (hspec: ∀ ds:List (DataW H),ds.length=fn.params.toList.length→s.fn H ds={results:=[.lit (.bool true)],args:=ds})
  (witness: ∃ (w:World) (tape:Tape) (i:Input),w.os=os∧(w.forCall tape i).Shaped C.prog∧i.vars=[]∧Input.okWide C.prog (w.forCall tape i) .any w.heap.size f i∧
   (OpenSpec.ofChange s).preRow enc C.prog fn [] false laid (w.forCall tape i).memory i.args∧({}:Assume).holds C.prog (lone (Frame.enter C.prog f i.args .normal) [] (w.forCall tape i)))
  (walk: ∀ (W:World) (base:Nat) (args:Array Value) (ds:List (DataW H)) (ps:List MemPlace),
   (∀ (j:Nat) t v,fn.params[j]?=some t→args[j]?=some v→Value.okWide C.prog W .any base t v)→
   DataW.TrodAll enc C.prog W 0 (fun _=>true) true fn.params.toList args.toList ds ps→
   (∀ x∈ps,x.block<W.heap.size)→
   (DataW.weightsEach C.prog fn.params.toList ds).all (· ≤reachBytes)=true→laidMetH C.prog laid W→
   Calls C.prog f args W fun e W' =>e= .returned (.bool true)∧Below W.heap.size W W'):
  ReturnsInHanded {} C os f .any ((OpenSpec.ofChange s).preRow enc C.prog fn [] false laid) (((OpenSpec.ofChange s).at F).post enc C.prog fn false true false false):=by
 refine returnsInHanded_of_row (C:=C) (s:=OpenSpec.ofChange s) own started noInit hfn witness ?_
 intro W base args ds gs before hval hW _ _ hsz hL _ _
 have hW' :=hW
 obtain⟨p,q,hA,hV,rfl,_,_⟩:=hW
 have hvars' :(OpenSpec.ofChange s).vars=[]:=hvars
 rw[hvars']at hV
 obtain⟨rfl,rfl⟩:=trodVars_none hV
 have hlt: ∀ x∈p,x.block<W.heap.size:=fun x hx=>by simpa using hW'.lt x (by simp[hx])
 have hlen: ∀ (ts:List TypeId) (vs:List Value) (ds:List (DataW H)) (p:List MemPlace),DataW.TrodAll enc C.prog W 0 (fun _=>true) true ts vs ds p→ds.length=ts.length:=by
  intro ts
  induction ts with
  |nil=>intro vs ds p h;cases vs<;>cases ds<;>first|rfl|exact h.elim
  |cons t ts ih=>
   intro vs ds p h
   cases vs with
   |nil=>exact h.elim
   |cons v vs=>
    cases ds with
    |nil=>exact h.elim
    |cons d ds=>
     obtain⟨_,_,_,h2,_⟩:=h
     simp[ih _ _ _ h2]
 have hsz' :(DataW.weightsEach C.prog fn.params.toList ds).all (· ≤reachBytes)=true:=by
  have e:(OpenSpec.ofChange s).bare.plain.varTypes C.prog=[]:=by
   show DataSpec.varTypes _ _=[]
   simp[DataSpec.varTypes,ChangeSpec.plain,OpenSpec.bare,OpenSpec.ofChange,hvars]
  rw[e]at hsz
  simpa using hsz
 refine(walk W base args ds p (fun j t v h1 h2=>hval j t v h1 h2) hA hlt hsz' hL).mono fun e W' ⟨he,hb⟩=>?_
 have hs:=hspec ds (hlen _ _ _ _ hA)
 refine⟨_,he,?_⟩
 show s.post enc C.prog fn false true false false W args _ W'
 refine⟨ds,[],p++[],[],p,[],hW',?_,?_,?_,hb.frame _,fun h=>by cases h⟩
 ·rw[List.append_nil,hs,hrt]
  exact trodAll_mk1 (shut_bool hub true)
 ·rw[List.append_nil,hs]
  exact trodAll_below hl hb hread hA hlt _ (fun x hx=>by simpa using hlt x hx)
 ·rw[hvars,List.append_nil,hs]
  rfl
end Go.Proofs.YtcebfkdhicbmkaaDoor
/-
  What every law of this seat wants of the program at its lifting. No condition.
-/
namespace Go.Proofs.YtcebfkdhicbmkaaDoor
open Go.ChangeShapes Go.WideShapes Go.ChangeAt Go.RowKit Go.Joins Go.Deep
set_option linter.unusedVariables false

theorem own_knob : ownKnob Tryd.prog.godebug = none := by kernel_rfl
theorem laid_out : laidOutB Tryd.prog = true := by kernel_rfl
theorem opens_i : Opens Tryd.prog 3 1 intF := opens_int Tryd.underlying3 (by kernel_rfl)
end Go.Proofs.YtcebfkdhicbmkaaDoor
/-
  A book as an argument, opened: its types, its rules, and that all texts fit.
-/
namespace Go.Proofs.YtcebfkdhicbmkaaDoor
open Go.ChangeShapes Go.WideShapes Go.ChangeAt Go.RowKit Go.Joins Go.Deep
set_option linter.unusedVariables false
set_option linter.unusedSimpArgs false
def OpensAt{H:Type}(enc:TypeId×Value→H)(P:Program)(w:World)(t k:Nat){α:Type}(R:(Nat→Prop)→World→List Value→α→Prop)(N:Nat):Prop:=
 ∀ (n:Nat) (row:List Value) (y:DataW H×List MemPlace),row.length=k→DataW.trod enc P w 0 (fun _=>true) true n t row=some y→
  (∀ p∈y.2,p.block<w.heap.size)→(∀ q∈y.1.weights P t,q≤reachBytes)→SizeOf.sizeOf y.1<N→ ∃ x,R (under w.heap.size) w row x
theorem Opens.at_{H:Type}{enc:TypeId×Value→H}{P:Program}{w:World}{t k:Nat}{α:Type}{R:(Nat→Prop)→World→List Value→α→Prop}(h:Opens P t k R)(N:Nat):OpensAt enc P w t k R N:=
 fun n row y hl ht hlt hB _=>h.2.2 w n row y hl ht hlt hB
def slIn{α:Type}(k:Nat)(R:(Nat→Prop)→World→List Value→α→Prop):(Nat→Prop)→World→List Value→List α→Prop:=
 fun F w row xs=> ∃ ao n cap,row=[.slice ao n cap]∧SlF F w k R ao n cap xs
theorem mem_size{H:Type}{ds:List (DataW H)}{d:DataW H}(h:d∈ds):SizeOf.sizeOf d<SizeOf.sizeOf ds:=List.sizeOf_lt_of_mem h
theorem sliceAt{α:Type}{H:Type}{enc:TypeId×Value→H}{P:Program}{w:World}{t e k:Nat}{R:(Nat→Prop)→World→List Value→α→Prop}(ht:P.underlying t=some (.slice e))(hke:P.cellsOf e=k)(hk0:0<k)(N:Nat)(hR:OpensAt enc P w e k R N):OpensAt enc P w t 1 (slIn k R) (N+1):=by
 intro fuel row0 y0 hl0 h hlt hB hN
 match row0,hl0 with
 |[v],_=>
 rcases open_slice ht h with⟨hcs,hx⟩|⟨a,len,cap,m,n,D,Pl,hcs,_,hl,hm,hmm,hx,hel⟩
 ·simp only[List.cons.injEq,and_true]at hcs
  exact⟨[],none,0,0,by rw[hcs],SlF.nil⟩
 ·simp only[List.cons.injEq,and_true]at hcs
  simp only[if_true]at hmm
  subst hmm
  subst hx
  simp only[DataW.weights,ht,List.mem_cons,List.mem_append]at hB
  have hsz: ∀ i,i<len→SizeOf.sizeOf (D i)<N:=fun i hi=>by
   have h1:=mem_size (List.mem_map.2 ⟨i,List.mem_range.2 hi,rfl⟩:D i∈(List.range len).map D)
   simp only[DataW.slice.sizeOf_spec]at hN
   omega
  have key: ∀ i,i<len→ ∃ x:α,∃ b off row,a=⟨b,off,none⟩∧under w.heap.size b∧b<w.heap.size∧RowAt w b (off+i*k) k row∧R (under w.heap.size) w row x:=by
   intro i hi
   obtain⟨cs',h1,h2⟩:=hel i (by omega)
   rw[hke]at h1
   obtain⟨_,hlen,hc⟩:=World.cells?_some h1
   obtain⟨x,hx⟩:=hR n cs' (D i,Pl i) hlen h2 (fun p hp=>hlt p (by simp only[List.mem_append,List.mem_flatMap,List.mem_range];exact Or.inr ⟨i,by omega,hp⟩)) (fun q hq=>hB q (Or.inr (Or.inl (weightsAll_has (List.mem_map.2 ⟨i,List.mem_range.2 hi,rfl⟩) q hq)))) (hsz i hi)
   obtain⟨cs0,h10,_⟩:=hel 0 (by omega)
   rw[hke]at h10
   obtain⟨_,hlen0,hc0⟩:=World.cells?_some h10
   have hc00:=hc0 0 hk0
   rw[List.getElem?_eq_getElem (by omega)]at hc00
   obtain⟨b,off,spot⟩:=a
   have hspot:spot=none:=by simpa[Addr.add]using World.cell?_spot hc00
   subst hspot
   have hbl:b<w.heap.size:=by simpa[Addr.add]using World.block_lt_of_cell? w _ hc00
   refine⟨x,b,off,cs',rfl,hbl,hbl,⟨hlen,fun j hj=>?_⟩,hx⟩
   have:=hc j hj
   rw[add_add,Go.WideShapes.add_plain]at this
   rw[Nat.add_assoc,this,List.getElem?_eq_getElem (by omega)]
   simp[List.getD,List.getElem?_eq_getElem (show j<cs'.length by omega)]
  have hch: ∃ xs:List α,xs.length=len∧ ∀ i (h:i<xs.length),∃ b off row,a=⟨b,off,none⟩∧under w.heap.size b∧b<w.heap.size∧RowAt w b (off+i*k) k row∧R (under w.heap.size) w row xs[i]:=by
   classical
   refine⟨(List.range len).attach.map (fun i=>Classical.choose (key i.1 (List.mem_range.1 i.2))),by simp,fun i hi=>?_⟩
   have hi' :i<len:=by simpa using hi
   have:=Classical.choose_spec (key i hi')
   simpa using this
  obtain⟨xs,hxl,hxs⟩:=hch
  refine⟨xs,some a,len,_,by rw[hcs],⟨hxl.symm,hl,hm,by simp,fun i hi=>?_⟩⟩
  obtain⟨b,off,row,e,r⟩:=hxs i hi
  exact⟨b,off,row,by rw[e],r⟩
theorem fieldS{α H:Type}{enc:TypeId×Value→H}{P:Program}{w:World}{t n:Nat}{fs:Array Field}{cs:List Value}{xs:List (DataW H×List MemPlace)}(ht:P.underlying t=some (.struct fs))
  (hf: ∀ (i:Nat) (f:Field),fs[i]?=some f→DataW.trod enc P w 0 (fun _=>true) true n f.type ((cs.drop f.offset).take (P.cellsOf f.type))=xs[i]?)
  (hlt: ∀ p∈xs.flatMap (·.2),p.block<w.heap.size)(hB: ∀ q∈(DataW.agg (xs.map (·.1))).weights P t,q≤reachBytes){N:Nat}(hN:SizeOf.sizeOf (DataW.agg (xs.map (·.1)))<N+1)
  (i:Nat)(f:Field)(hi:fs[i]?=some f)(hxi:i<xs.length){k:Nat}(hk:P.cellsOf f.type=k){R:(Nat→Prop)→World→List Value→α→Prop}(hR:OpensAt enc P w f.type k R N)(row:List Value)(hrow:(cs.drop f.offset).take k=row)(hl:row.length=k):
  ∃ x,R (under w.heap.size) w row x:=by
 have h1:=hf i f hi
 rw[hk,hrow,List.getElem?_eq_getElem hxi]at h1
 refine hR n row _ hl h1 (fun p hp=>hlt p (List.mem_flatMap.2 ⟨xs[i],List.getElem_mem hxi,hp⟩)) (fun q hq=>hB q ?_) ?_
 ·simp only[DataW.weights,ht]
  exact weightsEach_has (j:=i) (t:=f.type) (d:=xs[i].1) (by simp[hi]) (by simp[hxi]) q hq
 ·have h2:=mem_size (List.mem_map.2 ⟨xs[i],List.getElem_mem hxi,rfl⟩:xs[i].1∈xs.map (·.1))
  simp only[DataW.agg.sizeOf_spec]at hN
  omega
theorem SlF.split{α:Type}{F:Nat→Prop}{w:World}{k:Nat}{R:(Nat→Prop)→World→List Value→α→Prop}{p:α→Prop}{ao:Option Addr}{n cap:Nat}{xs:List α}(h:SlF F w k (fun F w row x=>R F w row x∧p x) ao n cap xs):SlF F w k R ao n cap xs∧ ∀ x∈xs,p x:=by
 obtain⟨h1,h2,h3,h5,h4⟩:=h
 refine⟨⟨h1,h2,h3,h5,fun i hi=>?_⟩,fun x hx=>?_⟩
 ·obtain⟨b,off,row,a1,a2,a3,a4,a5⟩:=h4 i hi
  exact⟨b,off,row,a1,a2,a3,a4,a5.1⟩
 ·obtain⟨i,hi,rfl⟩:=List.mem_iff_getElem.1 hx
  obtain⟨b,off,row,a1,a2,a3,a4,a5⟩:=h4 i hi
  exact a5.2
theorem fits{s:ByteArray}(h:s.size≤140737488351232):s.size≤maxLen:=by unfold maxLen;omega
theorem opensAt_zero{α H:Type}{enc:TypeId×Value→H}{P:Program}{w:World}{t k:Nat}{R:(Nat→Prop)→World→List Value→α→Prop}:OpensAt enc P w t k R 0:=fun n row y _ _ _ _ h=>absurd h (Nat.not_lt_zero _)
theorem sliceOf{α H:Type}{enc:TypeId×Value→H}{P:Program}{w:World}{t e k:Nat}{R:(Nat→Prop)→World→List Value→α→Prop}(ht:P.underlying t=some (.slice e))(hke:P.cellsOf e=k)(hk0:0<k)(hR: ∀ N,OpensAt enc P w e k R N): ∀ N,OpensAt enc P w t 1 (slIn k R) N
 |0=>opensAt_zero
 |N+1=>sliceAt ht hke hk0 N (hR N)
section
variable {H:Type} {enc:TypeId×Value→H} {w:World}
theorem at_int(N:Nat):OpensAt enc Tryd.prog w 3 1 intF N:=(opens_int Tryd.underlying3 (by kernel_rfl)).at_ N
theorem at_str(N:Nat):OpensAt enc Tryd.prog w 9 1 strF N:=(opens_string Tryd.underlying9 (by kernel_rfl)).at_ N
def valF:(Nat→Prop)→World→List Value→Int×Int×ByteArray→Prop:=fun _ _ row v=>row=[.int .i64 v.1,.int .i64 v.2.1,.string v.2.2]∧v.2.2.size≤maxLen
set_option maxRecDepth 100000 in
theorem at_val(N:Nat):OpensAt enc Tryd.prog w 63 3 valF N:=by
 match N with
 |0=>exact opensAt_zero
 |N+1=>
 intro n row y hl h hlt hB hN
 obtain⟨xs,k, -,rfl, -,hxl,hf⟩:=DataW.trod_struct Tryd.underlying63 h
 match row,hl,xs,hxl with
 |[c0,c1,c2],_,[y0,y1,y2],_=>
  obtain⟨i0,g0⟩:=fieldS Tryd.underlying63 hf hlt hB hN 0 _ rfl (by simp) (by kernel_rfl) (at_int N) [c0] (by simp) rfl
  obtain⟨i1,g1⟩:=fieldS Tryd.underlying63 hf hlt hB hN 1 _ rfl (by simp) (by kernel_rfl) (at_int N) [c1] (by simp) rfl
  obtain⟨s2,g2,z2⟩:=fieldS Tryd.underlying63 hf hlt hB hN 2 _ rfl (by simp) (by kernel_rfl) (at_str N) [c2] (by simp) rfl
  have g0' :[c0]=[Value.int .i64 i0]:=g0
  injection g0' with g0'
  subst g0'
  have g1' :[c1]=[Value.int .i64 i1]:=g1
  injection g1' with g1'
  subst g1'
  injection g2 with g2
  subst g2
  exact⟨(i0,i1,s2),rfl,fits z2⟩
def opdIn:(Nat→Prop)→World→List Value→Opd→Prop:=fun F w row o=>opdF F w row o∧OpdFit o
set_option maxRecDepth 100000 in
theorem at_opd(N:Nat):OpensAt enc Tryd.prog w 65 6 opdIn N:=by
 match N with
 |0=>exact opensAt_zero
 |N+1=>
 intro n row y hl h hlt hB hN
 obtain⟨xs,k, -,rfl, -,hxl,hf⟩:=DataW.trod_struct Tryd.underlying65 h
 match row,hl,xs,hxl with
 |[c0,c1,c2,c3,c4,c5],_,[y0,y1,y2,y3],_=>
  obtain⟨i0,g0⟩:=fieldS Tryd.underlying65 hf hlt hB hN 0 _ rfl (by simp) (by kernel_rfl) (at_int N) [c0] (by simp) rfl
  obtain⟨v,gv,zv⟩:=fieldS Tryd.underlying65 hf hlt hB hN 1 _ rfl (by simp) (by kernel_rfl) (at_val N) [c1,c2,c3] (by simp) rfl
  obtain⟨s4,g4,z4⟩:=fieldS Tryd.underlying65 hf hlt hB hN 2 _ rfl (by simp) (by kernel_rfl) (at_str N) [c4] (by simp) rfl
  obtain⟨s5,g5,z5⟩:=fieldS Tryd.underlying65 hf hlt hB hN 3 _ rfl (by simp) (by kernel_rfl) (at_str N) [c5] (by simp) rfl
  have g0' :[c0]=[Value.int .i64 i0]:=g0
  injection g0' with g0'
  subst g0'
  injection g4 with g4
  subst g4
  injection g5 with g5
  subst g5
  simp only[List.cons.injEq,and_true]at gv
  obtain⟨rfl,rfl,rfl⟩:=gv
  exact⟨⟨i0,v.1,v.2.1,v.2.2,s4,s5⟩,rfl,zv,fits z4⟩
def fldIn:(Nat→Prop)→World→List Value→Fld→Prop:=fun F w row f=>plainF fldC F w row f∧f.name.size≤maxLen
set_option maxRecDepth 100000 in
theorem at_fld(N:Nat):OpensAt enc Tryd.prog w 41 2 fldIn N:=by
 match N with
 |0=>exact opensAt_zero
 |N+1=>
 intro n row y hl h hlt hB hN
 obtain⟨xs,k, -,rfl, -,hxl,hf⟩:=DataW.trod_struct Tryd.underlying41 h
 match row,hl,xs,hxl with
 |[c0,c1],_,[y0,y1],_=>
  obtain⟨s0,g0,z0⟩:=fieldS Tryd.underlying41 hf hlt hB hN 0 _ rfl (by simp) (by kernel_rfl) (at_str N) [c0] (by simp) rfl
  obtain⟨i1,g1⟩:=fieldS Tryd.underlying41 hf hlt hB hN 1 _ rfl (by simp) (by kernel_rfl) (at_int N) [c1] (by simp) rfl
  have g1' :[c1]=[Value.int .i64 i1]:=g1
  injection g1' with g1'
  subst g1'
  injection g0 with g0
  subst g0
  exact⟨⟨s0,i1⟩,rfl,fits z0⟩
def typIn:(Nat→Prop)→World→List Value→Typ→Prop:=fun F w row t=>typF F w row t∧typOk t
set_option maxRecDepth 100000 in
theorem at_typ(N:Nat):OpensAt enc Tryd.prog w 38 2 typIn N:=by
 match N with
 |0=>exact opensAt_zero
 |N+1=>
 intro n row y hl h hlt hB hN
 obtain⟨xs,k, -,rfl, -,hxl,hf⟩:=DataW.trod_struct Tryd.underlying38 h
 match row,hl,xs,hxl with
 |[c0,c1],_,[y0,y1],_=>
  obtain⟨s0,g0,z0⟩:=fieldS Tryd.underlying38 hf hlt hB hN 0 _ rfl (by simp) (by kernel_rfl) (at_str N) [c0] (by simp) rfl
  obtain⟨x1,a1,n1,p1,g1,S1⟩:=fieldS Tryd.underlying38 hf hlt hB hN 1 _ rfl (by simp) (by kernel_rfl) (sliceOf Tryd.underlying36 (by kernel_rfl) (by omega) at_fld N) [c1] (by simp) rfl
  injection g0 with g0
  subst g0
  injection g1 with g1
  subst g1
  exact⟨⟨s0,x1⟩,⟨a1,n1,p1,rfl,S1.split.1⟩,fits z0,S1.split.2⟩
def condIn:(Nat→Prop)→World→List Value→Cond→Prop:=fun F w row c=>CondF F w row c∧CondFit c
set_option maxRecDepth 100000 in
theorem at_cond(N:Nat):OpensAt enc Tryd.prog w 67 14 condIn N:=by
 induction N using Nat.strongRecOn with
 |ind N ih=>
 match N,ih with
 |0,_=>exact opensAt_zero
 |N+1,ih=>
 intro n row y hl h hlt hB hN
 obtain⟨xs,k, -,rfl, -,hxl,hf⟩:=DataW.trod_struct Tryd.underlying67 h
 match row,hl,xs,hxl with
 |[c0,c1,c2,c3,c4,c5,c6,c7,c8,c9,c10,c11,c12,c13],_,[y0,y1,y2,y3],_=>
  obtain⟨i0,g0⟩:=fieldS Tryd.underlying67 hf hlt hB hN 0 _ rfl (by simp) (by kernel_rfl) (at_int N) [c0] (by simp) rfl
  obtain⟨x1,a1,n1,p1,g1,S1⟩:=fieldS Tryd.underlying67 hf hlt hB hN 1 _ rfl (by simp) (by kernel_rfl) (match N,ih with|0,_=>opensAt_zero|N+1,ih=>sliceAt Tryd.underlying61 (by kernel_rfl) (by omega) N (ih N (by omega))) [c1] (by simp) rfl
  obtain⟨l,gl,zl⟩:=fieldS Tryd.underlying67 hf hlt hB hN 2 _ rfl (by simp) (by kernel_rfl) (at_opd N) [c2,c3,c4,c5,c6,c7] (by simp) rfl
  obtain⟨r,gr,zr⟩:=fieldS Tryd.underlying67 hf hlt hB hN 3 _ rfl (by simp) (by kernel_rfl) (at_opd N) [c8,c9,c10,c11,c12,c13] (by simp) rfl
  have g0' :[c0]=[Value.int .i64 i0]:=g0
  injection g0' with g0'
  subst g0'
  injection g1 with g1
  subst g1
  have gl' :[c2,c3,c4,c5,c6,c7]=opdC l:=gl
  have gr' :[c8,c9,c10,c11,c12,c13]=opdC r:=gr
  unfold opdC at gl' gr'
  simp only[List.cons.injEq,and_true]at gl' gr'
  obtain⟨rfl,rfl,rfl,rfl,rfl,rfl⟩:=gl'
  obtain⟨rfl,rfl,rfl,rfl,rfl,rfl⟩:=gr'
  exact⟨.mk i0 x1 l r,CondF.make i0 l r S1.split.1,.mk zl zr S1.split.2⟩
def patIn:(Nat→Prop)→World→List Value→Pat→Prop:=fun F w row p=>patF F w row p∧PatFit p
set_option maxRecDepth 100000 in
theorem at_pat(N:Nat):OpensAt enc Tryd.prog w 69 18 patIn N:=by
 match N with
 |0=>exact opensAt_zero
 |N+1=>
 intro n row y hl h hlt hB hN
 obtain⟨xs,k, -,rfl, -,hxl,hf⟩:=DataW.trod_struct Tryd.underlying69 h
 match row,hl,xs,hxl with
 |[c0,c1,c2,c3,c4,c5,c6,c7,c8,c9,c10,c11,c12,c13,c14,c15,c16,c17],_,[y0,y1,y2,y3,y4],_=>
  obtain⟨s0,g0,z0⟩:=fieldS Tryd.underlying69 hf hlt hB hN 0 _ rfl (by simp) (by kernel_rfl) (at_str N) [c0] (by simp) rfl
  obtain⟨s1,g1,z1⟩:=fieldS Tryd.underlying69 hf hlt hB hN 1 _ rfl (by simp) (by kernel_rfl) (at_str N) [c1] (by simp) rfl
  obtain⟨c,gc,zc⟩:=fieldS Tryd.underlying69 hf hlt hB hN 2 _ rfl (by simp) (by kernel_rfl) (at_cond N) [c2,c3,c4,c5,c6,c7,c8,c9,c10,c11,c12,c13,c14,c15] (by simp) rfl
  obtain⟨i16,g16⟩:=fieldS Tryd.underlying69 hf hlt hB hN 3 _ rfl (by simp) (by kernel_rfl) (at_int N) [c16] (by simp) rfl
  obtain⟨i17,g17⟩:=fieldS Tryd.underlying69 hf hlt hB hN 4 _ rfl (by simp) (by kernel_rfl) (at_int N) [c17] (by simp) rfl
  have g16' :[c16]=[Value.int .i64 i16]:=g16
  injection g16' with g16'
  subst g16'
  have g17' :[c17]=[Value.int .i64 i17]:=g17
  injection g17' with g17'
  subst g17'
  injection g0 with g0
  subst g0
  injection g1 with g1
  subst g1
  obtain⟨a1,n1,p1,e,hs⟩:=gc.open
  refine⟨⟨s0,s1,c,i16,i17⟩,⟨a1,n1,p1,?_,hs⟩,fits z0,zc⟩
  unfold opdC at e
  simp only[List.cons_append,List.nil_append,List.cons.injEq,and_true]at e
  obtain⟨rfl,rfl,rfl,rfl,rfl,rfl,rfl,rfl,rfl,rfl,rfl,rfl,rfl,rfl⟩:=e
  rfl
def manIn:(Nat→Prop)→World→List Value→Many→Prop:=fun F w row m=>manF F w row m∧PatFit m.pat
set_option maxRecDepth 100000 in
theorem at_man(N:Nat):OpensAt enc Tryd.prog w 73 20 manIn N:=by
 match N with
 |0=>exact opensAt_zero
 |N+1=>
 intro n row y hl h hlt hB hN
 obtain⟨xs,k, -,rfl, -,hxl,hf⟩:=DataW.trod_struct Tryd.underlying73 h
 match row,hl,xs,hxl with
 |[c0,c1,c2,c3,c4,c5,c6,c7,c8,c9,c10,c11,c12,c13,c14,c15,c16,c17,c18,c19],_,[y0,y1,y2],_=>
  obtain⟨i0,g0⟩:=fieldS Tryd.underlying73 hf hlt hB hN 0 _ rfl (by simp) (by kernel_rfl) (at_int N) [c0] (by simp) rfl
  obtain⟨s1,g1,z1⟩:=fieldS Tryd.underlying73 hf hlt hB hN 1 _ rfl (by simp) (by kernel_rfl) (at_str N) [c1] (by simp) rfl
  obtain⟨p,gp,zp⟩:=fieldS Tryd.underlying73 hf hlt hB hN 2 _ rfl (by simp) (by kernel_rfl) (at_pat N) [c2,c3,c4,c5,c6,c7,c8,c9,c10,c11,c12,c13,c14,c15,c16,c17,c18,c19] (by simp) rfl
  have g0' :[c0]=[Value.int .i64 i0]:=g0
  injection g0' with g0'
  subst g0'
  injection g1 with g1
  subst g1
  obtain⟨a1,n1,p1,e,hs⟩:=gp
  refine⟨⟨i0,s1,p⟩,⟨a1,n1,p1,?_,hs⟩,zp⟩
  unfold manC
  rw[←e]
set_option maxRecDepth 100000 in
theorem at_opt(N:Nat):OpensAt enc Tryd.prog w 78 3 (plainF optC) N:=by
 match N with
 |0=>exact opensAt_zero
 |N+1=>
 intro n row y hl h hlt hB hN
 obtain⟨xs,k, -,rfl, -,hxl,hf⟩:=DataW.trod_struct Tryd.underlying78 h
 match row,hl,xs,hxl with
 |[c0,c1,c2],_,[y0,y1,y2],_=>
  obtain⟨i0,g0⟩:=fieldS Tryd.underlying78 hf hlt hB hN 0 _ rfl (by simp) (by kernel_rfl) (at_int N) [c0] (by simp) rfl
  obtain⟨i1,g1⟩:=fieldS Tryd.underlying78 hf hlt hB hN 1 _ rfl (by simp) (by kernel_rfl) (at_int N) [c1] (by simp) rfl
  obtain⟨i2,g2⟩:=fieldS Tryd.underlying78 hf hlt hB hN 2 _ rfl (by simp) (by kernel_rfl) (at_int N) [c2] (by simp) rfl
  have g0' :[c0]=[Value.int .i64 i0]:=g0
  injection g0' with g0'
  subst g0'
  have g1' :[c1]=[Value.int .i64 i1]:=g1
  injection g1' with g1'
  subst g1'
  have g2' :[c2]=[Value.int .i64 i2]:=g2
  injection g2' with g2'
  subst g2'
  exact⟨⟨i0,i1,i2⟩,rfl⟩
set_option maxRecDepth 100000 in
theorem at_lnk(N:Nat):OpensAt enc Tryd.prog w 76 3 lnkF N:=by
 match N with
 |0=>exact opensAt_zero
 |N+1=>
 intro n row y hl h hlt hB hN
 obtain⟨xs,k, -,rfl, -,hxl,hf⟩:=DataW.trod_struct Tryd.underlying76 h
 match row,hl,xs,hxl with
 |[c0,c1,c2],_,[y0,y1,y2],_=>
  obtain⟨s0,g0,z0⟩:=fieldS Tryd.underlying76 hf hlt hB hN 0 _ rfl (by simp) (by kernel_rfl) (at_str N) [c0] (by simp) rfl
  obtain⟨x1,a1,n1,p1,g1,S1⟩:=fieldS Tryd.underlying76 hf hlt hB hN 1 _ rfl (by simp) (by kernel_rfl) (sliceOf Tryd.underlying74 (by kernel_rfl) (by omega) at_opt N) [c1] (by simp) rfl
  obtain⟨s2,g2,z2⟩:=fieldS Tryd.underlying76 hf hlt hB hN 2 _ rfl (by simp) (by kernel_rfl) (at_str N) [c2] (by simp) rfl
  injection g0 with g0
  subst g0
  injection g1 with g1
  subst g1
  injection g2 with g2
  subst g2
  exact⟨⟨s0,x1,s2⟩,a1,n1,p1,rfl,S1⟩
def emiIn:(Nat→Prop)→World→List Value→ByteArray×List Opd→Prop:=fun F w row e=> ∃ a n c,row=[.string e.1,.slice a n c]∧SlF F w 6 opdF a n c e.2∧(∀ o∈e.2,OpdFit o)∧e.1.size≤maxLen
set_option maxRecDepth 100000 in
theorem at_emi(N:Nat):OpensAt enc Tryd.prog w 48 2 emiIn N:=by
 match N with
 |0=>exact opensAt_zero
 |N+1=>
 intro n row y hl h hlt hB hN
 obtain⟨xs,k, -,rfl, -,hxl,hf⟩:=DataW.trod_struct Tryd.underlying48 h
 match row,hl,xs,hxl with
 |[c0,c1],_,[y0,y1],_=>
  obtain⟨s0,g0,z0⟩:=fieldS Tryd.underlying48 hf hlt hB hN 0 _ rfl (by simp) (by kernel_rfl) (at_str N) [c0] (by simp) rfl
  obtain⟨x1,a1,n1,p1,g1,S1⟩:=fieldS Tryd.underlying48 hf hlt hB hN 1 _ rfl (by simp) (by kernel_rfl) (sliceOf Tryd.underlying46 (by kernel_rfl) (by omega) at_opd N) [c1] (by simp) rfl
  injection g0 with g0
  subst g0
  injection g1 with g1
  subst g1
  exact⟨(s0,x1),a1,n1,p1,rfl,S1.split.1,S1.split.2,fits z0⟩
def rulIn:(Nat→Prop)→World→List Value→Rul→Prop:=fun F w row x=>rulF F w row x∧RulFit x∧x.etype.size≤maxLen
set_option maxRecDepth 100000 in
theorem at_rul(N:Nat):OpensAt enc Tryd.prog w 50 7 rulIn N:=by
 match N with
 |0=>exact opensAt_zero
 |N+1=>
 intro n row y hl h hlt hB hN
 obtain⟨xs,k, -,rfl, -,hxl,hf⟩:=DataW.trod_struct Tryd.underlying50 h
 match row,hl,xs,hxl with
 |[c0,c1,c2,c3,c4,c5,c6],_,[y0,y1,y2,y3,y4,y5],_=>
  obtain⟨s0,g0,z0⟩:=fieldS Tryd.underlying50 hf hlt hB hN 0 _ rfl (by simp) (by kernel_rfl) (at_str N) [c0] (by simp) rfl
  obtain⟨x1,a1,n1,p1,g1,S1⟩:=fieldS Tryd.underlying50 hf hlt hB hN 1 _ rfl (by simp) (by kernel_rfl) (sliceOf Tryd.underlying43 (by kernel_rfl) (by omega) at_pat N) [c1] (by simp) rfl
  obtain⟨x2,a2,n2,p2,g2,S2⟩:=fieldS Tryd.underlying50 hf hlt hB hN 2 _ rfl (by simp) (by kernel_rfl) (sliceOf Tryd.underlying43 (by kernel_rfl) (by omega) at_pat N) [c2] (by simp) rfl
  obtain⟨x3,a3,n3,p3,g3,S3⟩:=fieldS Tryd.underlying50 hf hlt hB hN 3 _ rfl (by simp) (by kernel_rfl) (sliceOf Tryd.underlying44 (by kernel_rfl) (by omega) at_man N) [c3] (by simp) rfl
  obtain⟨x4,a4,n4,p4,g4,S4⟩:=fieldS Tryd.underlying50 hf hlt hB hN 4 _ rfl (by simp) (by kernel_rfl) (sliceOf Tryd.underlying45 (by kernel_rfl) (by omega) at_lnk N) [c4] (by simp) rfl
  obtain⟨e,a5,n5,p5,g5,S5,zo,ze⟩:=fieldS Tryd.underlying50 hf hlt hB hN 5 _ rfl (by simp) (by kernel_rfl) (at_emi N) [c5,c6] (by simp) rfl
  injection g0 with g0
  subst g0
  injection g1 with g1
  subst g1
  injection g2 with g2
  subst g2
  injection g3 with g3
  subst g3
  injection g4 with g4
  subst g4
  simp only[List.cons.injEq,and_true]at g5
  obtain⟨rfl,rfl⟩:=g5
  exact⟨⟨s0,x1,x2,x3,x4,e.1,e.2⟩,⟨a1,n1,p1,a2,n2,p2,a3,n3,p3,a4,n4,p4,a5,n5,p5,rfl,S1.split.1,S2.split.1,S3.split.1,S4,S5⟩,⟨fits z0,S1.split.2,S2.split.2,S3.split.2,zo⟩,ze⟩
def bokIn:(Nat→Prop)→World→List Value→Bok→Prop:=fun F w row b=> ∃ a1 n1 c1 a2 n2 c2,row=[.slice a1 n1 c1,.slice a2 n2 c2]∧SlF F w 2 typIn a1 n1 c1 b.types∧SlF F w 7 rulIn a2 n2 c2 b.rules
set_option maxRecDepth 100000 in
theorem at_bok(N:Nat):OpensAt enc Tryd.prog w 25 2 bokIn N:=by
 match N with
 |0=>exact opensAt_zero
 |N+1=>
 intro n row y hl h hlt hB hN
 obtain⟨xs,k, -,rfl, -,hxl,hf⟩:=DataW.trod_struct Tryd.underlying25 h
 match row,hl,xs,hxl with
 |[c0,c1],_,[y0,y1],_=>
  obtain⟨x0,a0,n0,p0,g0,S0⟩:=fieldS Tryd.underlying25 hf hlt hB hN 0 _ rfl (by simp) (by kernel_rfl) (sliceOf Tryd.underlying22 (by kernel_rfl) (by omega) at_typ N) [c0] (by simp) rfl
  obtain⟨x1,a1,n1,p1,g1,S1⟩:=fieldS Tryd.underlying25 hf hlt hB hN 1 _ rfl (by simp) (by kernel_rfl) (sliceOf Tryd.underlying23 (by kernel_rfl) (by omega) at_rul N) [c1] (by simp) rfl
  injection g0 with g0
  subst g0
  injection g1 with g1
  subst g1
  exact⟨⟨x0,x1⟩,a0,n0,p0,a1,n1,p1,rfl,S0,S1⟩
theorem open_book{W:World}{v:Value}{d:DataW H}{ps:List MemPlace}(hk:v.cells.toList.length=2)(h:DataW.Trod enc Tryd.prog W 0 (fun _=>true) true 25 v d ps)(hlt: ∀ p∈ps,p.block<W.heap.size)(hB: ∀ q∈d.weights Tryd.prog 25,q≤reachBytes):
  ∃ (b:Bok) (a1:Option Addr) (n1 c1:Nat) (a2:Option Addr) (n2 c2:Nat),v.cells.toList=[.slice a1 n1 c1,.slice a2 n2 c2]∧SlF (under W.heap.size) W 2 typF a1 n1 c1 b.types∧SlF (under W.heap.size) W 7 rulF a2 n2 c2 b.rules∧(∀ t∈b.types,typOk t)∧(∀ x∈b.rules,RulFit x)∧ ∀ x∈b.rules,x.etype.size≤maxLen:=by
 obtain⟨fuel,hf⟩:=h
 obtain⟨b,a1,n1,c1,a2,n2,c2,e,S1,S2⟩:=at_bok (enc:=enc) (w:=W) (SizeOf.sizeOf d+1) fuel v.cells.toList (d,ps) hk hf hlt hB (Nat.lt_succ_self _)
 have S2' :SlF (under W.heap.size) W 7 (fun F w row x=>rulF F w row x∧(RulFit x∧x.etype.size≤maxLen)) a2 n2 c2 b.rules:=S2
 exact⟨b,a1,n1,c1,a2,n2,c2,e,S1.split.1,S2'.split.1,S1.split.2,fun x hx=>(S2'.split.2 x hx).1,fun x hx=>(S2'.split.2 x hx).2⟩
end
end Go.Proofs.YtcebfkdhicbmkaaDoor
/-
  A book that came in as an argument.
-/
namespace Go.Proofs.YtcebfkdhicbmkaaDoor
open Go.ChangeShapes Go.WideShapes Go.ChangeAt Go.RowKit Go.Joins Go.Deep
set_option linter.unusedVariables false
set_option linter.unusedSimpArgs false

set_option maxRecDepth 100000 in
/-- A book that came in. -/
theorem open_bok {H : Type} {enc : TypeId × Value → H} {W : World} {base : Nat} {v : Value} {d : DataW H} {ps : List MemPlace} (hv : Value.okWide Tryd.prog W .any base 25 v) (h : DataW.Trod enc Tryd.prog W 0 (fun _ => true) true 25 v d ps) (hlt : ∀ p ∈ ps, p.block < W.heap.size) (hB : ∀ q ∈ d.weights Tryd.prog 25, q ≤ reachBytes) :
    ∃ (b : Bok) (a1 : Option Addr) (n1 c1 : Nat) (a2 : Option Addr) (n2 c2 : Nat), v = .agg #[.slice a1 n1 c1, .slice a2 n2 c2] ∧ SlF (under W.heap.size) W 2 typF a1 n1 c1 b.types ∧ SlF (under W.heap.size) W 7 rulF a2 n2 c2 b.rules ∧ (∀ t ∈ b.types, typOk t) ∧ (∀ x ∈ b.rules, RulFit x) ∧ ∀ x ∈ b.rules, x.etype.size ≤ maxLen := by
  obtain ⟨cs, rfl, hsz⟩ := okWide_struct Tryd.underlying25 hv
  have hk : Tryd.prog.cellsOf 25 = 2 := by kernel_rfl
  obtain ⟨b, a1, n1, c1, a2, n2, c2, e, r⟩ := open_book (by rw [hk] at hsz; simpa [Value.cells] using hsz) h hlt hB
  refine ⟨b, a1, n1, c1, a2, n2, c2, ?_, r⟩
  have h1 : cs = cs.toList.toArray := by simp
  have h2 : cs.toList = [.slice a1 n1 c1, .slice a2 n2 c2] := by simpa [Value.cells] using e
  rw [h1, h2]
end Go.Proofs.YtcebfkdhicbmkaaDoor
/-
  A book as tokens: check.Show. Printed by shs.py.
-/
namespace Go.Proofs.YtcebfkdhicbmkaaDoor
open Go.RowKit
set_option linter.unusedVariables false
set_option linter.unusedSimpArgs false
def kindW(k:Int):ByteArray:=if k=1 then⟨#[105,110,116]⟩else⟨#[116,101,120,116]⟩
def fldT(i:Nat)(f:Fld):List Tkn:=(if i=0 then []else [wordT ⟨#[44]⟩])++[wordT f.name,wordT ⟨#[58]⟩,wordT (kindW f.kind)]
def typT(i:Nat)(t:Typ):List Tkn:=[wordT ⟨#[116,121,112,101]⟩,wordT t.name,wordT ⟨#[123]⟩]++shCat fldT t.fields++[wordT ⟨#[125]⟩]
def shBook(b:Bok):List Tkn:=shCat typT b.types++shCat (fun _ x=>shRule x) b.rules
def showE(b:Bok):List Tkn×Int:=if bookE b≠0 then([],bookE b)else if 700<(shBook b).length then([],8)else(shBook b,0)
structure TypSh (t:Typ):Prop where
 name:Nm t.name
 few:t.fields.length≤4
 flds: ∀ f∈t.fields,Nm f.name∧(f.kind=1∨f.kind=2)
theorem fldT_le{i:Nat}{f:Fld}:(fldT i f).length≤4:=by unfold fldT;split<;>simp
theorem typT_le{i:Nat}{t:Typ}(h:t.fields.length≤4):(typT i t).length≤20:=by
 unfold typT
 have:=shCat_le (f:=fldT) (l:=t.fields) (K:=4) (fun i x _=>fldT_le)
 simp
 omega
theorem shRule_le{x:Rul}(h:RulSh x):(shRule x).length≤8000:=by
 unfold shRule
 have h1:=shCat_le (f:=whenT) (l:=x.whens) (K:=1010) (fun i p hp=>whenT_le (h.whens p hp).2.1)
 have h2:=shCat_le (f:=notT) (l:=x.nots) (K:=1010) (fun i p hp=>notT_le (h.nots p hp).2)
 have h3:=shCat_le (f:=manyT) (l:=x.manies) (K:=1010) (fun i p hp=>manyT_le (h.manies p hp).2.1)
 have h4:=shCat_le (f:=linkT) (l:=x.links) (K:=60) (fun i p hp=>linkT_le (h.links p hp).1)
 have h5:=shCat_le (f:=emitT) (l:=x.evals) (K:=4) (fun i p _=>emitT_le)
 have:=h.nW
 have:=h.nN
 have:=h.nM
 have:=h.nL
 have:=h.nE
 split<;>simp<;>omega
def ShPost(w0:World)(E:List Tkn×Int)(e:Ending)(w' :World):Prop:= ∃ ao n cap,e= .returned (.tuple #[.slice ao n cap,.int .i64 E.2])∧Below w0.heap.size w0 w' ∧SlF (fun _=>True) w' 3 tknF ao n cap E.1
instance iStWr:StI Tryd.prog 35 1:=⟨by kernel_rfl,_,Tryd.underlying35,rfl⟩
theorem slf_of{g:Nat}{u w:World}{s:PS}{L:List Ent}{i e n rc:Nat}{ra:Option Addr}{ts:List Tkn}(M:Mem (StaysB g u) g u w s L)(hi:L[i]?=some (slc u.heap.size e 3 tknF (.slice ra n rc) ts)):SlF (fun _=>True) w 3 tknF ra n rc ts:=by
 have hO:OwnF (free_ u w L) u.heap.size w e 3 tknF (.slice ra n rc) ts:=M.say _ (Mem.of_get hi)
 obtain⟨ao,cap,h1,h2⟩:=hO.done (G:=fun _=>True) tknF_firm (by omega) (fun _ _ _=>trivial)
 injection h1 with e1 e2 e3
 subst e1 e2 e3
 exact h2
section
variable {F:Nat→Prop} {w0:World} {b:Bok} {a1 a2:Option Addr} {n1 c1 n2 c2:Nat}
set_option maxRecDepth 8000 in
set_option maxHeartbeats 8000000 in
theorem show_bad{g:Nat}(hg:g<w0.heap.size)(HC:Hid (∀ wx,Below w0.heap.size w0 wx→Calls Tryd.prog 7 #[.agg #[.slice a1 n1 c1,.slice a2 n2 c2]] wx fun e w' =>e= .returned (.int .i64 (bookE b))∧Below wx.heap.size wx w'))(h0:bookE b≠0):
  Calls Tryd.prog 4 #[.agg #[.slice a1 n1 c1,.slice a2 n2 c2]] w0 (ShPost w0 (showE b)):=by
 have M:=Mem.begin hg ⟨0,0⟩
 have HV:Hid (showE b=([],bookE b)):=by show _=_;unfold showE;rw[if_pos h0]
 have hqb:(bookE b !=0)=true:=by simpa using h0
 generalize showE b=T at HV ⊢
 generalize bookE b=q at HC HV hqb
 clear h0 hg
 go_enter Tryd.func4,Tryd.ntmps4
 go_wp2_with (first|(with_reducible (first|(refine wB (L:=[]) M ?_;clear M;intro za w1 M)|refine wq M ?_|(refine wS M ?_;clear M;intro w M)|(refine wV M ?_;clear M;intro z w M)|(refine wR M ?_;clear M;intro q w M)))|(go_at_call 7;with_reducible refine(HC.out _ M.new).mono ?_;rintro e w5 ⟨rfl,hb5⟩;replace M:=M.below hb5;clear hb5))
 go_ret2
 rw[HV.out]
 exact⟨_,_,_,rfl,M.new,SlF.nil⟩
set_option maxRecDepth 8000 in
set_option maxHeartbeats 16000000 in
theorem show_main{g:Nat}(hg:g<w0.heap.size)(HC:Hid (∀ wx,Below w0.heap.size w0 wx→Calls Tryd.prog 7 #[.agg #[.slice a1 n1 c1,.slice a2 n2 c2]] wx fun e w' =>e= .returned (.int .i64 (bookE b))∧Below wx.heap.size wx w'))(h0:bookE b=0)
  (X1:SlF F w0 2 typF a1 n1 c1 b.types)(X2:SlF F w0 7 rulF a2 n2 c2 b.rules)(hT: ∀ t∈b.types,TypSh t)(hRu: ∀ x∈b.rules,RulSh x)(h6:b.types.length≤6)(h5:b.rules.length≤5)
  (hR:SlF (under w0.heap.size) w0 1 wordF (some ⟨2,0,none⟩) 14 14 relsL):
  Calls Tryd.prog 4 #[.agg #[.slice a1 n1 c1,.slice a2 n2 c2]] w0 (ShPost w0 (showE b)):=by
 have M:=Mem.begin hg ⟨0,0⟩
 have HX1:=Lib.hid X1
 have HX2:=Lib.hid X2
 have hl1:=X1.le
 have hl2:=X2.le
 have N1:Hid (n1=b.types.length):=X1.len
 have N2:Hid (n2=b.rules.length):=X2.len
 have HT6:=Lib.hid hT
 have HR5:=Lib.hid hRu
 have HL6:=Lib.hid h6
 have HL5:=Lib.hid h5
 have HRR:=Lib.hid hR
 have HZC:Hid (0<(⟨#[44]⟩:ByteArray).size):=Lib.hid (by decide)
 have HZB:Hid (0<(⟨#[125]⟩:ByteArray).size):=Lib.hid (by decide)
 have HV0:Hid (showE b=if 700<(shBook b).length then([],8)else(shBook b,0)):=by show _=_;unfold showE;rw[if_neg (by rw[h0];simp)]
 rw[h0]at HC
 generalize showE b=TE at HV0 ⊢
 clear X1 X2 hT hRu h6 h5 hR h0 hg
 go_enter Tryd.func4,Tryd.ntmps4
 go_wp2_with (first|(with_reducible (first|(refine wB (L:=[]) M ?_;clear M;intro za w1 M)|(refine wB (L:=[_]) M ?_;clear M;intro zw w1 M)|refine wq M ?_|(refine wS M ?_;clear M;intro w M)|(refine wV M ?_;clear M;intro z w M)|(refine wR M ?_;clear M;intro q w M)))|(go_at_call 7;with_reducible refine(HC.out _ M.new).mono ?_;rintro e w5 ⟨rfl,hb5⟩;replace M:=M.below hb5;clear hb5))
 replace M:=(M.none_ (R:=tknF) tknF_firm 56 3).swap
 go_loopg [22] n1 (fun fu i wr=> ∃ (j:Nat) (lv:Value) (ts:List Tkn),j+fu=n1∧i= .int .i64 j∧Mem (StaysB g w0) g w0 wr ⟨0,0⟩ (own zw [lv] 35::slc w0.heap.size 56 3 tknF lv ts::own za [.slice a1 n1 c1,.slice a2 n2 c2] 25::[])∧Hid (ts=shCat typT (b.types.take j)))
 case atStart=>exact⟨0,_,[],by omega,rfl,M,Lib.hid rfl⟩
 case round=>
  clear M
  obtain⟨j,lv,ts,hj,rfl,M,HT⟩:=hrel
  by_cases hlt:j<n1
  ·have hjl:j<b.types.length:=by have:=N1.out;omega
   obtain⟨ct,ot,rowt,hixt, -,hrrt,hwt⟩:=SlF.rowAt (P:=Tryd.prog) HX1.out typF_firm Tryd.underlying22 size_typ (i:=j) hjl
   obtain⟨fo,fn,fc,et,uf⟩:=hrrt
   subst et
   have HRT:=Lib.hid (fun wx hb=>(hwt wx hb).1)
   obtain⟨TN,hTN⟩: ∃ TN,TN=shCat typT (b.types.take (j+1)):=⟨_,rfl⟩
   have HTN:=Lib.hid hTN
   have HTS:Hid (TN=ts++typT j b.types[j]):=by show _=_;rw[hTN,shCat_snoc hjl,HT.out]
   clear hTN
   have hcl:=take_cat_le (f:=typT) (l:=b.types) (K:=20) (n:=6) (j:=j) (fun i p hp=>typT_le (HT6.out p hp).few) HL6.out
   have htl:=congrArg List.length HT.out
   have HTL:Hid (ts.length≤120):=by show _≤_;omega
   have HSH:=Lib.hid (HT6.out _ (List.getElem_mem hjl))
   clear hcl htl hwt HT
   unfold typT at HTS
   unfold typC at HRT
   generalize b.types[j]=t at HRT HTS HSH uf
   clear hjl
   have HF:=Lib.hid uf
   have hlf:=uf.le
   have NF:Hid (fn=t.fields.length):=uf.len
   clear uf
   have H3:Hid (0<(⟨#[116,121,112,101]⟩:ByteArray).size∧0<t.name.size∧0<(⟨#[123]⟩:ByteArray).size):=⟨by decide,HSH.out.name.pos,by decide⟩
   have hbA:Hid (ts.length+3≤100000):=by show _≤_;have:=HTL.out;omega
   obtain⟨U0,hU0⟩: ∃ U0,U0=ts++[wordT ⟨#[116,121,112,101]⟩,wordT t.name,wordT ⟨#[123]⟩]:=⟨_,rfl⟩
   have HU0:=Lib.hid hU0
   have HU0L:Hid (U0.length≤123):=by show _≤_;have:=HTL.out;rw[hU0];simp;omega
   go_wp2_with (first|(with_reducible (first|(refine wV M ?_;clear M;intro zx w M)|refine wq M ?_|(refine wS M ?_;clear M;intro w M)|(refine wV M ?_;clear M;intro z w M)|(refine wR M ?_;clear M;intro q w M)|(refine w_ (q_rowv1 M ?_);clear M;intro q w M)|(refine w_ (q_rowv2 M ?_);clear M;intro q w M)|(refine w_ (q_rowv3 M ?_);clear M;intro q w M)|refine wA (HRT.out _ M.new) ?_))|((with_reducible refine o_list rfl fun K hK=>?_);refine q_in M (by rfl) (by rfl) (by rfl) ?_;clear M;intro w M;(try simp only[List.set_cons_zero,List.set_cons_succ,laid,opdC,List.take_succ_cons,List.take_zero,List.drop_succ_cons,List.drop_zero,List.length_cons,List.length_nil,List.cons_append,List.nil_append,Nat.reduceAdd,Nat.zero_add]at M);refine hK _ _ ?_;clear hK K)|(go_at_call 8;with_reducible refine(puF3 _ _ _ H3.out _ hbA.out M.f2).mono ?_;rintro e w5 ⟨rfl,lv5,M⟩;replace M:=M.b1))
   rw[←hU0]at M
   clear hU0
   go_loopg [34] fn (fun fu i wr=> ∃ (jo:Nat) (lv:Value) (us:List Tkn),jo+fu=fn∧i= .int .i64 jo∧Mem (StaysB g w0) g w0 wr ⟨0,0⟩ (own zx [.string t.name,.slice fo fn fc] 38::own zw [lv] 35::slc w0.heap.size 56 3 tknF lv us::own za [.slice a1 n1 c1,.slice a2 n2 c2] 25::[])∧Hid (us=U0++shCat fldT (t.fields.take jo)))
   case atStart=>exact⟨0,_,U0,by omega,rfl,M,Lib.hid (by simp[shCat_nil])⟩
   case round=>
    clear M
    obtain⟨jo,lv,us,hjo,rfl,M,HU⟩:=hrel
    by_cases hlo:jo<fn
    ·have hjl:jo<t.fields.length:=by have:=NF.out;omega
     obtain⟨cq,oq,rowq,hixq, -,hrrq,hwq⟩:=SlF.rowAt (P:=Tryd.prog) HF.out (plainF_firm _) Tryd.underlying36 size_fld (i:=jo) hjl
     have eq:rowq=fldC t.fields[jo]:=hrrq
     subst eq
     have HRQ:=Lib.hid (fun wx hb=>(hwq wx hb).1)
     obtain⟨UN,hUN⟩: ∃ UN,UN=U0++shCat fldT (t.fields.take (jo+1)):=⟨_,rfl⟩
     have HUN:=Lib.hid hUN
     have HUS:Hid (UN=us++fldT jo t.fields[jo]):=by show _=_;rw[hUN,shCat_snoc hjl,HU.out,List.append_assoc]
     clear hUN
     have hcl:=take_cat_le (f:=fldT) (l:=t.fields) (K:=4) (n:=4) (j:=jo) (fun i p _=>fldT_le) HSH.out.few
     have htl:=congrArg List.length HU.out
     rw[List.length_append]at htl
     have hus:us.length≤200:=by have:=HU0L.out;omega
     obtain⟨q1,q2⟩:=HSH.out.flds _ (List.getElem_mem hjl)
     have hb1:Hid (us.length+1≤100000):=by show _≤_;omega
     have hb3:Hid (us.length+3≤100000):=by show _≤_;omega
     have hb4:Hid ((us++[wordT ⟨#[44]⟩]).length+3≤100000):=by show _≤_;simp;omega
     clear hcl htl hrrq hwq HU hus
     unfold fldT at HUS
     unfold fldC at HRQ
     generalize t.fields[jo]=f at HRQ HUS q1 q2
     clear hjl
     by_cases hj0:jo=0
     ·rw[if_pos hj0,List.nil_append]at HUS
      have hjz: ¬ ((0:Int)<(jo:Int)):=by omega
      clear hj0 hb1 hb4
      rcases q2 with q2|q2
      ·skip
       have ew:kindW f.kind=⟨#[105,110,116]⟩:=by rw[q2];rfl
       have ix: ∀ w,(Instr.index 42 (.agg #[.string ⟨#[]⟩,.string ⟨#[105,110,116]⟩,.string ⟨#[116,101,120,116]⟩]) (.int .i64 1)).run Tryd.prog w= .ok (.string ⟨#[105,110,116]⟩) w:=fun _=>by kernel_rfl
       have HF3:Hid (0<f.name.size∧0<(⟨#[58]⟩:ByteArray).size∧0<(⟨#[105,110,116]⟩:ByteArray).size):=⟨q1.pos,by decide,by decide⟩
       rw[ew]at HUS
       rw[q2]at HRQ
       clear q1 q2 ew
       go_upto_region 14 with(first|(with_reducible (first|(refine wV M ?_;clear M;intro zo w M)|refine wq M ?_|(refine wS M ?_;clear M;intro w M)|(refine wV M ?_;clear M;intro z w M)|(refine wR M ?_;clear M;intro q w M)|refine wA (HRQ.out _ M.new) ?_))|((with_reducible refine o_list rfl fun K hK=>?_);refine q_in M (by rfl) (by rfl) (by rfl) ?_;clear M;intro w M;(try simp only[List.set_cons_zero,List.set_cons_succ,laid,opdC,List.take_succ_cons,List.take_zero,List.drop_succ_cons,List.drop_zero,List.length_cons,List.length_nil,List.cons_append,List.nil_append,Nat.reduceAdd,Nat.zero_add]at M);refine hK _ _ ?_;clear hK K))
       (refine wp_region_any (by kernel_rfl) ?_;(try(change wpAny _ _ _ _ _ _ _ (World.drew _)));replace M:=M.drew;generalize World.drew _=w at M ⊢;have S:=St.o;((refine tk 0 (v:=?_) rfl (by kernel_rfl) rfl ?_ ?_;rotate_left;focus(intro w;go_simp;try with_reducible rfl));(try go_simp);(refine tk 1 (v:=?_) rfl (by kernel_rfl) rfl ?_ ?_;rotate_left;focus(intro w;go_simp;try with_reducible rfl));(try go_simp);(refine tk 3 (v:=?_) rfl (by kernel_rfl) rfl ?_ ?_;rotate_left;focus(intro w;go_simp;try with_reducible rfl));(try go_simp);(refine tk 4 (v:=?_) rfl (by kernel_rfl) rfl ?_ ?_;rotate_left;focus(intro w;go_simp;try with_reducible rfl));(try go_simp);replace S:=S.add 27;refine rd2 2 5 (by kernel_rfl) rfl rfl ?_ rfl rfl ?_<;>intro K hK);all_goals(first|(refine o_dst (some 46) ?_;(first|(refine q_rowv3 M ?_;clear M;intro q w M)|(first|refine q_all M (by rfl) ?_|refine q_get M (by exact rfl) ?_|refine q_prt M (by rfl) ?_));(all_goals(refine hK _ _ ?_;clear hK K;replace S:=S.add 4)))|(refine o_dst (some 49) ?_;(first|(refine q_rowv3 M ?_;clear M;intro q w M)|(first|refine q_all M (by rfl) ?_|refine q_get M (by exact rfl) ?_|refine q_prt M (by rfl) ?_));(all_goals(refine hK _ _ ?_;clear hK K;replace S:=S.add 32))));all_goals(first|(replace S:St 31:=S;refine rd1 5 (by kernel_rfl) rfl rfl ?_<;>intro K hK)|(replace S:St 59:=S;refine rd2 2 6 (by kernel_rfl) rfl rfl ?_ rfl rfl ?_<;>intro K hK));all_goals(first|(refine o_dst (some 49) ?_;(first|(refine q_rowv3 M ?_;clear M;intro q w M)|(first|refine q_all M (by rfl) ?_|refine q_get M (by exact rfl) ?_|refine q_prt M (by rfl) ?_));(all_goals(refine hK _ _ ?_;clear hK K;replace S:=S.add 32)))|(refine o_dst (some 46) ?_;(first|(refine q_rowv3 M ?_;clear M;intro q w M)|(first|refine q_all M (by rfl) ?_|refine q_get M (by exact rfl) ?_|refine q_prt M (by rfl) ?_));(all_goals(refine hK _ _ ?_;clear hK K;replace S:=S.add 4)))|(refine o_dst (some 50) ?_;(first|(refine q_rowv3 M ?_;clear M;intro q w M)|(refine owp_of ?_;go_simp));(all_goals(refine hK _ _ ?_;clear hK K;replace S:=S.add 64))));all_goals(first|(replace S:St 63:=S;refine rd1 6 (by kernel_rfl) rfl rfl ?_<;>intro K hK)|(replace S:St 123:=S;refine rd1 2 (by kernel_rfl) rfl rfl ?_<;>intro K hK));all_goals(first|(refine o_dst (some 50) ?_;(first|(refine q_rowv3 M ?_;clear M;intro q w M)|(refine owp_of ?_;go_simp));(all_goals(refine hK _ _ ?_;clear hK K;replace S:=S.add 64)))|(refine o_dst (some 46) ?_;(first|(refine q_rowv3 M ?_;clear M;intro q w M)|(first|refine q_all M (by rfl) ?_|refine q_get M (by exact rfl) ?_|refine q_prt M (by rfl) ?_));(all_goals(refine hK _ _ ?_;clear hK K;replace S:=S.add 4))));all_goals(refine rd1 7 (by kernel_rfl) rfl rfl ?_<;>intro K hK);all_goals(refine o_dst (some 51) ?_;(first|(refine q_rowv3 M ?_;clear M;intro q w M)|(refine q_row M (by rfl) ?_;clear M;intro q w M));(all_goals(refine hK _ _ ?_;clear hK K;replace S:=S.add 128)));all_goals(refine rd1 8 (by kernel_rfl) rfl rfl ?_<;>intro K hK);all_goals(refine o_dst (some 52) ?_;(refine owp_of ?_;go_simp;(go_at_call 8;refine(puF3 _ _ _ HF3.out _ hb3.out M.f3).mono ?_;rintro e w5 ⟨rfl,lv5,M⟩;replace M:=M.b2);(try go_simp));(all_goals(refine hK _ _ ?_;clear hK K;replace S:=S.add 256)));all_goals(clear S;(refine wpAny_done (by kernel_rfl) ?_ _)))
       all_goals
        go_wp2_with (first|(with_reducible (first|refine wq M ?_|(refine wS M ?_;clear M;intro w M)|(refine wV M ?_;clear M;intro z w M)|(refine wR M ?_;clear M;intro q w M))))
        go_roundg (fn - (jo+1))
        case measure=>omega
        case rel=>exact⟨jo+1,_,_,by omega,by go_num,M.drop,Lib.hid (by rw[←HUN.out,HUS.out])⟩
      ·skip
       have ew:kindW f.kind=⟨#[116,101,120,116]⟩:=by rw[q2];rfl
       have ix: ∀ w,(Instr.index 42 (.agg #[.string ⟨#[]⟩,.string ⟨#[105,110,116]⟩,.string ⟨#[116,101,120,116]⟩]) (.int .i64 2)).run Tryd.prog w= .ok (.string ⟨#[116,101,120,116]⟩) w:=fun _=>by kernel_rfl
       have HF3:Hid (0<f.name.size∧0<(⟨#[58]⟩:ByteArray).size∧0<(⟨#[116,101,120,116]⟩:ByteArray).size):=⟨q1.pos,by decide,by decide⟩
       rw[ew]at HUS
       rw[q2]at HRQ
       clear q1 q2 ew
       go_upto_region 14 with(first|(with_reducible (first|(refine wV M ?_;clear M;intro zo w M)|refine wq M ?_|(refine wS M ?_;clear M;intro w M)|(refine wV M ?_;clear M;intro z w M)|(refine wR M ?_;clear M;intro q w M)|refine wA (HRQ.out _ M.new) ?_))|((with_reducible refine o_list rfl fun K hK=>?_);refine q_in M (by rfl) (by rfl) (by rfl) ?_;clear M;intro w M;(try simp only[List.set_cons_zero,List.set_cons_succ,laid,opdC,List.take_succ_cons,List.take_zero,List.drop_succ_cons,List.drop_zero,List.length_cons,List.length_nil,List.cons_append,List.nil_append,Nat.reduceAdd,Nat.zero_add]at M);refine hK _ _ ?_;clear hK K))
       (refine wp_region_any (by kernel_rfl) ?_;(try(change wpAny _ _ _ _ _ _ _ (World.drew _)));replace M:=M.drew;generalize World.drew _=w at M ⊢;have S:=St.o;((refine tk 0 (v:=?_) rfl (by kernel_rfl) rfl ?_ ?_;rotate_left;focus(intro w;go_simp;try with_reducible rfl));(try go_simp);(refine tk 1 (v:=?_) rfl (by kernel_rfl) rfl ?_ ?_;rotate_left;focus(intro w;go_simp;try with_reducible rfl));(try go_simp);(refine tk 3 (v:=?_) rfl (by kernel_rfl) rfl ?_ ?_;rotate_left;focus(intro w;go_simp;try with_reducible rfl));(try go_simp);(refine tk 4 (v:=?_) rfl (by kernel_rfl) rfl ?_ ?_;rotate_left;focus(intro w;go_simp;try with_reducible rfl));(try go_simp);replace S:=S.add 27;refine rd2 2 5 (by kernel_rfl) rfl rfl ?_ rfl rfl ?_<;>intro K hK);all_goals(first|(refine o_dst (some 46) ?_;(first|(refine q_rowv3 M ?_;clear M;intro q w M)|(first|refine q_all M (by rfl) ?_|refine q_get M (by exact rfl) ?_|refine q_prt M (by rfl) ?_));(all_goals(refine hK _ _ ?_;clear hK K;replace S:=S.add 4)))|(refine o_dst (some 49) ?_;(first|(refine q_rowv3 M ?_;clear M;intro q w M)|(first|refine q_all M (by rfl) ?_|refine q_get M (by exact rfl) ?_|refine q_prt M (by rfl) ?_));(all_goals(refine hK _ _ ?_;clear hK K;replace S:=S.add 32))));all_goals(first|(replace S:St 31:=S;refine rd1 5 (by kernel_rfl) rfl rfl ?_<;>intro K hK)|(replace S:St 59:=S;refine rd2 2 6 (by kernel_rfl) rfl rfl ?_ rfl rfl ?_<;>intro K hK));all_goals(first|(refine o_dst (some 49) ?_;(first|(refine q_rowv3 M ?_;clear M;intro q w M)|(first|refine q_all M (by rfl) ?_|refine q_get M (by exact rfl) ?_|refine q_prt M (by rfl) ?_));(all_goals(refine hK _ _ ?_;clear hK K;replace S:=S.add 32)))|(refine o_dst (some 46) ?_;(first|(refine q_rowv3 M ?_;clear M;intro q w M)|(first|refine q_all M (by rfl) ?_|refine q_get M (by exact rfl) ?_|refine q_prt M (by rfl) ?_));(all_goals(refine hK _ _ ?_;clear hK K;replace S:=S.add 4)))|(refine o_dst (some 50) ?_;(first|(refine q_rowv3 M ?_;clear M;intro q w M)|(refine owp_of ?_;go_simp));(all_goals(refine hK _ _ ?_;clear hK K;replace S:=S.add 64))));all_goals(first|(replace S:St 63:=S;refine rd1 6 (by kernel_rfl) rfl rfl ?_<;>intro K hK)|(replace S:St 123:=S;refine rd1 2 (by kernel_rfl) rfl rfl ?_<;>intro K hK));all_goals(first|(refine o_dst (some 50) ?_;(first|(refine q_rowv3 M ?_;clear M;intro q w M)|(refine owp_of ?_;go_simp));(all_goals(refine hK _ _ ?_;clear hK K;replace S:=S.add 64)))|(refine o_dst (some 46) ?_;(first|(refine q_rowv3 M ?_;clear M;intro q w M)|(first|refine q_all M (by rfl) ?_|refine q_get M (by exact rfl) ?_|refine q_prt M (by rfl) ?_));(all_goals(refine hK _ _ ?_;clear hK K;replace S:=S.add 4))));all_goals(refine rd1 7 (by kernel_rfl) rfl rfl ?_<;>intro K hK);all_goals(refine o_dst (some 51) ?_;(first|(refine q_rowv3 M ?_;clear M;intro q w M)|(refine q_row M (by rfl) ?_;clear M;intro q w M));(all_goals(refine hK _ _ ?_;clear hK K;replace S:=S.add 128)));all_goals(refine rd1 8 (by kernel_rfl) rfl rfl ?_<;>intro K hK);all_goals(refine o_dst (some 52) ?_;(refine owp_of ?_;go_simp;(go_at_call 8;refine(puF3 _ _ _ HF3.out _ hb3.out M.f3).mono ?_;rintro e w5 ⟨rfl,lv5,M⟩;replace M:=M.b2);(try go_simp));(all_goals(refine hK _ _ ?_;clear hK K;replace S:=S.add 256)));all_goals(clear S;(refine wpAny_done (by kernel_rfl) ?_ _)))
       all_goals
        go_wp2_with (first|(with_reducible (first|refine wq M ?_|(refine wS M ?_;clear M;intro w M)|(refine wV M ?_;clear M;intro z w M)|(refine wR M ?_;clear M;intro q w M))))
        go_roundg (fn - (jo+1))
        case measure=>omega
        case rel=>exact⟨jo+1,_,_,by omega,by go_num,M.drop,Lib.hid (by rw[←HUN.out,HUS.out])⟩
     ·rw[if_neg hj0]at HUS
      have hjp:0<jo:=by omega
      clear hj0 hb3
      rcases q2 with q2|q2
      ·skip
       have ew:kindW f.kind=⟨#[105,110,116]⟩:=by rw[q2];rfl
       have ix: ∀ w,(Instr.index 42 (.agg #[.string ⟨#[]⟩,.string ⟨#[105,110,116]⟩,.string ⟨#[116,101,120,116]⟩]) (.int .i64 1)).run Tryd.prog w= .ok (.string ⟨#[105,110,116]⟩) w:=fun _=>by kernel_rfl
       have HF3:Hid (0<f.name.size∧0<(⟨#[58]⟩:ByteArray).size∧0<(⟨#[105,110,116]⟩:ByteArray).size):=⟨q1.pos,by decide,by decide⟩
       rw[ew]at HUS
       rw[q2]at HRQ
       clear q1 q2 ew
       go_upto_region 14 with(first|(with_reducible (first|(refine wV M ?_;clear M;intro zo w M)|refine wq M ?_|(refine wS M ?_;clear M;intro w M)|(refine wV M ?_;clear M;intro z w M)|(refine wR M ?_;clear M;intro q w M)|(refine w_ (q_rowv1 M ?_);clear M;intro q w M)|(refine w_ (q_rowv2 M ?_);clear M;intro q w M)|(refine w_ (q_rowv3 M ?_);clear M;intro q w M)|refine wA (HRQ.out _ M.new) ?_))|((with_reducible refine o_list rfl fun K hK=>?_);refine q_in M (by rfl) (by rfl) (by rfl) ?_;clear M;intro w M;(try simp only[List.set_cons_zero,List.set_cons_succ,laid,opdC,List.take_succ_cons,List.take_zero,List.drop_succ_cons,List.drop_zero,List.length_cons,List.length_nil,List.cons_append,List.nil_append,Nat.reduceAdd,Nat.zero_add]at M);refine hK _ _ ?_;clear hK K)|(go_at_call 8;with_reducible refine(puF1 ⟨#[44]⟩ HZC.out _ hb1.out M.f3).mono ?_;rintro e w5 ⟨rfl,lv5,M⟩;replace M:=M.b2))
       (refine wp_region_any (by kernel_rfl) ?_;(try(change wpAny _ _ _ _ _ _ _ (World.drew _)));replace M:=M.drew;generalize World.drew _=w at M ⊢;have S:=St.o;((refine tk 0 (v:=?_) rfl (by kernel_rfl) rfl ?_ ?_;rotate_left;focus(intro w;go_simp;try with_reducible rfl));(try go_simp);(refine tk 1 (v:=?_) rfl (by kernel_rfl) rfl ?_ ?_;rotate_left;focus(intro w;go_simp;try with_reducible rfl));(try go_simp);(refine tk 3 (v:=?_) rfl (by kernel_rfl) rfl ?_ ?_;rotate_left;focus(intro w;go_simp;try with_reducible rfl));(try go_simp);(refine tk 4 (v:=?_) rfl (by kernel_rfl) rfl ?_ ?_;rotate_left;focus(intro w;go_simp;try with_reducible rfl));(try go_simp);replace S:=S.add 27;refine rd2 2 5 (by kernel_rfl) rfl rfl ?_ rfl rfl ?_<;>intro K hK);all_goals(first|(refine o_dst (some 46) ?_;(first|(refine q_rowv3 M ?_;clear M;intro q w M)|(first|refine q_all M (by rfl) ?_|refine q_get M (by exact rfl) ?_|refine q_prt M (by rfl) ?_));(all_goals(refine hK _ _ ?_;clear hK K;replace S:=S.add 4)))|(refine o_dst (some 49) ?_;(first|(refine q_rowv3 M ?_;clear M;intro q w M)|(first|refine q_all M (by rfl) ?_|refine q_get M (by exact rfl) ?_|refine q_prt M (by rfl) ?_));(all_goals(refine hK _ _ ?_;clear hK K;replace S:=S.add 32))));all_goals(first|(replace S:St 31:=S;refine rd1 5 (by kernel_rfl) rfl rfl ?_<;>intro K hK)|(replace S:St 59:=S;refine rd2 2 6 (by kernel_rfl) rfl rfl ?_ rfl rfl ?_<;>intro K hK));all_goals(first|(refine o_dst (some 49) ?_;(first|(refine q_rowv3 M ?_;clear M;intro q w M)|(first|refine q_all M (by rfl) ?_|refine q_get M (by exact rfl) ?_|refine q_prt M (by rfl) ?_));(all_goals(refine hK _ _ ?_;clear hK K;replace S:=S.add 32)))|(refine o_dst (some 46) ?_;(first|(refine q_rowv3 M ?_;clear M;intro q w M)|(first|refine q_all M (by rfl) ?_|refine q_get M (by exact rfl) ?_|refine q_prt M (by rfl) ?_));(all_goals(refine hK _ _ ?_;clear hK K;replace S:=S.add 4)))|(refine o_dst (some 50) ?_;(first|(refine q_rowv3 M ?_;clear M;intro q w M)|(refine owp_of ?_;go_simp));(all_goals(refine hK _ _ ?_;clear hK K;replace S:=S.add 64))));all_goals(first|(replace S:St 63:=S;refine rd1 6 (by kernel_rfl) rfl rfl ?_<;>intro K hK)|(replace S:St 123:=S;refine rd1 2 (by kernel_rfl) rfl rfl ?_<;>intro K hK));all_goals(first|(refine o_dst (some 50) ?_;(first|(refine q_rowv3 M ?_;clear M;intro q w M)|(refine owp_of ?_;go_simp));(all_goals(refine hK _ _ ?_;clear hK K;replace S:=S.add 64)))|(refine o_dst (some 46) ?_;(first|(refine q_rowv3 M ?_;clear M;intro q w M)|(first|refine q_all M (by rfl) ?_|refine q_get M (by exact rfl) ?_|refine q_prt M (by rfl) ?_));(all_goals(refine hK _ _ ?_;clear hK K;replace S:=S.add 4))));all_goals(refine rd1 7 (by kernel_rfl) rfl rfl ?_<;>intro K hK);all_goals(refine o_dst (some 51) ?_;(first|(refine q_rowv3 M ?_;clear M;intro q w M)|(refine q_row M (by rfl) ?_;clear M;intro q w M));(all_goals(refine hK _ _ ?_;clear hK K;replace S:=S.add 128)));all_goals(refine rd1 8 (by kernel_rfl) rfl rfl ?_<;>intro K hK);all_goals(refine o_dst (some 52) ?_;(refine owp_of ?_;go_simp;(go_at_call 8;refine(puF3 _ _ _ HF3.out _ hb4.out M.f3).mono ?_;rintro e w5 ⟨rfl,lv5,M⟩;replace M:=M.b2);(try go_simp));(all_goals(refine hK _ _ ?_;clear hK K;replace S:=S.add 256)));all_goals(clear S;(refine wpAny_done (by kernel_rfl) ?_ _)))
       all_goals
        go_wp2_with (first|(with_reducible (first|refine wq M ?_|(refine wS M ?_;clear M;intro w M)|(refine wV M ?_;clear M;intro z w M)|(refine wR M ?_;clear M;intro q w M))))
        go_roundg (fn - (jo+1))
        case measure=>omega
        case rel=>exact⟨jo+1,_,_,by omega,by go_num,M.drop,Lib.hid (by rw[←HUN.out,HUS.out];(try simp only[List.append_assoc]))⟩
      ·skip
       have ew:kindW f.kind=⟨#[116,101,120,116]⟩:=by rw[q2];rfl
       have ix: ∀ w,(Instr.index 42 (.agg #[.string ⟨#[]⟩,.string ⟨#[105,110,116]⟩,.string ⟨#[116,101,120,116]⟩]) (.int .i64 2)).run Tryd.prog w= .ok (.string ⟨#[116,101,120,116]⟩) w:=fun _=>by kernel_rfl
       have HF3:Hid (0<f.name.size∧0<(⟨#[58]⟩:ByteArray).size∧0<(⟨#[116,101,120,116]⟩:ByteArray).size):=⟨q1.pos,by decide,by decide⟩
       rw[ew]at HUS
       rw[q2]at HRQ
       clear q1 q2 ew
       go_upto_region 14 with(first|(with_reducible (first|(refine wV M ?_;clear M;intro zo w M)|refine wq M ?_|(refine wS M ?_;clear M;intro w M)|(refine wV M ?_;clear M;intro z w M)|(refine wR M ?_;clear M;intro q w M)|(refine w_ (q_rowv1 M ?_);clear M;intro q w M)|(refine w_ (q_rowv2 M ?_);clear M;intro q w M)|(refine w_ (q_rowv3 M ?_);clear M;intro q w M)|refine wA (HRQ.out _ M.new) ?_))|((with_reducible refine o_list rfl fun K hK=>?_);refine q_in M (by rfl) (by rfl) (by rfl) ?_;clear M;intro w M;(try simp only[List.set_cons_zero,List.set_cons_succ,laid,opdC,List.take_succ_cons,List.take_zero,List.drop_succ_cons,List.drop_zero,List.length_cons,List.length_nil,List.cons_append,List.nil_append,Nat.reduceAdd,Nat.zero_add]at M);refine hK _ _ ?_;clear hK K)|(go_at_call 8;with_reducible refine(puF1 ⟨#[44]⟩ HZC.out _ hb1.out M.f3).mono ?_;rintro e w5 ⟨rfl,lv5,M⟩;replace M:=M.b2))
       (refine wp_region_any (by kernel_rfl) ?_;(try(change wpAny _ _ _ _ _ _ _ (World.drew _)));replace M:=M.drew;generalize World.drew _=w at M ⊢;have S:=St.o;((refine tk 0 (v:=?_) rfl (by kernel_rfl) rfl ?_ ?_;rotate_left;focus(intro w;go_simp;try with_reducible rfl));(try go_simp);(refine tk 1 (v:=?_) rfl (by kernel_rfl) rfl ?_ ?_;rotate_left;focus(intro w;go_simp;try with_reducible rfl));(try go_simp);(refine tk 3 (v:=?_) rfl (by kernel_rfl) rfl ?_ ?_;rotate_left;focus(intro w;go_simp;try with_reducible rfl));(try go_simp);(refine tk 4 (v:=?_) rfl (by kernel_rfl) rfl ?_ ?_;rotate_left;focus(intro w;go_simp;try with_reducible rfl));(try go_simp);replace S:=S.add 27;refine rd2 2 5 (by kernel_rfl) rfl rfl ?_ rfl rfl ?_<;>intro K hK);all_goals(first|(refine o_dst (some 46) ?_;(first|(refine q_rowv3 M ?_;clear M;intro q w M)|(first|refine q_all M (by rfl) ?_|refine q_get M (by exact rfl) ?_|refine q_prt M (by rfl) ?_));(all_goals(refine hK _ _ ?_;clear hK K;replace S:=S.add 4)))|(refine o_dst (some 49) ?_;(first|(refine q_rowv3 M ?_;clear M;intro q w M)|(first|refine q_all M (by rfl) ?_|refine q_get M (by exact rfl) ?_|refine q_prt M (by rfl) ?_));(all_goals(refine hK _ _ ?_;clear hK K;replace S:=S.add 32))));all_goals(first|(replace S:St 31:=S;refine rd1 5 (by kernel_rfl) rfl rfl ?_<;>intro K hK)|(replace S:St 59:=S;refine rd2 2 6 (by kernel_rfl) rfl rfl ?_ rfl rfl ?_<;>intro K hK));all_goals(first|(refine o_dst (some 49) ?_;(first|(refine q_rowv3 M ?_;clear M;intro q w M)|(first|refine q_all M (by rfl) ?_|refine q_get M (by exact rfl) ?_|refine q_prt M (by rfl) ?_));(all_goals(refine hK _ _ ?_;clear hK K;replace S:=S.add 32)))|(refine o_dst (some 46) ?_;(first|(refine q_rowv3 M ?_;clear M;intro q w M)|(first|refine q_all M (by rfl) ?_|refine q_get M (by exact rfl) ?_|refine q_prt M (by rfl) ?_));(all_goals(refine hK _ _ ?_;clear hK K;replace S:=S.add 4)))|(refine o_dst (some 50) ?_;(first|(refine q_rowv3 M ?_;clear M;intro q w M)|(refine owp_of ?_;go_simp));(all_goals(refine hK _ _ ?_;clear hK K;replace S:=S.add 64))));all_goals(first|(replace S:St 63:=S;refine rd1 6 (by kernel_rfl) rfl rfl ?_<;>intro K hK)|(replace S:St 123:=S;refine rd1 2 (by kernel_rfl) rfl rfl ?_<;>intro K hK));all_goals(first|(refine o_dst (some 50) ?_;(first|(refine q_rowv3 M ?_;clear M;intro q w M)|(refine owp_of ?_;go_simp));(all_goals(refine hK _ _ ?_;clear hK K;replace S:=S.add 64)))|(refine o_dst (some 46) ?_;(first|(refine q_rowv3 M ?_;clear M;intro q w M)|(first|refine q_all M (by rfl) ?_|refine q_get M (by exact rfl) ?_|refine q_prt M (by rfl) ?_));(all_goals(refine hK _ _ ?_;clear hK K;replace S:=S.add 4))));all_goals(refine rd1 7 (by kernel_rfl) rfl rfl ?_<;>intro K hK);all_goals(refine o_dst (some 51) ?_;(first|(refine q_rowv3 M ?_;clear M;intro q w M)|(refine q_row M (by rfl) ?_;clear M;intro q w M));(all_goals(refine hK _ _ ?_;clear hK K;replace S:=S.add 128)));all_goals(refine rd1 8 (by kernel_rfl) rfl rfl ?_<;>intro K hK);all_goals(refine o_dst (some 52) ?_;(refine owp_of ?_;go_simp;(go_at_call 8;refine(puF3 _ _ _ HF3.out _ hb4.out M.f3).mono ?_;rintro e w5 ⟨rfl,lv5,M⟩;replace M:=M.b2);(try go_simp));(all_goals(refine hK _ _ ?_;clear hK K;replace S:=S.add 256)));all_goals(clear S;(refine wpAny_done (by kernel_rfl) ?_ _)))
       all_goals
        go_wp2_with (first|(with_reducible (first|refine wq M ?_|(refine wS M ?_;clear M;intro w M)|(refine wV M ?_;clear M;intro z w M)|(refine wR M ?_;clear M;intro q w M))))
        go_roundg (fn - (jo+1))
        case measure=>omega
        case rel=>exact⟨jo+1,_,_,by omega,by go_num,M.drop,Lib.hid (by rw[←HUN.out,HUS.out];(try simp only[List.append_assoc]))⟩
    ·have hue:us=U0++shCat fldT t.fields:=by rw[HU.out,List.take_of_length_le (by have:=NF.out;omega)]
     have hb2:Hid (us.length+1≤100000):=by
      show _≤_
      have hcl:=shCat_le (f:=fldT) (l:=t.fields) (K:=4) (fun i p _=>fldT_le)
      have:=HU0L.out
      have:=HSH.out.few
      rw[hue,List.length_append]
      omega
     have HUE:=Lib.hid hue
     clear hue HU
     go_wp2_with (first|(with_reducible (first|refine wq M ?_|(refine wS M ?_;clear M;intro w M)|(refine wV M ?_;clear M;intro z w M)|(refine wR M ?_;clear M;intro q w M)|(refine w_ (q_rowv1 M ?_);clear M;intro q w M)|(refine w_ (q_rowv2 M ?_);clear M;intro q w M)|(refine w_ (q_rowv3 M ?_);clear M;intro q w M)))|(go_at_call 8;with_reducible refine(puF1 ⟨#[125]⟩ HZB.out _ hb2.out M.f2).mono ?_;rintro e w5 ⟨rfl,lv5,M⟩;replace M:=M.b1))
     go_roundg (n1 - (j+1))
     case measure=>omega
     case rel=>exact⟨j+1,_,_,by omega,by go_num,M.drop,Lib.hid (by rw[←HTN.out,HTS.out,HUE.out,HU0.out];(try simp only[List.append_assoc]))⟩
  ·have hte:ts=shCat typT b.types:=by rw[HT.out,List.take_of_length_le (by have:=N1.out;omega)]
   have HT1L:Hid (ts.length≤120):=by
    show _≤_
    have h1:=take_cat_le (f:=typT) (l:=b.types) (K:=20) (n:=6) (j:=b.types.length) (fun i p hp=>typT_le (HT6.out p hp).few) HL6.out
    rw[List.take_length]at h1
    rw[hte]
    omega
   have HT1:=Lib.hid hte
   clear hte HT
   obtain⟨T1,rfl⟩: ∃ T1,T1=ts:=⟨_,rfl⟩
   go_wp2_with (first|(with_reducible (first|refine wq M ?_|(refine wS M ?_;clear M;intro w M)|(refine wV M ?_;clear M;intro z w M)|(refine wR M ?_;clear M;intro q w M))))
   go_loopg [61] n2 (fun fu i wr=> ∃ (j:Nat) (lv:Value) (ts:List Tkn),j+fu=n2∧i= .int .i64 j∧Mem (StaysB g w0) g w0 wr ⟨0,0⟩ (own zw [lv] 35::slc w0.heap.size 56 3 tknF lv ts::own za [.slice a1 n1 c1,.slice a2 n2 c2] 25::[])∧Hid (ts=T1++shCat (fun _ x=>shRule x) (b.rules.take j)))
   case atStart=>exact⟨0,_,T1,by omega,rfl,M,Lib.hid (by simp[shCat_nil])⟩
   case round=>
    clear M
    obtain⟨j,lv,ts,hj,rfl,M,HT⟩:=hrel
    by_cases hlt2:j<n2
    ·have hjl:j<b.rules.length:=by have:=N2.out;omega
     obtain⟨cr,or,rowr,hixr, -,hrrr,hwr⟩:=SlF.rowAt (P:=Tryd.prog) HX2.out rulF_firm Tryd.underlying23 size_rul (i:=j) hjl
     obtain⟨b1,m1,e1,b2,m2,e2,b3,m3,e3,b4,m4,e4,b6,m6,e6,er,Y1,Y2,Y3,Y4,Y6⟩:=hrrr
     subst er
     have HRR2:=Lib.hid (fun wx hb=>(hwr wx hb).1)
     have HTS:Hid (ts++shRule b.rules[j]=T1++shCat (fun _ x=>shRule x) (b.rules.take (j+1))):=by show _=_;rw[shCat_snoc hjl,HT.out,List.append_assoc]
     have hcl:=take_cat_le (f:=fun _ x=>shRule x) (l:=b.rules) (K:=8000) (n:=5) (j:=j) (fun i p hp=>shRule_le (HR5.out p hp)) HL5.out
     have htl:=congrArg List.length HT.out
     rw[List.length_append]at htl
     have hts:ts.length≤80000:=by have:=HT1L.out;omega
     have HRU:Hid (∀ wx Kt lv,Mem (StaysB g w0) g w0 wx ⟨0,0⟩ (own zw [lv] 35::slc w0.heap.size 56 3 tknF lv ts::Kt)→Calls Tryd.prog 9 #[.pointer (some ⟨zw,0,none⟩),.agg #[.string b.rules[j].name,.slice b1 m1 e1,.slice b2 m2 e2,.slice b3 m3 e3,.slice b4 m4 e4,.string b.rules[j].etype,.slice b6 m6 e6]] wx (WrP g zw w0 Kt (ts++shRule b.rules[j]))):=fun wx Kt lv M2=>
      wrule_any (HR5.out _ (List.getElem_mem hjl)) Y1 Y2 Y3 Y4 Y6 HRR.out hts M2
     clear hcl htl hts hwr HT Y1 Y2 Y3 Y4 Y6
     unfold rulC at HRR2
     generalize b.rules[j]=x at HRR2 HRU HTS
     clear hjl
     go_wp2_with (first|(with_reducible (first|(refine wV M ?_;clear M;intro zx w M)|refine wq M ?_|(refine wS M ?_;clear M;intro w M)|(refine wV M ?_;clear M;intro z w M)|(refine wR M ?_;clear M;intro q w M)|refine wA (HRR2.out _ M.new) ?_))|((with_reducible refine o_list rfl fun K hK=>?_);refine q_in M (by rfl) (by rfl) (by rfl) ?_;clear M;intro w M;(try simp only[List.set_cons_zero,List.set_cons_succ,laid,opdC,List.take_succ_cons,List.take_zero,List.drop_succ_cons,List.drop_zero,List.length_cons,List.length_nil,List.cons_append,List.nil_append,Nat.reduceAdd,Nat.zero_add]at M);refine hK _ _ ?_;clear hK K)|(go_at_call 9;with_reducible refine(HRU.out _ _ _ M.f1).mono ?_;rintro e w5 ⟨rfl,lv5,M⟩;replace M:=M.b1))
     go_roundg (n2 - (j+1))
     case measure=>omega
     case rel=>exact⟨j+1,_,_,by omega,by go_num,M.drop,HTS⟩
    ·have hte:ts=shBook b:=by
      unfold shBook
      rw[HT.out,HT1.out,List.take_of_length_le (by have:=N2.out;omega)]
     rw[←hte]at HV0
     clear HT HT1 hte
     obtain⟨oa,oc,rfl⟩:=slc_slice M (i:=1) rfl
     by_cases h7:700<ts.length
     ·rw[if_pos h7]at HV0
      go_wp2_with (first|(with_reducible (first|refine wq M ?_|(refine wS M ?_;clear M;intro w M)|(refine wV M ?_;clear M;intro z w M)|(refine wR M ?_;clear M;intro q w M))))
      go_ret2
      rw[HV0.out]
      exact⟨_,_,_,rfl,M.new,SlF.nil⟩
     ·rw[if_neg h7]at HV0
      go_wp2_with (first|(with_reducible (first|refine wq M ?_|(refine wS M ?_;clear M;intro w M)|(refine wV M ?_;clear M;intro z w M)|(refine wR M ?_;clear M;intro q w M))))
      go_ret2
      rw[HV0.out]
      exact⟨_,_,_,rfl,M.new,slf_of M (i:=1) rfl⟩
end
end Go.Proofs.YtcebfkdhicbmkaaDoor
/-
  A checked condition's tokens: its form, how many there are at most.
-/
namespace Go.Proofs.YtcebfkdhicbmkaaDoor
open Go.RowKit
set_option linter.unusedVariables false
set_option linter.unusedSimpArgs false
section
variable {ts:List Typ} {kn:List Pat} {ow:Typ}
theorem condL_sum{g:Cond→Int×Int}: ∀ {l:List Cond} {n:Int},(condL g l n).2=0→(∀ c∈l,(g c).2=0)∧(condL g l n).1=n+(l.map fun c=>(g c).1).sum∧(l≠[]→(condL g l n).1≤12)
 |[],n,_=>⟨fun c h=>(by cases h),by simp[condL],fun h=>absurd rfl h⟩
 |c::r,n,h=>by
  unfold condL at h ⊢
  by_cases h1:(g c).2≠0
  ·rw[if_pos h1]at h;exact absurd h h1
  ·rw[if_neg h1]at h ⊢
   by_cases h2:12<n+(g c).1
   ·rw[if_pos h2]at h;exact absurd h (by decide)
   ·rw[if_neg h2]at h ⊢
    obtain⟨i1,i2,i3⟩:=condL_sum h
    refine⟨fun d hd=>?_,by rw[i2,List.map_cons,List.sum_cons];omega,fun _=>?_⟩
    ·rcases List.mem_cons.1 hd with rfl|hd
     ·exact Classical.not_not.1 h1
     ·exact i1 d hd
    ·by_cases hr:r=[]
     ·subst hr;rw[i2];simp;omega
     ·exact i3 hr
theorem shCat_sum{f:Nat→Cond→List Tkn}{l:List Cond}{cnt:Cond→Int}{K:Int}(hK:0≤K)(h: ∀ i c,c∈l→((f i c).length:Int)≤K*cnt c):((shCat f l).length:Int)≤K*(l.map cnt).sum:=by
 unfold shCat
 have: ∀ (m:List Cond) (k:Nat),(∀ i c,c∈m→((f i c).length:Int)≤K*cnt c)→(((m.zipIdx k).flatMap fun x=>f x.2 x.1).length:Int)≤K*(m.map cnt).sum:=by
  intro m
  induction m with
  |nil=>intro k _;simp
  |cons a m ih=>
   intro k hm
   rw[List.zipIdx_cons,List.flatMap_cons,List.length_append,List.map_cons,List.sum_cons,Int.mul_add]
   have h1:=hm k a (List.mem_cons_self ..)
   have h2:=ih (k+1) (fun i x hx=>hm i x (List.mem_cons_of_mem _ hx))
   simp only at h1 ⊢
   omega
 exact this l 0 h
theorem shBrk_le(b:Bool)(l:List Tkn):(shBrk b l).length≤l.length+2:=by unfold shBrk;split<;>simp
theorem cond_sh(hop: ∀ o,sideE ts kn ow o=0→OpdSh o): ∀ f c,(condR ts kn ow f c).2=0→CndSh (f+1) c∧1≤(condR ts kn ow f c).1∧(condR ts kn ow f c).1≤12∧((shCond (f+1) c).length:Int)≤(9+4*(f:Int))*(condR ts kn ow f c).1
 |0,c,h=>by
  unfold condR at h
  split at h<;>exact absurd h (by decide)
 |f+1,c,h=>by
  unfold condR at h ⊢
  by_cases hk:1≤c.kind∧c.kind≤7
  ·rw[if_pos hk]at h ⊢
   by_cases h4:4≤c.kind
   ·rw[if_pos h4]at h ⊢
    have ht:testE ts kn ow c=0:=h
    unfold testE at ht
    by_cases h1:c.subs.length≠0
    ·rw[if_pos h1]at ht;exact absurd ht (by decide)
    rw[if_neg h1]at ht
    by_cases h2:sideE ts kn ow c.left≠0
    ·rw[if_pos h2]at ht;exact absurd ht h2
    rw[if_neg h2]at ht
    by_cases h3:sideE ts kn ow c.right≠0
    ·rw[if_pos h3]at ht;exact absurd ht h3
    refine⟨?_,by simp,by simp,?_⟩
    ·unfold CndSh
     exact .inr (.inr ⟨by omega,hop _ (Classical.not_not.1 h2),hop _ (Classical.not_not.1 h3)⟩)
    ·have e:shCond (f+1+1) c=shSide c.left++wordT (cmpT c.kind)::shSide c.right:=by
      show(if _ then _ else _)=_
      rw[if_neg (by omega),if_neg (by omega)]
     have l1:=shSide_le c.left
     have l2:=shSide_le c.right
     rw[e]
     simp
     omega
   ·rw[if_neg h4]at h ⊢
    by_cases hf:condForm c=true
    ·rw[if_pos hf]at h;exact absurd h (by decide)
    rw[if_neg hf]at h ⊢
    obtain⟨i1,i2,i3⟩:=condL_sum h
    simp only[condForm,Bool.or_eq_true,Bool.and_eq_true,not_or,not_and,Bool.not_eq_true',decide_eq_true_eq,beq_iff_eq,bne_iff_ne,ne_eq,Decidable.not_not]at hf
    have hne:c.subs≠[]:=fun e=>by
     by_cases h3:c.kind=3
     ·have:=hf.1.2 h3;rw[e]at this;simp at this
     ·have:=hf.2 h3;rw[e]at this;simp at this
    have hIH:=fun s hs=>cond_sh hop f s (i1 s hs)
    have hsum: ∀ l:List Cond,(∀ s∈l,1≤(condR ts kn ow f s).1)→l≠[]→1≤(l.map fun s=>(condR ts kn ow f s).1).sum:=by
     intro l
     induction l with
     |nil=>intro _ h9;exact absurd rfl h9
     |cons a l ih=>
      intro h9 _
      rw[List.map_cons,List.sum_cons]
      have:=h9 a (List.mem_cons_self ..)
      by_cases hl:l=[]
      ·subst hl;simpa using this
      ·have:=ih (fun s hs=>h9 s (List.mem_cons_of_mem _ hs)) hl
       omega
    have h1s:=hsum c.subs (fun s hs=>(hIH s hs).2.1) hne
    refine⟨?_,by rw[i2];omega,i3 hne,?_⟩
    ·unfold CndSh
     by_cases h3:c.kind=3
     ·exact .inl ⟨h3,hf.1.2 h3,fun s hs=>(hIH s hs).1⟩
     ·exact .inr (.inl ⟨by omega,fun s hs=>(hIH s hs).1⟩)
    ·rw[i2,Int.zero_add]
     by_cases h3:c.kind=3
     ·have hl1:=hf.1.2 h3
      obtain⟨s0,hs0⟩: ∃ s0,c.subs=[s0]:=List.length_eq_one_iff.1 hl1
      have e:shCond (f+1+1) c=wordT ⟨#[110,111,116]⟩::shBrk (decide ((c.subs.headD cond0).kind≤2)) (shCond (f+1) (c.subs.headD cond0)):=by
       show(if _ then _ else _)=_
       rw[if_pos h3]
      have hi:=hIH s0 (by rw[hs0];simp)
      rw[e,hs0]
      simp only[List.headD_cons,List.length_cons,List.map_cons,List.map_nil,List.sum_cons,List.sum_nil,Int.add_zero]
      have h5:=hi.2.2.2
      have h6:=hi.2.1
      have:(9+4*((f+1:Nat):Int))*(condR ts kn ow f s0).1=(9+4*(f:Int))*(condR ts kn ow f s0).1+4*(condR ts kn ow f s0).1:=by
       rw[show(9+4*((f+1:Nat):Int))=(9+4*(f:Int))+4 by omega,Int.add_mul]
      rw[this]
      refine Int.le_trans (Int.ofNat_le.2 (Nat.succ_le_succ (shBrk_le _ _))) ?_
      omega
     ·have e:shCond (f+1+1) c=shCat (fun i x=>(if i=0 then []else [wordT (andT c.kind)])++shBrk (x.kind==c.kind||x.kind==2) (shCond (f+1) x)) c.subs:=by
       show(if _ then _ else _)=_
       rw[if_neg h3,if_pos (by omega)]
      rw[e]
      refine shCat_sum (by omega) fun i s hs=>?_
      have hi:=hIH s hs
      have hb:=shBrk_le (s.kind==c.kind||s.kind==2) (shCond (f+1) s)
      have h5:=hi.2.2.2
      have h6:=hi.2.1
      have:(9+4*((f+1:Nat):Int))*(condR ts kn ow f s).1=(9+4*(f:Int))*(condR ts kn ow f s).1+4*(condR ts kn ow f s).1:=by
       rw[show(9+4*((f+1:Nat):Int))=(9+4*(f:Int))+4 by omega,Int.add_mul]
      rw[this,List.length_append]
      have hw:(if i=0 then([]:List Tkn)else [wordT (andT c.kind)]).length≤1:=by split<;>simp
      omega
  ·rw[if_neg hk]at h;exact absurd h (by decide)
end
end Go.Proofs.YtcebfkdhicbmkaaDoor
/-
  A checked book's types, operands and patterns: what their tokens want.
-/
namespace Go.Proofs.YtcebfkdhicbmkaaDoor
open Go.RowKit
set_option linter.unusedVariables false
set_option linter.unusedSimpArgs false
theorem firstN_allS{f:Nat→Int}{n:Nat}(h:firstN f n=0):AllZ f n:=by
 induction n with
 |zero=>exact allZ_zero f
 |succ n ih=>
  simp only[firstN]at h
  by_cases e:firstN f n=0
  ·rw[if_pos e]at h;exact allZ_succ (ih e) h
  ·rw[if_neg e]at h;exact absurd h e
theorem name_nm{s:ByteArray}(h:nameE s=0):Nm s:=by
 unfold nameE at h
 by_cases h1:1≤s.size∧s.size≤10
 ·refine⟨by omega,h1.2,fun x hx e=>?_⟩
  rw[if_pos h1]at h
  subst e
  obtain⟨i,hi,h2⟩:=List.mem_iff_getElem.1 hx
  have h3:=firstN_allS h i (by simpa using hi)
  unfold charE byteAt at h3
  rw[List.getD,List.getElem?_eq_getElem hi,h2]at h3
  simp at h3
 ·rw[if_neg h1]at h;exact absurd h (by decide)
theorem free_name{s:ByteArray}(h:freeE s=0):nameE s=0:=by
 unfold freeE at h
 by_cases h1:nameE s=0
 ·exact h1
 ·rw[if_neg h1]at h;exact h
theorem same_nm{a b:ByteArray}(h:sameS a b=true)(ha:Nm a):Nm b:=by
 unfold sameS at h
 have h1:=beq_iff_eq.1 h
 rw[ByteArray.toList_eq,ByteArray.toList_eq]at h1
 have h2:a.data=b.data:=Array.toList_inj.1 h1
 have h3:a=b:=by cases a;cases b;exact congrArg ByteArray.mk h2
 exact h3▸ha
theorem typ_sh{t:Typ}(h:typE t.name t.fields=0):TypSh t:=by
 unfold typE at h
 by_cases h1:nameE t.name=0
 ·rw[if_pos h1]at h
  by_cases h2:t.fields.length≤4
  ·rw[if_pos h2]at h
   refine⟨name_nm h1,h2,fun f hf=>?_⟩
   obtain⟨i,hi,rfl⟩:=List.mem_iff_getElem.1 hf
   have h3:=firstN_allS h i hi
   unfold fldE at h3
   rw[show t.fields.getD i default=t.fields[i]by simp[List.getD,List.getElem?_eq_getElem hi]]at h3
   by_cases h4:nameE t.fields[i].name=0
   ·rw[if_pos h4]at h3
    by_cases h5:inB t.fields[i].kind 1 2=true
    ·unfold inB at h5
     simp at h5
     exact⟨name_nm h4,by omega⟩
    ·rw[if_neg h5]at h3;exact absurd h3 (by decide)
   ·rw[if_neg h4]at h3;exact absurd h3 h4
  ·rw[if_neg h2]at h;exact absurd h (by decide)
 ·rw[if_neg h1]at h;exact absurd h h1
section
variable {ts:List Typ} {kn:List Pat} {ow:Typ}
theorem fld_pos{t:Typ}(h: ∀ f∈t.fields,Nm f.name){s:ByteArray}(hs:fldAt t.fields s<t.fields.length):Nm s:=by
 unfold fldAt at hs
 have h1:=List.findIdx_getElem (w:=hs)
 exact same_nm h1 (h _ (List.getElem_mem hs))
theorem opd_sh(hT: ∀ t∈ts,TypSh t)(hO: ∀ f∈ow.fields,Nm f.name)(hk: ∀ p∈kn,Nm p.var){o:Opd}(h:sideE ts kn ow o=0):OpdSh o:=by
 unfold sideE at h
 by_cases h1: ¬ (1≤o.kind∧o.kind≤3)
 ·rw[if_pos h1]at h;exact absurd h (by decide)
 rw[if_neg h1]at h
 by_cases h2:o.kind=3∧kn.length≤patI kn o.var
 ·rw[if_pos h2]at h;exact absurd h (by decide)
 rw[if_neg h2]at h
 by_cases h3:opdBad o=true
 ·rw[if_pos h3]at h;exact absurd h (by decide)
 rw[if_neg h3]at h
 have hsT: ∀ f∈(sideT ts kn ow o).fields,Nm f.name:=by
  unfold sideT
  split
  ·unfold typAt
   intro f hf
   by_cases h9:typI ts (kn.getD (patI kn o.var) pat0).type<ts.length
   ·rw[show ts.getD (typI ts (kn.getD (patI kn o.var) pat0).type) typ0=ts[typI ts (kn.getD (patI kn o.var) pat0).type]by rw[List.getD,List.getElem?_eq_getElem h9];rfl]at hf
    exact((hT _ (List.getElem_mem h9)).flds f hf).1
   ·rw[show ts.getD (typI ts (kn.getD (patI kn o.var) pat0).type) typ0=typ0 by rw[List.getD,List.getElem?_eq_none (Nat.not_lt.1 h9)];rfl]at hf
    cases hf
  ·exact hO
 have hfl:o.kind≠1→Nm o.field:=fun hk1=>by
  rw[if_neg hk1]at h
  by_cases h4:fldAt (sideT ts kn ow o).fields o.field<(sideT ts kn ow o).fields.length
  ·exact fld_pos hsT h4
  ·rw[if_neg h4]at h;exact absurd h (by decide)
 refine⟨fun hk3=>⟨?_,hfl (by omega)⟩,fun hk2=>hfl (by omega),?_⟩
 ·have h5:patI kn o.var<kn.length:=by
   by_cases h6:kn.length≤patI kn o.var
   ·exact absurd ⟨hk3,h6⟩ h2
   ·omega
  have h6:=List.findIdx_getElem (p:=fun p:Pat=>sameS p.var o.var) (xs:=kn) (w:=h5)
  exact same_nm h6 (hk _ (List.getElem_mem h5))
 ·by_cases hk1:o.kind=1
  ·rw[if_pos hk1]at h
   unfold valE at h
   dsimp only at h
   by_cases v1:o.vkind=1
   ·rw[if_pos v1]at h
    split at h
    ·split at h
     ·omega
     ·exact absurd h (by decide)
    ·exact absurd h (by decide)
   ·rw[if_neg v1]at h
    by_cases v2:o.vkind=2
    ·rw[if_pos v2]at h
     split at h
     ·omega
     ·exact absurd h (by decide)
    ·rw[if_neg v2]at h;exact absurd h (by decide)
  ·simp[opdBad,valZ,hk1]at h3
   have:o.vint=0:=by
    have h7:=h3.2
    omega
   omega
theorem pat_sh(hT: ∀ t∈ts,TypSh t)(hk: ∀ p∈kn,Nm p.var){ah:List ByteArray}{p:Pat}{part:Nat}(h:patE ts kn ah p part=0):PatSh p∧(shPat p).length≤1000∧winE part p=0:=by
 unfold patE at h
 by_cases h1:freeE p.var≠0
 ·rw[if_pos h1]at h;exact absurd h h1
 rw[if_neg h1]at h
 by_cases h2:inS ah p.var=true
 ·rw[if_pos h2]at h;exact absurd h (by decide)
 rw[if_neg h2]at h
 by_cases h3:ts.length≤typI ts p.type
 ·rw[if_pos h3]at h;exact absurd h (by decide)
 rw[if_neg h3]at h
 by_cases h4:winE part p≠0
 ·rw[if_pos h4]at h;exact absurd h h4
 rw[if_neg h4]at h
 have hv:Nm p.var:=name_nm (free_name (Classical.not_not.1 h1))
 have h5:typI ts p.type<ts.length:=by omega
 have ht:Nm p.type:=by
  have h6:=List.findIdx_getElem (p:=fun t:Typ=>sameS t.name p.type) (xs:=ts) (w:=h5)
  exact same_nm h6 (hT _ (List.getElem_mem h5)).name
 have hO: ∀ f∈(typAt ts p.type).fields,Nm f.name:=fun f hf=>by
  unfold typAt at hf
  rw[show ts.getD (typI ts p.type) typ0=ts[typI ts p.type]by rw[List.getD,List.getElem?_eq_getElem h5];rfl]at hf
  exact((hT _ (List.getElem_mem h5)).flds f hf).1
 refine⟨⟨hv,ht,?_⟩,?_,Classical.not_not.1 h4⟩
 ·by_cases h7:noC p.wher=true
  ·unfold noC at h7
   simp at h7
   exact .inl h7.1.1.1
  ·rw[if_neg h7]at h
   exact .inr (cond_sh (fun o ho=>opd_sh hT hO hk ho) 8 p.wher h).1
 ·unfold shPat
  by_cases h7:noC p.wher=true
  ·unfold noC at h7
   simp at h7
   rw[if_pos h7.1.1.1]
   simp
  ·rw[if_neg h7]at h
   obtain⟨-,q1,q2,q3⟩:=cond_sh (fun o ho=>opd_sh hT hO hk ho) 8 p.wher h
   have q3' :((shCond 9 p.wher).length:Int)≤41*(condR ts kn (typAt ts p.type) 8 p.wher).1:=q3
   split
   ·simp
   ·simp
    omega
end
end Go.Proofs.YtcebfkdhicbmkaaDoor
/-
  A checked rule, a checked book: what their tokens want.
-/
namespace Go.Proofs.YtcebfkdhicbmkaaDoor
open Go.RowKit
set_option linter.unusedVariables false
set_option linter.unusedSimpArgs false
section
variable {ts:List Typ} {x:Rul}
theorem rule_split(h:ruleE ts x=0):freeE x.name=0∧sizeB x=false∧AllZ (whenE ts x) x.whens.length∧AllZ (notE ts x) x.nots.length∧AllZ (manyE ts x) x.manies.length∧AllZ (fun i=>linkE x (x.links.getD i lnk0)) x.links.length∧emitE ts x=0:=by
 unfold ruleE at h
 by_cases h1:freeE x.name≠0
 ·rw[if_pos h1]at h;exact absurd h h1
 rw[if_neg h1]at h
 by_cases h2:sizeB x=true
 ·rw[if_pos h2]at h;exact absurd h (by decide)
 rw[if_neg h2]at h
 by_cases h3:firstN (whenE ts x) x.whens.length≠0
 ·rw[if_pos h3]at h;exact absurd h h3
 rw[if_neg h3]at h
 by_cases h4:firstN (notE ts x) x.nots.length≠0
 ·rw[if_pos h4]at h;exact absurd h h4
 rw[if_neg h4]at h
 by_cases h5:firstN (manyE ts x) x.manies.length≠0
 ·rw[if_pos h5]at h;exact absurd h h5
 rw[if_neg h5]at h
 by_cases h6:firstN (fun i=>linkE x (x.links.getD i lnk0)) x.links.length≠0
 ·rw[if_pos h6]at h;exact absurd h h6
 rw[if_neg h6]at h
 exact⟨Classical.not_not.1 h1,by simpa using h2,firstN_allS (Classical.not_not.1 h3),firstN_allS (Classical.not_not.1 h4),firstN_allS (Classical.not_not.1 h5),firstN_allS (Classical.not_not.1 h6),h⟩
theorem pat_var{kn:List Pat}{ah:List ByteArray}{p:Pat}{part:Nat}(h:patE ts kn ah p part=0):Nm p.var:=by
 unfold patE at h
 by_cases h1:freeE p.var≠0
 ·rw[if_pos h1]at h;exact absurd h h1
 ·exact name_nm (free_name (Classical.not_not.1 h1))
theorem whens_var(h:AllZ (whenE ts x) x.whens.length): ∀ p∈x.whens,Nm p.var:=fun p hp=>by
 obtain⟨i,hi,rfl⟩:=List.mem_iff_getElem.1 hp
 have:=h i hi
 unfold whenE at this
 rw[show x.whens.getD i pat0=x.whens[i]by simp[List.getD,List.getElem?_eq_getElem hi]]at this
 exact pat_var this
theorem win0{p:Pat}(h:winE 0 p=0):0≤p.window∧p.window≤2∧ -4611686018427387904≤p.n∧p.n≤4611686018427387904:=by
 unfold winE at h
 split at h
 ·exact absurd h (by decide)
 split at h
 ·exact absurd h (by decide)
 rename_i a b
 by_cases w0:p.window=0
 ·by_cases n0:p.n=0
  ·omega
  ·exact absurd (.inr (.inr (.inr ⟨w0,n0⟩))) a
 ·omega
theorem win2{p:Pat}(h:winE 2 p=0): -4611686018427387904≤p.n∧p.n≤4611686018427387904:=by
 unfold winE at h
 split at h
 ·exact absurd h (by decide)
 split at h
 ·exact absurd h (by decide)
 omega
theorem whens_sh(hT: ∀ t∈ts,TypSh t)(h:AllZ (whenE ts x) x.whens.length): ∀ p∈x.whens,PatSh p∧(shPat p).length≤1000∧0≤p.window∧p.window≤2∧ -4611686018427387904≤p.n∧p.n≤4611686018427387904:=fun p hp=>by
 obtain⟨i,hi,rfl⟩:=List.mem_iff_getElem.1 hp
 have h2:=h i hi
 unfold whenE at h2
 rw[show x.whens.getD i pat0=x.whens[i]by simp[List.getD,List.getElem?_eq_getElem hi]]at h2
 obtain⟨a,b,c⟩:=pat_sh hT (fun q hq=>whens_var h q (List.mem_of_mem_take hq)) h2
 exact⟨a,b,win0 c⟩
theorem nots_sh(hT: ∀ t∈ts,TypSh t)(hw:AllZ (whenE ts x) x.whens.length)(h:AllZ (notE ts x) x.nots.length): ∀ p∈x.nots,PatSh p∧(shPat p).length≤1000:=fun p hp=>by
 obtain⟨i,hi,rfl⟩:=List.mem_iff_getElem.1 hp
 have h2:=h i hi
 unfold notE at h2
 rw[show x.nots.getD i pat0=x.nots[i]by simp[List.getD,List.getElem?_eq_getElem hi]]at h2
 obtain⟨a,b, -⟩:=pat_sh hT (whens_var hw) h2
 exact⟨a,b⟩
theorem manies_sh(hT: ∀ t∈ts,TypSh t)(hw:AllZ (whenE ts x) x.whens.length)(h:AllZ (manyE ts x) x.manies.length): ∀ m∈x.manies,PatSh m.pat∧(shPat m.pat).length≤1000∧ -4611686018427387904≤m.pat.n∧m.pat.n≤4611686018427387904∧ -4611686018427387904≤m.count∧m.count≤4611686018427387904:=fun m hm=>by
 obtain⟨i,hi,rfl⟩:=List.mem_iff_getElem.1 hm
 have h2:=h i hi
 unfold manyE at h2
 rw[show x.manies.getD i man0=x.manies[i]by simp[List.getD,List.getElem?_eq_getElem hi]]at h2
 split at h2
 ·exact absurd h2 (by decide)
 rename_i hc
 split at h2
 ·rename_i h3;exact absurd h2 h3
 ·rename_i h3
  obtain⟨a,b,c⟩:=pat_sh hT (whens_var hw) (Classical.not_not.1 h3)
  obtain⟨d,e⟩:=win2 c
  have:0≤x.manies[i].count∧x.manies[i].count≤1125899906842624:=Classical.not_not.1 fun hn=>hc (.inr hn)
  exact⟨a,b,d,e,by omega,by omega⟩
theorem has_pos{l:List Pat}{n:ByteArray}(hl: ∀ p∈l,Nm p.var)(h:hasP l n=true):Nm n:=by
 have hlt:patI l n<l.length:=by simpa[hasP]using h
 have h6:=List.findIdx_getElem (p:=fun p:Pat=>sameS p.var n) (xs:=l) (w:=hlt)
 exact same_nm h6 (hl _ (List.getElem_mem hlt))
theorem opt_zero{r l h:Int}(k:optE r l h=0):(1≤r∧r≤13)∧(0≤l∧l≤1073741824)∧(-1≤h∧h≤1073741824):=by
 unfold optE at k
 (repeat' split at k)<;>omega
theorem links_sh(hw: ∀ p∈x.whens,Nm p.var)(hn: ∀ p∈x.nots,Nm p.var)(h:AllZ (fun i=>linkE x (x.links.getD i lnk0)) x.links.length): ∀ k∈x.links,k.opts.length≤6∧Nm k.left∧Nm k.right∧ ∀ o∈k.opts,1≤o.rel∧o.rel≤13∧0≤o.lo∧o.lo≤4611686018427387904∧ -4611686018427387904≤o.hi∧o.hi≤4611686018427387904:=fun k hk=>by
 obtain⟨i,hi,rfl⟩:=List.mem_iff_getElem.1 hk
 have h2:=h i hi
 simp only at h2
 rw[show x.links.getD i lnk0=x.links[i]by simp[List.getD,List.getElem?_eq_getElem hi]]at h2
 generalize x.links[i]=k at h2
 unfold linkE at h2
 split at h2
 ·exact absurd h2 (by decide)
 rename_i h3
 split at h2
 ·exact absurd h2 (by decide)
 split at h2
 ·exact absurd h2 (by decide)
 rename_i h4
 simp only[Bool.or_eq_true,Bool.and_eq_true,Bool.not_eq_true',not_or,not_and,Bool.not_eq_false]at h3
 have hs: ∀ n:ByteArray,(hasP x.whens n=false→hasP x.nots n=true)→Nm n:=fun n hh=>by
  cases hc:hasP x.whens n with
  |true=>exact has_pos hw hc
  |false=>exact has_pos hn (hh hc)
 refine⟨by omega,hs _ h3.1,hs _ h3.2,fun o ho=>?_⟩
 obtain⟨j,hj,rfl⟩:=List.mem_iff_getElem.1 ho
 have h5:=firstN_allS h2 j hj
 rw[show k.opts.getD j ⟨0,0,0⟩=k.opts[j]by simp[List.getD,List.getElem?_eq_getElem hj]]at h5
 obtain⟨a,b,c⟩:=opt_zero h5
 exact⟨a.1,a.2,b.1,by omega,by omega,by omega⟩
theorem emit_sh(hT: ∀ t∈ts,TypSh t)(hw: ∀ p∈x.whens,Nm p.var)(h:emitE ts x=0):x.evals.length≤100∧ ∀ o∈x.evals,OpdSh o:=by
 unfold emitE at h
 by_cases h1:emS x.etype=true
 ·rw[if_pos h1]at h
  by_cases h2:x.evals.length=0
  ·refine⟨by omega,fun o ho=>?_⟩
   rw[List.length_eq_zero_iff.1 h2]at ho
   cases ho
  ·rw[if_neg h2]at h;exact absurd h (by decide)
 rw[if_neg h1]at h
 by_cases h2:ts.length≤typI ts x.etype
 ·rw[if_pos h2]at h;exact absurd h (by decide)
 rw[if_neg h2]at h
 by_cases h3:x.evals.length≠(typAt ts x.etype).fields.length
 ·rw[if_pos h3]at h;exact absurd h (by decide)
 rw[if_neg h3]at h
 have h5:typI ts x.etype<ts.length:=by omega
 have ht:typAt ts x.etype=ts[typI ts x.etype]:=by unfold typAt;rw[List.getD,List.getElem?_eq_getElem h5];rfl
 have hS:=hT _ (List.getElem_mem h5)
 have hl:=hS.few
 have hO: ∀ f∈(typAt ts x.etype).fields,Nm f.name:=fun f hf=>by rw[ht]at hf;exact(hS.flds f hf).1
 refine⟨by rw[Classical.not_not.1 h3,ht];omega,fun o ho=>?_⟩
 obtain⟨i,hi,rfl⟩:=List.mem_iff_getElem.1 ho
 have h6:=firstN_allS h i hi
 rw[show x.evals.getD i opd0=x.evals[i]by simp[List.getD,List.getElem?_eq_getElem hi]]at h6
 split at h6
 ·exact absurd h6 (by decide)
 split at h6
 ·rename_i h7;exact absurd h6 h7
 ·rename_i h7;exact opd_sh hT hO hw (Classical.not_not.1 h7)
theorem typAt_nm(hT: ∀ t∈ts,TypSh t)(s:ByteArray): ∀ f∈(typAt ts s).fields,Nm f.name:=fun f hf=>by
 unfold typAt at hf
 by_cases h:typI ts s<ts.length
 ·rw[show ts.getD (typI ts s) typ0=ts[typI ts s]by rw[List.getD,List.getElem?_eq_getElem h];rfl]at hf
  exact((hT _ (List.getElem_mem h)).flds f hf).1
 ·rw[show ts.getD (typI ts s) typ0=typ0 by rw[List.getD,List.getElem?_eq_none (Nat.not_lt.1 h)];rfl]at hf
  cases hf
theorem manies_fld(hT: ∀ t∈ts,TypSh t)(h:AllZ (manyE ts x) x.manies.length): ∀ m∈x.manies,emS m.field=true∨Nm m.field:=fun m hm=>by
 obtain⟨i,hi,rfl⟩:=List.mem_iff_getElem.1 hm
 have h2:=h i hi
 unfold manyE at h2
 rw[show x.manies.getD i man0=x.manies[i]by simp[List.getD,List.getElem?_eq_getElem hi]]at h2
 split at h2
 ·exact absurd h2 (by decide)
 split at h2
 ·rename_i h3;exact absurd h2 h3
 ·unfold sumE at h2
  by_cases h4:emS x.manies[i].field=true
  ·exact .inl h4
  ·rw[if_neg h4]at h2
   by_cases h5:fldAt (typAt ts x.manies[i].pat.type).fields x.manies[i].field<(typAt ts x.manies[i].pat.type).fields.length
   ·exact .inr (fld_pos (typAt_nm hT _) h5)
   ·rw[if_neg h5]at h2;exact absurd h2 (by decide)
theorem ety_nm(hT: ∀ t∈ts,TypSh t)(h:emitE ts x=0):emS x.etype=true∨Nm x.etype:=by
 unfold emitE at h
 by_cases h1:emS x.etype=true
 ·exact .inl h1
 rw[if_neg h1]at h
 by_cases h2:ts.length≤typI ts x.etype
 ·rw[if_pos h2]at h;exact absurd h (by decide)
 have h5:typI ts x.etype<ts.length:=by omega
 have h6:=List.findIdx_getElem (p:=fun t:Typ=>sameS t.name x.etype) (xs:=ts) (w:=h5)
 exact .inr (same_nm h6 (hT _ (List.getElem_mem h5)).name)
theorem rul_sh(hT: ∀ t∈ts,TypSh t)(h:ruleE ts x=0):RulSh x:=by
 obtain⟨h1,h2,h3,h4,h5,h6,h7⟩:=rule_split h
 have hw:=whens_var h3
 have hn: ∀ p∈x.nots,Nm p.var:=fun p hp=>((nots_sh hT h3 h4) p hp).1.1
 simp[sizeB]at h2
 obtain⟨e1,e2⟩:=emit_sh hT hw h7
 exact⟨name_nm (free_name h1),by omega,by omega,by omega,by omega,e1,whens_sh hT h3,nots_sh hT h3 h4,manies_sh hT h3 h5,links_sh hw hn h6,e2,ety_nm hT h7,manies_fld hT h5⟩
end
theorem book_sh{b:Bok}(h:bookE b=0):b.types.length≤6∧b.rules.length≤5∧(∀ t∈b.types,TypSh t)∧ ∀ x∈b.rules,RulSh x:=by
 unfold bookE at h
 by_cases h1:6<b.types.length∨5<b.rules.length
 ·rw[if_pos h1]at h;exact absurd h (by decide)
 rw[if_neg h1]at h
 by_cases h2:firstN (btypE b) b.types.length≠0
 ·rw[if_pos h2]at h;exact absurd h h2
 rw[if_neg h2]at h
 by_cases h3:firstN (brulE b) b.rules.length≠0
 ·rw[if_pos h3]at h;exact absurd h h3
 have hT: ∀ t∈b.types,TypSh t:=fun t ht=>by
  obtain⟨i,hi,rfl⟩:=List.mem_iff_getElem.1 ht
  have h4:=firstN_allS (Classical.not_not.1 h2) i hi
  unfold btypE at h4
  rw[show b.types.getD i typ0=b.types[i]by simp[List.getD,List.getElem?_eq_getElem hi]]at h4
  split at h4
  ·rename_i h5;exact absurd h4 h5
  ·rename_i h5;exact typ_sh (Classical.not_not.1 h5)
 refine⟨by omega,by omega,hT,fun x hx=>?_⟩
 obtain⟨i,hi,rfl⟩:=List.mem_iff_getElem.1 hx
 have h4:=firstN_allS (Classical.not_not.1 h3) i hi
 unfold brulE at h4
 rw[show b.rules.getD i rul00=b.rules[i]by simp[List.getD,List.getElem?_eq_getElem hi]]at h4
 split at h4
 ·rename_i h5;exact absurd h4 h5
 ·rename_i h5;exact rul_sh hT (Classical.not_not.1 h5)
theorem show_any{F:Nat→Prop}{w0:World}{g:Nat}(hg:g<w0.heap.size)(E:Env F w0)(hF: ∀ b,F b→b<w0.heap.size)(b:Bok)(a1:Option Addr)(n1 c1:Nat)(a2:Option Addr)(n2 c2:Nat)(X1:SlF F w0 2 typF a1 n1 c1 b.types)(X2:SlF F w0 7 rulF a2 n2 c2 b.rules)(hts: ∀ t∈b.types,typOk t)(hrs: ∀ x∈b.rules,RulFit x)(hes: ∀ x∈b.rules,x.etype.size≤maxLen)
  (hR:SlF (under w0.heap.size) w0 1 wordF (some ⟨2,0,none⟩) 14 14 relsL):Calls Tryd.prog 4 #[.agg #[.slice a1 n1 c1,.slice a2 n2 c2]] w0 (ShPost w0 (showE b)):=by
 have HC:Hid (∀ wx,Below w0.heap.size w0 wx→Calls Tryd.prog 7 #[.agg #[.slice a1 n1 c1,.slice a2 n2 c2]] wx fun e w' =>e= .returned (.int .i64 (bookE b))∧Below wx.heap.size wx w'):=fun wx hb=>
  check_any (Nat.lt_of_lt_of_le hg hb.size) (E.below hb) (fun k hk=>Nat.lt_of_lt_of_le (hF k hk) hb.size) b a1 n1 c1 a2 n2 c2 (X1.below typF_firm hb) (X2.below rulF_firm hb) hts hrs hes
 by_cases h0:bookE b=0
 ·obtain⟨h6,h5,hT,hRu⟩:=book_sh h0
  exact show_main hg HC h0 X1 X2 hT hRu h6 h5 hR
 ·exact show_bad hg HC h0
end Go.Proofs.YtcebfkdhicbmkaaDoor
/-
  A book as tokens (the reference). Printed by shg.py.
-/
namespace Go.Proofs.YtcebfkdhicbmkaaDoor
open Go.RowKit
set_option linter.unusedVariables false
set_option linter.unusedSimpArgs false

section
variable {F : Nat → Prop} {g : Nat} {w0 : World} {b : Bok} {a1 a2 : Option Addr} {n1 c1 n2 c2 : Nat}
set_option maxRecDepth 8000 in
set_option maxHeartbeats 8000000 in
theorem shown_bad (hg : g < w0.heap.size) (HC : Hid (∀ wx, Below w0.heap.size w0 wx → Calls Tryd.prog 10 #[.agg #[.slice a1 n1 c1, .slice a2 n2 c2]] wx fun e w' => e = .returned (.int .i64 (bookE b)) ∧ Below wx.heap.size wx w')) (h0 : bookE b ≠ 0) :
    Calls Tryd.prog 5 #[.agg #[.slice a1 n1 c1, .slice a2 n2 c2]] w0 (ShPost w0 (showE b)) := by
  have M := Mem.begin hg ⟨0, 0⟩
  have HV : Hid (showE b = ([], bookE b)) := by show _ = _; unfold showE; rw [if_pos h0]
  have hqb : (bookE b != 0) = true := by simpa using h0
  generalize showE b = T at HV ⊢
  generalize bookE b = q at HC HV hqb
  clear h0 hg
  go_enter Tryd.func5, Tryd.ntmps5
  go_wp2_with (first | (go_at_call 10; with_reducible refine (HC.out _ M.new).mono ?_; rintro e w5 ⟨rfl, hb5⟩; replace M := M.below hb5; clear hb5) | (with_reducible (first | (refine wB (L := []) M ?_; clear M; intro za w1 M) | refine wq M ?_ | (refine wS M ?_; clear M; intro w M) | (refine wV M ?_; clear M; intro z w M) | (refine wR M ?_; clear M; intro q w M))))
  go_ret2
  rw [HV.out]
  exact ⟨_, _, _, rfl, M.new, SlF.nil⟩
set_option maxRecDepth 8000 in
set_option maxHeartbeats 32000000 in
theorem shown_main (hg : g < w0.heap.size) (HC : Hid (∀ wx, Below w0.heap.size w0 wx → Calls Tryd.prog 10 #[.agg #[.slice a1 n1 c1, .slice a2 n2 c2]] wx fun e w' => e = .returned (.int .i64 (bookE b)) ∧ Below wx.heap.size wx w')) (h0 : bookE b = 0)
    (X1 : SlF F w0 2 typF a1 n1 c1 b.types) (X2 : SlF F w0 7 rulF a2 n2 c2 b.rules) (hT : ∀ t ∈ b.types, TypSh t) (hRu : ∀ x ∈ b.rules, RulSh x) (h6 : b.types.length ≤ 6) (h5 : b.rules.length ≤ 5) :
    Calls Tryd.prog 5 #[.agg #[.slice a1 n1 c1, .slice a2 n2 c2]] w0 (ShPost w0 (showE b)) := by
  have M := Mem.begin hg ⟨0, 0⟩
  have HX1 := Lib.hid X1
  have HX2 := Lib.hid X2
  have hl1 := X1.le
  have hl2 := X2.le
  have N1 : Hid (n1 = b.types.length) := X1.len
  have N2 : Hid (n2 = b.rules.length) := X2.len
  have HT6 := Lib.hid hT
  have HR5 := Lib.hid hRu
  have HL6 := Lib.hid h6
  have HL5 := Lib.hid h5
  have HV0 : Hid (showE b = if 700 < (shBook b).length then ([], 8) else (shBook b, 0)) := by show _ = _; unfold showE; rw [if_neg (by rw [h0]; simp)]
  rw [h0] at HC
  generalize showE b = TE at HV0 ⊢
  clear X1 X2 hT hRu h6 h5 h0 hg
  go_enter Tryd.func5, Tryd.ntmps5
  go_wp2_with (first | (go_at_call 10; with_reducible refine (HC.out _ M.new).mono ?_; rintro e w5 ⟨rfl, hb5⟩; replace M := M.below hb5; clear hb5) | (with_reducible (first | (refine wB (L := []) M ?_; clear M; intro za w1 M) | refine wq M ?_ | (refine wS M ?_; clear M; intro w M) | (refine wV M ?_; clear M; intro z w M) | (refine wR M ?_; clear M; intro q w M))))
  replace M := M.tk0
  go_loopg [5, 6] n1 (fun fu v i wr => ∃ (j : Nat) (a : Option Addr) (m c : Nat) (ts : List Tkn), j + fu = n1 ∧ v = .slice a m c ∧ i = .int .i64 j ∧ Mem (StaysB g w0) g w0 wr ⟨0, 0⟩ (tkd a m c ts :: own za [.slice a1 n1 c1, .slice a2 n2 c2] 25 :: []) ∧ Hid (ts = shCat typT (b.types.take j)))
  case atStart => exact ⟨0, _, _, _, [], by omega, rfl, rfl, M, Lib.hid rfl⟩
  case round =>
    clear M
    obtain ⟨j, a5, m5, c5, ts, hj, rfl, rfl, M, HT⟩ := hrel
    by_cases hlt : j < n1
    · have hjl : j < b.types.length := by have := N1.out; omega
      obtain ⟨ct, ot, rowt, hixt, -, hrrt, hwt⟩ := SlF.rowAt (P := Tryd.prog) HX1.out typF_firm Tryd.underlying22 size_typ (i := j) hjl
      obtain ⟨fo, fn, fc, et, uf⟩ := hrrt
      subst et
      have HRT := Lib.hid (fun wx hb => (hwt wx hb).1)
      obtain ⟨TN, hTN⟩ : ∃ TN, TN = shCat typT (b.types.take (j + 1)) := ⟨_, rfl⟩
      have HTN := Lib.hid hTN
      have HTS : Hid (TN = ts ++ typT j b.types[j]) := by show _ = _; rw [hTN, shCat_snoc hjl, HT.out]
      have hts : ts.length ≤ 120 := by have h1 := take_cat_le (f := typT) (l := b.types) (K := 20) (n := 6) (j := j) (fun i p hp => typT_le (HT6.out p hp).few) HL6.out; have h2 := congrArg List.length HT.out; omega
      have HSH := Lib.hid (HT6.out _ (List.getElem_mem hjl))
      clear hTN hwt HT
      unfold typT at HTS
      unfold typC at HRT
      generalize b.types[j] = t at HRT HTS HSH uf
      clear hjl
      have HF := Lib.hid uf
      have hlf := uf.le
      have NF : Hid (fn = t.fields.length) := uf.len
      clear uf
      have S : SpkI (⟨#[116, 121, 112, 101, 32]⟩ ++ t.name ++ ⟨#[32, 123]⟩) [wordT ⟨#[116, 121, 112, 101]⟩, wordT t.name, wordT ⟨#[123]⟩] := spk_in HSH.out.name [116, 121, 112, 101] [123] (by decide) (by decide)
      have z1 : (5 : Nat) + t.name.size ≤ 9223372036854775807 := by have := HSH.out.name.few; omega
      have z2 : (5 : Nat) + t.name.size + 2 ≤ 9223372036854775807 := by have := HSH.out.name.few; omega
      obtain ⟨U0, hU0⟩ : ∃ U0, U0 = ts ++ [wordT ⟨#[116, 121, 112, 101]⟩, wordT t.name, wordT ⟨#[123]⟩] := ⟨_, rfl⟩
      have HU0 := Lib.hid hU0
      have HU0L : Hid (U0.length ≤ 123) := by show _ ≤ _; rw [hU0]; simp; omega
      clear hU0
      go_upto_region 9 with (first | ((with_reducible refine o_list rfl fun K hK => ?_); refine q_in M (by rfl) (by rfl) (by rfl) ?_; clear M; intro w M; (try simp only [List.set_cons_zero, List.set_cons_succ, laid, opdC, List.take_succ_cons, List.take_zero, List.drop_succ_cons, List.drop_zero, List.length_cons, List.length_nil, List.cons_append, List.nil_append, Nat.reduceAdd, Nat.zero_add] at M); refine hK _ _ ?_; clear hK K) | (with_reducible (first | (refine wV M ?_; clear M; intro zx w M) | refine wA (HRT.out _ M.new) ?_ | refine wq M ?_ | (refine wS M ?_; clear M; intro w M) | (refine wV M ?_; clear M; intro z w M) | (refine wR M ?_; clear M; intro q w M))))
      replace M := M.swap
      go_wp2_with (first | (go_at_call 12; with_reducible refine (spkI M).mono ?_; clear M; rintro e w ⟨ta, tn, tc, rfl, M⟩) | (go_at_call 11; (with_reducible refine (tkn ?_ M).mono ?_); (focus (refine ⟨?_, by decide⟩; simp only [List.flatten_cons, List.flatten_nil, List.length_append, List.length_cons, List.length_nil]; omega)); clear M; rintro e w ⟨ta, tn, tc, rfl, M⟩) | (with_reducible (first | (refine w_ (q_rows M ?_); clear M; intro q w M) | refine wq M ?_ | (refine wS M ?_; clear M; intro w M) | (refine wV M ?_; clear M; intro z w M) | (refine wR M ?_; clear M; intro q w M))))
      replace M := M.tkr (b' := U0) (by rw [HU0.out]; simp)
      go_loopg [5, 8] fn (fun fu v i wr => ∃ (jo : Nat) (a : Option Addr) (m c : Nat) (us : List Tkn), jo + fu = fn ∧ v = .slice a m c ∧ i = .int .i64 jo ∧ Mem (StaysB g w0) g w0 wr ⟨0, 0⟩ (tkd a m c us :: own zx [.string t.name, .slice fo fn fc] 38 :: own za [.slice a1 n1 c1, .slice a2 n2 c2] 25 :: []) ∧ Hid (us = U0 ++ shCat fldT (t.fields.take jo)))
      case atStart => exact ⟨0, _, _, _, U0, by omega, rfl, rfl, M, Lib.hid (by simp [shCat_nil])⟩
      case round =>
        clear M
        obtain ⟨jo, a6, m6, c6, us, hjo, rfl, rfl, M, HU⟩ := hrel
        by_cases hlo : jo < fn
        · have hjl : jo < t.fields.length := by have := NF.out; omega
          obtain ⟨cq, oq, rowq, hixq, -, hrrq, hwq⟩ := SlF.rowAt (P := Tryd.prog) HF.out (plainF_firm _) Tryd.underlying36 size_fld (i := jo) hjl
          have eq : rowq = fldC t.fields[jo] := hrrq
          subst eq
          have HRQ0 : Hid (∀ wx, Below w0.heap.size w0 wx → wx.cell? ⟨cq, oq, none⟩ = some (.string t.fields[jo].name)) := fun wx hb => (hwq wx hb).1 0 _ rfl
          have HRQ1 : Hid (∀ wx, Below w0.heap.size w0 wx → wx.cell? ⟨cq, oq + 1, none⟩ = some (.int .i64 t.fields[jo].kind)) := fun wx hb => (hwq wx hb).1 1 _ rfl
          obtain ⟨UN, hUN⟩ : ∃ UN, UN = U0 ++ shCat fldT (t.fields.take (jo + 1)) := ⟨_, rfl⟩
          have HUN := Lib.hid hUN
          have HUS : Hid (UN = us ++ fldT jo t.fields[jo]) := by show _ = _; rw [hUN, shCat_snoc hjl, HU.out, List.append_assoc]
          have hus : us.length ≤ 150 := by have h1 := take_cat_le (f := fldT) (l := t.fields) (K := 4) (n := 4) (j := jo) (fun i p _ => fldT_le) HSH.out.few; have h2 := congrArg List.length HU.out; rw [List.length_append] at h2; have := HU0L.out; omega
          obtain ⟨q1, q2⟩ := HSH.out.flds _ (List.getElem_mem hjl)
          clear hUN hrrq hwq HU
          unfold fldT at HUS
          generalize t.fields[jo] = f at HRQ0 HRQ1 HUS q1 q2
          clear hjl
          have i1 : SpkI (f.name ++ ⟨#[32, 58, 32]⟩ ++ ⟨#[105, 110, 116]⟩) [wordT f.name, wordT ⟨#[58]⟩, wordT ⟨#[105, 110, 116]⟩] := spk_mid q1 ⟨by decide, by decide, by decide⟩ [58] (by decide)
          have i2 : SpkI (f.name ++ ⟨#[32, 58, 32]⟩ ++ ⟨#[116, 101, 120, 116]⟩) [wordT f.name, wordT ⟨#[58]⟩, wordT ⟨#[116, 101, 120, 116]⟩] := spk_mid q1 ⟨by decide, by decide, by decide⟩ [58] (by decide)
          have z3 : f.name.size + 3 ≤ 9223372036854775807 := by have := q1.few; omega
          have z4 : f.name.size + 3 + 3 ≤ 9223372036854775807 := by have := q1.few; omega
          have z5 : f.name.size + 3 + 4 ≤ 9223372036854775807 := by have := q1.few; omega
          have hj0 : (¬ ((0 : Int) < (jo : Int)) ∧ Hid (jo = 0)) ∨ (0 < jo ∧ Hid (¬ jo = 0)) := by
            by_cases h : jo = 0
            · exact .inl ⟨by omega, Lib.hid h⟩
            · exact .inr ⟨by omega, Lib.hid h⟩
          clear q1
          rcases q2 with q2 | q2 <;> rcases hj0 with ⟨hjp, hj0⟩ | ⟨hjp, hj0⟩
          all_goals
            rw [q2] at HRQ1 HUS
            clear q2
            go_wp2_with (first | (go_at_call 12; with_reducible refine (spkI M).mono ?_; clear M; rintro e w ⟨ta, tn, tc, rfl, M⟩) | (go_at_call 11; (with_reducible refine (tkn ?_ M).mono ?_); (focus (refine ⟨?_, by decide⟩; simp only [List.flatten_cons, List.flatten_nil, List.length_append, List.length_cons, List.length_nil]; omega)); clear M; rintro e w ⟨ta, tn, tc, rfl, M⟩) | (with_reducible (first | (refine w_ (q_rows M ?_); clear M; intro q w M) | refine wC (HRQ0.out _ M.new) ?_ | refine wC (HRQ1.out _ M.new) ?_ | refine wq M ?_ | (refine wS M ?_; clear M; intro w M) | (refine wV M ?_; clear M; intro z w M) | (refine wR M ?_; clear M; intro q w M))))
            go_roundg (fn - (jo + 1))
            case measure => omega
            case rel => exact ⟨jo + 1, _, _, _, _, by omega, rfl, by go_num, M, Lib.hid (by rw [← HUN.out, HUS.out]; have k1 := hj0.out; simp [k1, kindW])⟩
        · have hue : us = U0 ++ shCat fldT t.fields := by rw [HU.out, List.take_of_length_le (by have := NF.out; omega)]
          have hul : us.length ≤ 150 := by have h1 := shCat_le (f := fldT) (l := t.fields) (K := 4) (fun i p _ => fldT_le); have := HU0L.out; have := HSH.out.few; rw [hue, List.length_append]; omega
          have HUE := Lib.hid hue
          clear hue HU
          go_wp2_with (first | (go_at_call 12; with_reducible refine (spkI M).mono ?_; clear M; rintro e w ⟨ta, tn, tc, rfl, M⟩) | (go_at_call 11; (with_reducible refine (tkn ?_ M).mono ?_); (focus (refine ⟨?_, by decide⟩; simp only [List.flatten_cons, List.flatten_nil, List.length_append, List.length_cons, List.length_nil]; omega)); clear M; rintro e w ⟨ta, tn, tc, rfl, M⟩) | (with_reducible (first | (refine w_ (q_rows M ?_); clear M; intro q w M) | refine wq M ?_ | (refine wS M ?_; clear M; intro w M) | (refine wV M ?_; clear M; intro z w M) | (refine wR M ?_; clear M; intro q w M))))
          go_roundg (n1 - (j + 1))
          case measure => omega
          case rel => exact ⟨j + 1, _, _, _, _, by omega, rfl, by go_num, M.skip, Lib.hid (by rw [← HTN.out, HTS.out, HUE.out, HU0.out]; simp)⟩
    · have hte : ts = shCat typT b.types := by rw [HT.out, List.take_of_length_le (by have := N1.out; omega)]
      have HT1L : Hid (ts.length ≤ 120) := by
        show _ ≤ _
        have h1 := take_cat_le (f := typT) (l := b.types) (K := 20) (n := 6) (j := b.types.length) (fun i p hp => typT_le (HT6.out p hp).few) HL6.out
        rw [List.take_length] at h1
        rw [hte]
        omega
      have HT1 := Lib.hid hte
      clear hte HT
      obtain ⟨T1, rfl⟩ : ∃ T1, T1 = ts := ⟨_, rfl⟩
      go_wp2_with (first | (with_reducible (first | refine wq M ?_ | (refine wS M ?_; clear M; intro w M) | (refine wV M ?_; clear M; intro z w M) | (refine wR M ?_; clear M; intro q w M))))
      go_loopg [5, 10] n2 (fun fu v i wr => ∃ (j : Nat) (a : Option Addr) (m c : Nat) (ts : List Tkn), j + fu = n2 ∧ v = .slice a m c ∧ i = .int .i64 j ∧ Mem (StaysB g w0) g w0 wr ⟨0, 0⟩ (tkd a m c ts :: own za [.slice a1 n1 c1, .slice a2 n2 c2] 25 :: []) ∧ Hid (ts = T1 ++ shCat (fun _ x => shRule x) (b.rules.take j)))
      case atStart => exact ⟨0, _, _, _, T1, by omega, rfl, rfl, M, Lib.hid (by simp [shCat_nil])⟩
      case round =>
        clear M
        obtain ⟨j, a5, m5, c5, ts, hj, rfl, rfl, M, HT⟩ := hrel
        by_cases hlt2 : j < n2
        · have hjl : j < b.rules.length := by have := N2.out; omega
          obtain ⟨cr, or, rowr, hixr, -, hrrr, hwr⟩ := SlF.rowAt (P := Tryd.prog) HX2.out rulF_firm Tryd.underlying23 size_rul (i := j) hjl
          obtain ⟨b1, m1, e1, b2, m2, e2, b3, m3, e3, b4, m4, e4, b6, m6, e6, er, Y1, Y2, Y3, Y4, Y6⟩ := hrrr
          subst er
          have HRR2 := Lib.hid (fun wx hb => (hwr wx hb).1)
          have hrl := shRule_le (HR5.out _ (List.getElem_mem hjl))
          have HTS : Hid (ts ++ shRule b.rules[j] = T1 ++ shCat (fun _ x => shRule x) (b.rules.take (j + 1))) := by show _ = _; rw [shCat_snoc hjl, HT.out, List.append_assoc]
          have hts : ts.length ≤ 80000 := by have h1 := take_cat_le (f := fun _ x => shRule x) (l := b.rules) (K := 8000) (n := 5) (j := j) (fun i p hp => shRule_le (HR5.out p hp)) HL5.out; have h2 := congrArg List.length HT.out; rw [List.length_append] at h2; have := HT1L.out; omega
          have HRU : Hid (∀ wx, g < wx.heap.size → Below w0.heap.size w0 wx → Calls Tryd.prog 13 #[.agg #[.string b.rules[j].name, .slice b1 m1 e1, .slice b2 m2 e2, .slice b3 m3 e3, .slice b4 m4 e4, .string b.rules[j].etype, .slice b6 m6 e6]] wx (TkP wx (shRule b.rules[j]))) := fun wx h hb =>
            rule_ref h (HR5.out _ (List.getElem_mem hjl)) (Y1.below patF_firm hb) (Y2.below patF_firm hb) (Y3.below manF_firm hb) (Y4.below lnkF_firm hb) (Y6.below opdF_firm hb)
          clear hwr HT Y1 Y2 Y3 Y4 Y6
          unfold rulC at HRR2
          generalize shRule b.rules[j] = tr at HRU HTS hrl
          generalize b.rules[j] = x at HRR2 HRU
          clear hjl
          go_wp2_with (first | (go_at_call 13; with_reducible refine (HRU.out _ M.gt M.new).mono ?_; rintro e w h5; replace M := M.tkq h5; clear h5; obtain ⟨ta, tn, tc, rfl, M⟩ := M) | (go_at_call 11; (with_reducible refine (tkn ?_ M).mono ?_); (focus (refine ⟨?_, by decide⟩; simp only [List.flatten_cons, List.flatten_nil, List.length_append, List.length_cons, List.length_nil]; omega)); clear M; rintro e w ⟨ta, tn, tc, rfl, M⟩) | (with_reducible (first | (refine w_ (q_rows M ?_); clear M; intro q w M) | refine wA (HRR2.out _ M.new) ?_ | refine wq M ?_ | (refine wS M ?_; clear M; intro w M) | (refine wV M ?_; clear M; intro z w M) | (refine wR M ?_; clear M; intro q w M))))
          go_roundg (n2 - (j + 1))
          case measure => omega
          case rel => exact ⟨j + 1, _, _, _, _, by omega, rfl, by go_num, M, Lib.hid (by rw [← HTS.out]; simp)⟩
        · have hte : ts = shBook b := by
            unfold shBook
            rw [HT.out, HT1.out, List.take_of_length_le (by have := N2.out; omega)]
          rw [← hte] at HV0
          clear HT HT1 hte
          have hm : m5 = ts.length := (show SlF _ _ 3 tknF a5 m5 c5 ts from M.dat_ (i := 0) rfl).len
          have hmc := (show SlF _ _ 3 tknF a5 m5 c5 ts from M.dat_ (i := 0) rfl).le
          rw [← hm] at HV0
          clear hm
          by_cases h7 : 700 < m5
          · rw [if_pos h7] at HV0
            go_wp2_with (first | (with_reducible (first | refine wq M ?_ | (refine wS M ?_; clear M; intro w M) | (refine wV M ?_; clear M; intro z w M) | (refine wR M ?_; clear M; intro q w M))))
            go_ret2
            rw [HV0.out]
            exact ⟨_, _, _, rfl, M.new, SlF.nil⟩
          · rw [if_neg h7] at HV0
            go_wp2_with (first | (with_reducible (first | refine wq M ?_ | (refine wS M ?_; clear M; intro w M) | (refine wV M ?_; clear M; intro z w M) | (refine wR M ?_; clear M; intro q w M))))
            go_ret2
            rw [HV0.out]
            exact ⟨_, _, _, rfl, M.new, (show SlF _ _ 3 tknF a5 m5 c5 ts from M.dat_ (i := 0) rfl).wide tknF_firm fun _ _ _ => trivial⟩
theorem shown_any (hg : g < w0.heap.size) (HC : ∀ wx, Below w0.heap.size w0 wx → Calls Tryd.prog 10 #[.agg #[.slice a1 n1 c1, .slice a2 n2 c2]] wx fun e w' => e = .returned (.int .i64 (bookE b)) ∧ Below wx.heap.size wx w') (X1 : SlF F w0 2 typF a1 n1 c1 b.types) (X2 : SlF F w0 7 rulF a2 n2 c2 b.rules) : Calls Tryd.prog 5 #[.agg #[.slice a1 n1 c1, .slice a2 n2 c2]] w0 (ShPost w0 (showE b)) := by
  by_cases h0 : bookE b = 0
  · obtain ⟨h6, h5, hT, hRu⟩ := book_sh h0
    exact shown_main hg HC h0 X1 X2 hT hRu h6 h5
  · exact shown_bad hg HC h0
end
end Go.Proofs.YtcebfkdhicbmkaaDoor
/-
  The walk of the law CheckShows: the program's tokens and the reference's are the same.
-/
namespace Go.Proofs.YtcebfkdhicbmkaaDoor
open Go.ChangeShapes Go.WideShapes Go.ChangeAt Go.RowKit Go.Joins Go.Deep
set_option linter.unusedVariables false
set_option linter.unusedSimpArgs false

section
set_option maxHeartbeats 2000000 in
theorem sameTokens_yes (F G : Nat → Prop) (ao : Option Addr) (n cap : Nat) (bo : Option Addr) (m bcap : Nat) (xs : List Tkn) (w : World) (hX : SlF F w 3 tknF ao n cap xs) (hY : SlF G w 3 tknF bo m bcap xs) :
    Calls Tryd.prog 6 #[.slice ao n cap, .slice bo m bcap] w fun e w' => e = .returned (.bool true) ∧ Below w.heap.size w w' := by
  obtain rfl : m = n := by rw [hX.len, hY.len]
  have NL : Hid (m = xs.length) := hX.len
  have hle := hX.le
  go_enter Tryd.func6, Tryd.ntmps6
  go_wp2_with fail
  go_loopw [5] (fun i wr => ∃ k : Nat, k ≤ m ∧ i = .int .i64 k ∧ Below w.heap.size w wr) (fun i _ => m - (intOf i).toNat)
  case atStart => exact ⟨0, by omega, rfl, Below.refl _ _⟩
  case round =>
    obtain ⟨k, hk, rfl, hbr⟩ := hrel
    by_cases hlt : k < m
    · have hkl : k < xs.length := by have := NL.out; omega
      obtain ⟨b, off, row, hix, hblt, hrow, hrr⟩ := (hX.below tknF_firm hbr).toR.index (P := Tryd.prog) Tryd.underlying26 size_tkn (i := k) hkl
      obtain ⟨b2, off2, row2, hix2, hblt2, hrow2, hrr2⟩ := (hY.below tknF_firm hbr).toR.index (P := Tryd.prog) Tryd.underlying26 size_tkn (i := k) hkl
      generalize xs[k] = t at hrr hrr2
      have e1 : row = [.int .i64 t.kind, .string t.text, .int .i64 t.int] := hrr
      have e2 : row2 = [.int .i64 t.kind, .string t.text, .int .i64 t.int] := hrr2
      subst e1 e2
      obtain ⟨c0, c1, c2⟩ := hrow.three
      obtain ⟨d0, d1, d2⟩ := hrow2.three
      go_wp2_with fail
      go_quiet (fail)
      go_wp2
      go_roundw
      case rel => exact ⟨k + 1, by omega, by go_num, (by repeat (first | exact Below.refl _ _ | assumption | refine below_step ?_ (by assumption) | refine below_step ?_ (Joins.below_draws _ _ _) | (refine Below.alloc ?_ (by first | omega | (simp; done) | (simp; omega)) _) | (refine Below.setCell ?_ (by first | omega | (simp; done) | (simp; omega)) _) | refine Below.drew ?_))⟩
      case measure => simp [intOf]; omega
    · go_wp2
      go_ret
      exact ⟨rfl, hbr⟩
set_option maxRecDepth 8000 in
set_option maxHeartbeats 4000000 in
theorem checkShows_walk (b : Bok) (a1 : Option Addr) (n1 c1 : Nat) (a2 : Option Addr) (n2 c2 : Nat) (w0 : World) (X1 : SlF (under w0.heap.size) w0 2 typF a1 n1 c1 b.types) (X2 : SlF (under w0.heap.size) w0 7 rulF a2 n2 c2 b.rules) (hts : ∀ t ∈ b.types, typOk t) (hrs : ∀ x ∈ b.rules, RulFit x) (hes : ∀ x ∈ b.rules, x.etype.size ≤ maxLen)
    (hK : SlF (under w0.heap.size) w0 1 wordF (some ⟨0, 0, none⟩) 17 17 keptL) (hR : SlF (under w0.heap.size) w0 1 wordF (some ⟨1, 0, none⟩) 14 14 relsL) (hS : SlF (under w0.heap.size) w0 1 wordF (some ⟨2, 0, none⟩) 14 14 relsL) :
    Calls Tryd.prog 3 #[.agg #[.slice a1 n1 c1, .slice a2 n2 c2]] w0 fun e w' => e = .returned (.bool true) ∧ Below w0.heap.size w0 w' := by
  have E : Env (under w0.heap.size) w0 := ⟨hK, hR⟩
  have M := Mem.begin E.lt ⟨0, 0⟩
  have HC : Hid (∀ wx, Below w0.heap.size w0 wx → Calls Tryd.prog 4 #[.agg #[.slice a1 n1 c1, .slice a2 n2 c2]] wx (ShPost wx (showE b))) := fun wx hb =>
    show_any (E.below hb).lt (E.below hb) (fun k hk => Nat.lt_of_lt_of_le hk hb.size) b a1 n1 c1 a2 n2 c2 (X1.below typF_firm hb) (X2.below rulF_firm hb) hts hrs hes ((hS.below wordF_firm hb).wide wordF_firm fun k hk hlt => hlt)
  have HB : Hid (∀ wx, Below w0.heap.size w0 wx → Calls Tryd.prog 5 #[.agg #[.slice a1 n1 c1, .slice a2 n2 c2]] wx (ShPost wx (showE b))) := fun wx hb =>
    shown_any (E.below hb).lt (fun wy hy => bookFault_any (E.below (hb.trans (hy.mono hb.size))).lt b a1 n1 c1 a2 n2 c2 (X1.below typF_firm (hb.trans (hy.mono hb.size))) (X2.below rulF_firm (hb.trans (hy.mono hb.size))) hts (fun x hx => (hrs x hx).ok)) (X1.below typF_firm hb) (X2.below rulF_firm hb)
  unfold ShPost at HC HB
  generalize showE b = v at HC HB
  clear X1 X2 hts hrs hes hK hR hS E
  go_enter Tryd.func3, Tryd.ntmps3
  go_wp2_with (first | (with_reducible (first | (refine wB (L := []) M ?_; clear M; intro za w1 M) | refine wq M ?_ | (refine wS M ?_; clear M; intro w M) | (refine wV M ?_; clear M; intro z w M) | (refine wR M ?_; clear M; intro q w M))) | (go_at_call 4; with_reducible refine (HC.out _ M.new).mono ?_; rintro e w5 ⟨x1, xn, xc, rfl, hb5, HS1⟩; replace M := M.below hb5; replace HS1 := Lib.hid HS1; clear hb5) | (go_at_call 5; with_reducible refine (HB.out _ M.new).mono ?_; rintro e w6 ⟨y1, yn, yc, rfl, hb6, HS2⟩; replace M := M.below hb6; replace HS2 := Lib.hid HS2; replace HS1 := Lib.hid (HS1.out.below tknF_firm hb6); clear hb6) | (go_at_call 6; with_reducible refine (sameTokens_yes _ _ _ _ _ _ _ _ _ _ HS1.out HS2.out).mono ?_; rintro e w7 ⟨rfl, hb7⟩; replace M := M.below hb7; clear hb7))
  go_ret
  exact ⟨ret_bool (by simp), M.new⟩
end
end Go.Proofs.YtcebfkdhicbmkaaDoor
namespace Go.Proofs.YtcebfkdhicbmkaaDoor
open Go.ChangeShapes Go.WideShapes Go.ChangeAt Go.RowKit Go.Joins
open Go.ChangeMaps (setBlock shut_map_nil open_string shut_string keptBut_setBlock frozen?_setBlock heap_setBlock_same)
set_option linter.unusedVariables false

theorem g_rels : Tryd.prog.globalNamed "dotterel/parse.relations" = some 1 := by kernel_rfl
theorem gt_rels : (Tryd.prog.globals[1]?).map (·.type) = some 92 := by kernel_rfl
theorem gc_rels : Tryd.prog.cellsOf 92 = 14 := by kernel_rfl
theorem g_kept : Tryd.prog.globalNamed "dotterel/parse.kept" = some 0 := by kernel_rfl
theorem gt_kept : (Tryd.prog.globals[0]?).map (·.type) = some 91 := by kernel_rfl
theorem gc_kept : Tryd.prog.cellsOf 91 = 17 := by kernel_rfl
theorem g_rels2 : Tryd.prog.globalNamed "dotterel/check.relations" = some 2 := by kernel_rfl
theorem gt_rels2 : (Tryd.prog.globals[2]?).map (·.type) = some 92 := by kernel_rfl
theorem gc_rels2 : Tryd.prog.cellsOf 92 = 14 := by kernel_rfl
theorem cells_string : Tryd.prog.cellsOf 9 = 1 := by kernel_rfl
/-- A world for the witness: the tables hold what their initialisers lay. -/
noncomputable def laidWorld (os : Os) : World :=
  { World.holding Tryd.prog os ⟨#[], #[], []⟩ with heap := (layCells (layCells (layCells (World.holding Tryd.prog os ⟨#[], #[], []⟩).heap 1 (relsL.map Value.string).toArray) 0 (keptL.map Value.string).toArray) 2 (relsL.map Value.string).toArray) }
theorem laid_met (os : Os) : laidMet Tryd.prog Rows.checkShowsRow.laid ((laidWorld os).forCall (fun _ _ => 0) ⟨#[], #[.agg #[.slice none 0 0, .slice none 0 0]], []⟩).memory :=
  laidMet_of_run' 8 (by kernel_rfl) (by kernel_rfl)
theorem reads (os : Os) {H : Type} (enc : TypeId × Value → H) : ∃ places, DataW.whole enc Tryd.prog ((laidWorld os).forCall (fun _ _ => 0) ⟨#[], #[.agg #[.slice none 0 0, .slice none 0 0]], []⟩).memory Tryd.f3.params.toList Rows.checkShowsSpec.vars false #[(.agg #[.slice none 0 0, .slice none 0 0] : Value)].toList 8 = some ([.agg [.nil, .nil]], [], places) :=
  ⟨[], by kernel_rfl⟩

set_option maxRecDepth 100000 in
theorem checkShows_lifted (os : Os) (started : os.Started) (H : Type) (enc : TypeId × Value → H) (F : Stop.Interp) :
    ReturnsInHanded {} Tryd.checked os 3 .any ((OpenSpec.ofChange Rows.checkShowsSpec).preRow enc Tryd.prog Tryd.f3 Rows.checkShowsRow.domain false Rows.checkShowsRow.laid) (((OpenSpec.ofChange Rows.checkShowsSpec).at F).post enc Tryd.prog Tryd.f3 false true false false) := by
  have hp : Tryd.f3.params = #[25] := Tryd.params3
  obtain ⟨places, hx⟩ := reads os enc
  refine lawrow_lift (C := Tryd.checked) (fn := Tryd.f3) (s := Rows.checkShowsSpec) (tb := 4) own_knob started (by kernel_rfl) Tryd.func3 laid_out (by kernel_rfl) rfl (by kernel_rfl) Tryd.underlying4
    (fun ds hl => by rw [hp] at hl; exact (by match ds, hl with | [_], _ => rfl))
    (witness_row_at (enc := enc) (C := Tryd.checked) false (laidWorld os) #[.agg #[.slice none 0 0, .slice none 0 0]] rfl (by kernel_rfl) (by kernel_rfl) (by kernel_rfl)
      (OpenSpec.preRow_of_cond 8 hx (by kernel_rfl) (fun k hk => by cases hk) (by kernel_rfl) (laid_met os))) ?_
  intro W base args ds ps hval0 hA0 hlt hsz0 hL
  have hval : ∀ (j : Nat) t v, Tryd.f3.params[j]? = some t → args[j]? = some v → Value.okWide Tryd.prog W .any base t v := hval0
  have hA : DataW.TrodAll enc Tryd.prog W 0 (fun _ => true) true Tryd.f3.params.toList args.toList ds ps := hA0
  have hsz : (DataW.weightsEach Tryd.prog Tryd.f3.params.toList ds).all (· ≤ reachBytes) = true := hsz0
  rw [hp] at hA hval hsz
  clear hA0 hval0 hsz0
  have hL' : laidMet Tryd.prog [("dotterel/parse.relations", wordsData relsL), ("dotterel/parse.kept", wordsData keptL), ("dotterel/check.relations", wordsData relsL)] W := hL
  have c_rels := words_of_head g_rels gt_rels Tryd.underlying92 Tryd.underlying9 cells_string gc_rels (zs := relsL) hL'
  have b_rels : 1 < W.heap.size := World.block_lt_of_cell? W ⟨1, 0, none⟩ (c_rels 0 (by decide))
  have S_rels : SlF (under W.heap.size) W 1 wordF (some ⟨1, 0, none⟩) 14 14 relsL := words_cells b_rels b_rels rfl (by omega) c_rels
  have c_kept := words_of_head g_kept gt_kept Tryd.underlying91 Tryd.underlying9 cells_string gc_kept (zs := keptL) (laidMet.tail hL')
  have b_kept : 0 < W.heap.size := World.block_lt_of_cell? W ⟨0, 0, none⟩ (c_kept 0 (by decide))
  have S_kept : SlF (under W.heap.size) W 1 wordF (some ⟨0, 0, none⟩) 17 17 keptL := words_cells b_kept b_kept rfl (by omega) c_kept
  have c_rels2 := words_of_head g_rels2 gt_rels2 Tryd.underlying92 Tryd.underlying9 cells_string gc_rels2 (zs := relsL) (laidMet.tail (laidMet.tail hL'))
  have b_rels2 : 2 < W.heap.size := World.block_lt_of_cell? W ⟨2, 0, none⟩ (c_rels2 0 (by decide))
  have S_rels2 : SlF (under W.heap.size) W 1 wordF (some ⟨2, 0, none⟩) 14 14 relsL := words_cells b_rels2 b_rels2 rfl (by omega) c_rels2
  obtain ⟨v0, d0, rfl, rfl, h0⟩ := trodAll_one hA
  obtain ⟨b0, p0, q0, r0, p10, q10, r10, rfl, S0, T0, U0, V0, W0⟩ := open_bok (hval 0 25 v0 rfl rfl) h0 (fun p hp => hlt p (by simp [hp])) (fun q hq => by simpa using List.all_eq_true.1 hsz q (DataW.weights_mem_each (j := 0) rfl rfl q hq))
  exact checkShows_walk b0 _ _ _ _ _ _ W S0 T0 U0 V0 W0 S_kept S_rels S_rels2

theorem checkShows_said : Rows.CheckShowsSaid :=
  OpenClaim.holds_of_cond 3 Tryd.f3 rfl rfl rfl rfl rfl rfl rfl ⟨rfl, rfl, rfl, rfl, rfl⟩ rfl rfl rfl rfl rfl (by kernel_rfl) Tryd.func3 (by kernel_rfl)
    (of_decide_eq_true (by kernel_rfl)) (by unfold Func.isWrapper; first | (rw [if_pos (by decide +kernel)]; kernel_rfl) | (rw [if_neg (by decide +kernel)]; exact ⟨rfl, rfl⟩))
    (fun os started H enc _ F => by rw [OpenClaim.pre_eq_preRow]; exact checkShows_lifted os started H enc F)

/-- No parameter wants a stand-in; the program's own looks are off: what the card asks. -/
theorem plainCard (f : FuncId) (fn : Func) (hf : Tryd.pinned.checked.prog.funcNamed "dotterel/dotterellaw.CheckShows" = some f) (hfn : Tryd.pinned.checked.prog.funcs[f]? = some fn) :
    false = Tryd.pinned.checked.prog.looks [] ∧ ∀ (j : Nat) t, fn.params[j]? = some t → Tryd.pinned.checked.prog.wantsStandIn t = false := by
  obtain rfl : f = 3 := Option.some.inj ((show Tryd.prog.funcNamed "dotterel/dotterellaw.CheckShows" = some 3 by kernel_rfl).symm.trans hf) |>.symm
  obtain rfl : fn = Tryd.f3 := (Option.some.inj (Tryd.func3.symm.trans hfn)).symm
  refine ⟨by kernel_rfl, fun j t ht => ?_⟩
  have hp : Tryd.f3.params = #[25] := Tryd.params3
  rw [hp] at ht
  obtain rfl : t = 25 := by simpa using Array.mem_of_getElem? ht
  exact (show Tryd.prog.wantsStandIn 25 = false by kernel_rfl)

/-- The statement: the card. -/
theorem checkShows_holds : Rows.CheckShowsCardSaid :=
  Claim7.holds_tied_plain_at .later [] _ _ _ _ checkShows_said (fun _ h => by cases h) (by kernel_rfl) (fun _ h => by cases h) checkShows_row_tie rfl ⟨rfl, rfl⟩ (by kernel_rfl) rfl plainCard (by kernel_rfl)

#print axioms checkShows_holds
end Go.Proofs.YtcebfkdhicbmkaaDoor
