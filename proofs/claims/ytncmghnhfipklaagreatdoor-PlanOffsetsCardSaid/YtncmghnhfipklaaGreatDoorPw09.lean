/-
  Regions that draw: what reads (or reckons) is taken first, whatever the order; what is left comes in one order: one walk.
-/
import Derived.Test.YtncmghnhfipklaaGreatDoorPw08
import Derived.Test.YtncmghnhfipklaaGreatDoorPu05
namespace Go.Proofs.YtncmghnhfipklaaGreatDoor
open Go.RowKit
set_option linter.unusedVariables false
set_option linter.unusedSimpArgs false
section
variable {P:Program} {ops:Array Oper} {md:Region.Mode} {C:World→Prop} {Q:Exit→Act→World→Prop}
def ReadsV(P:Program)(ops:Array Oper)(C:World→Prop)(o:Oper)(v:Value)(a:Act):Prop:=
 Region.wanted o (yielded ops a.tmps)=true∧ ∀ w,C w→(execOp a.eval o).run P w= .ok (.value v) w
def depB(md:Region.Mode)(ops:Array Oper):Nat→Nat→Nat→Bool
 |0,_,_=>false
 |f+1,j,i=>match ops[j]? with|none=>false|some o=>o.after.any fun e=>Region.binds md e&&(e.on==i||depB md ops f e.on i)
def need(md:Region.Mode)(ops:Array Oper)(fs:List Nat)(j:Nat):Bool:=fs.any fun i=>!(depB md ops ops.size j i)
def Closed(md:Region.Mode)(ops:Array Oper)(listed:Array Bool):Prop:= ∀ k o,ops[k]?=some o→listed.getD k false=true→ ∀ e∈o.after,Region.binds md e=true→listed.getD e.on false=true
theorem getD_true_of{listed:Array Bool}{i:Nat}(h:listed.getD i true=false):listed.getD i false=false:=by
 rcases Nat.lt_or_ge i listed.size with h' |h'
 ·simp[h']at h ⊢;exact h
 ·simp[Array.getElem?_eq_none h']at h
theorem dep_none{md:Region.Mode}{ops:Array Oper}{listed:Array Bool}(hc:Closed md ops listed){i:Nat}(hi:listed.getD i false=false): ∀ (f j:Nat),(∀ o,ops[j]?=some o→ ∀ e∈o.after,Region.binds md e=true→listed.getD e.on false=true)→depB md ops f j i=false
 |0,_,_=>rfl
 |f+1,j,h=>by
  unfold depB
  cases ho:ops[j]? with
  |none=>rfl
  |some o=>
   simp only
   rw[Array.any_eq_false']
   intro e he q
   rw[Bool.and_eq_true,Bool.or_eq_true,beq_iff_eq]at q
   have h1:=h o ho e he q.1
   rcases q.2 with q2|q2
   ·rw[q2,hi]at h1;cases h1
   ·rw[dep_none hc hi f e.on (fun o' ho' e' he' hb' =>hc _ o' ho' h1 e' he' hb')]at q2;cases q2
theorem closed_start{md:Region.Mode}{ops:Array Oper}{n:Nat}:Closed md ops (Array.replicate n false):=fun k o _ h=>by
 rcases Nat.lt_or_ge k n with h' |h' <;>simp[h']at h
theorem closed_step{md:Region.Mode}{ops:Array Oper}{listed:Array Bool}(hc:Closed md ops listed){j:Nat}(hj:j∈Region.ready md ops listed):Closed md ops (listed.setIfInBounds j true):=fun k o ho hk e he hb=>by
 obtain⟨-,oj,hoj,hall⟩:=mem_ready.1 hj
 refine getD_set_true ?_
 by_cases hkj:j=k
 ·subst hkj
  obtain rfl:o=oj:=by rw[hoj]at ho;injection ho with ho;exact ho.symm
  exact hall e he hb
 ·rw[getD_set_ne false hkj]at hk
  exact hc k o ho hk e he hb
def wpAnyC(P:Program)(md:Region.Mode)(ops:Array Oper)(fs:List Nat)(C:World→Prop)(Q:Exit→Act→World→Prop):Nat→Array Bool→Act→World→Prop
 |0,listed,a,w=>Region.ready md ops listed=[]∧Q .normal a w
 |f+1,listed,a,w=>(Region.ready md ops listed=[]→Q .normal a w)∧ ∀ i∈Region.ready md ops listed,wpOp P ops Q i (fun a' w' =>(need md ops fs i=true→C w')∧wpAnyC P md ops fs C Q f (listed.setIfInBounds i true) a' w') a w
theorem wpAny_of_C{fs:List Nat}: ∀ (f:Nat) (listed:Array Bool) (a:Act) (w:World),wpAnyC P md ops fs C Q f listed a w→wpAny P md ops Q f listed a w
 |0,_,_,_,h=>h
 |f+1,_,_,_,h=>⟨h.1,fun i hi=>wpOp_mono (fun a' w' h' =>wpAny_of_C f _ a' w' h'.2) (h.2 i hi)⟩
theorem ReadsV.of_same{o:Oper}{v:Value}{a a' :Act}(hy:ReadsV P ops C o v a)(he:execOp a'.eval o=execOp a.eval o)
  (hw:Region.wanted o (yielded ops a'.tmps)=Region.wanted o (yielded ops a.tmps)):ReadsV P ops C o v a' :=by
 unfold ReadsV at *
 rw[he,hw]
 exact hy
theorem ReadsV.wpOp{i:Nat}{o:Oper}{v:Value}{a:Act}(hi:ops[i]?=some o)(hy:ReadsV P ops C o v a){K:Act→World→Prop}{w:World}(hC:C w)(h:K (a.put o.dst v) w):wpOp P ops Q i K a w:=by
 unfold Go.wpOp
 simp only[hi]
 simp only[hy.1,if_true,Oper.wp,hy.2 w hC,Oper.upon]
 exact .inl h
theorem wpOpC_put{j:Nat}{oi oj:Oper}{v:Value}(hj:ops[j]?=some oj)(hap:oi.apart ops oj=true)
  (hsi: ∀ cs b,oi.op≠ .select cs b)(hsj: ∀ cs b,oj.op≠ .select cs b)
  (hQ: ∀ c a w,Q (.panic c) (a.put oi.dst v) w→Q (.panic c) a w){K:Act→World→Prop}{a:Act}{w:World}
  (hy:ReadsV P ops C oi v a)(h:wpOp P ops Q j K (a.put oi.dst v) w):
  wpOp P ops Q j (fun a' w' =>ReadsV P ops C oi v a' ∧K (a'.put oi.dst v) w') a w:=by
 obtain⟨h1,h2,h3⟩:=Oper.apart_spec hap
 have keep: ∀ (a:Act),ReadsV P ops C oi v a→ ∀ u,ReadsV P ops C oi v (a.put oj.dst u):=fun a hy u=>
  hy.of_same (execOp_put oi hsi a oj.dst u h3) (wanted_put oi a oj.dst u h3)
 have keepD: ∀ d,ReadsV P ops C oi v {a with defers:=d::a.defers}:=fun d=>hy.of_same rfl rfl
 unfold wpOp at *
 simp only[hj]at *
 rw[wanted_put oj a oi.dst v h1]at h
 split
 ·rename_i hw
  simp only[hw,if_true]at h
  rcases h with h|⟨hasks,hlets⟩
  case inr=>exact .inr ⟨by unfold Oper.asks at *;rw[execOp_put oj hsj a oi.dst v h1]at hasks;exact hasks,hlets⟩
  refine .inl ?_
  unfold Oper.wp at *
  rw[execOp_put oj hsj a oi.dst v h1]at h
  generalize (execOp a.eval oj).run P w=r at *
  cases r with
  |ok n w' =>
   cases n<;>simp only[Oper.upon]at h ⊢
   case value u=>exact⟨keep a hy u,by rw[←Act.put_comm a v u h2];exact h⟩
   case skip=>exact⟨keep a hy _,by rw[←Act.put_comm a v undef h2];exact h⟩
   case defer d=>
    refine⟨keep _ (keepD d) _,?_⟩
    rw[←Act.put_comm _ v undef h2,←Act.put_defers]
    exact h
   case enter f args=>
    refine Calls.mono h fun e w'' he=>?_
    cases e with
    |returned u=>exact⟨keep a hy u,by rw[←Act.put_comm a v u h2];exact he⟩
    |panicked c=>exact hQ _ _ _ he
    |outgrown=>exact he
   case row row args=>exact Rows.mono h fun u w'' he=>⟨keep a hy u,by rw[←Act.put_comm a v u h2];exact he⟩
  |halt x w' =>
   cases x<;>simp only[Oper.upon]at h ⊢
   case panic u=>exact hQ _ _ _ h
 ·rename_i hw
  simp only[hw]at h
  exact⟨keep a hy _,by rw[←Act.put_comm a v undef h2];exact h⟩
theorem wpAnyC_first{fs:List Nat}{i:Nat}{oi:Oper}{v:Value}(hfs:i∈fs)(hi:ops[i]?=some oi)(hsel: ∀ (j:Nat) (o:Oper) cs b,ops[j]?=some o→o.op≠ .select cs b)
  (hQ: ∀ c a w,Q (.panic c) (a.put oi.dst v) w→Q (.panic c) a w):
  ∀ (fuel:Nat) (listed:Array Bool) (a:Act) (w:World),Closed md ops listed→C w→
   (∀ j oj,ops[j]?=some oj→j≠i→listed.getD j true=false→(∀ e∈oj.after,Region.binds md e=true→e.on≠i)→oi.apart ops oj=true)→
   i∈Region.ready md ops listed→ReadsV P ops C oi v a→
   wpAnyC P md ops fs C Q fuel (listed.setIfInBounds i true) (a.put oi.dst v) w→wpAnyC P md ops fs C Q (fuel+1) listed a w:=by
 intro fuel
 induction fuel with
 |zero=>
  intro listed a w _ hC _ hr hy H
  refine⟨fun h=>(by rw[h]at hr;cases hr),fun j hj=>?_⟩
  by_cases hji:j=i
  ·subst hji;exact hy.wpOp hi hC ⟨fun _=>hC,H⟩
  ·have:=ready_mono hj hji
   rw[H.1]at this
   cases this
 |succ fuel ih=>
  intro listed a w hcl hC hfree hr hy H
  refine⟨fun h=>(by rw[h]at hr;cases hr),fun j hj=>?_⟩
  by_cases hji:j=i
  ·subst hji;exact hy.wpOp hi hC ⟨fun _=>hC,H⟩
  ·have h1:=H.2 j (ready_mono hj hji)
   obtain⟨hjun,oj,hoj,hall⟩:=mem_ready.1 hj
   have hnot: ∀ e∈oj.after,Region.binds md e=true→e.on≠i:=fun e he hb heq=>by
    have h1:=hall e he hb
    have h0:=(mem_ready.1 hr).1
    rw[heq]at h1
    rcases Nat.lt_or_ge i listed.size with h' |h'
    ·simp[h']at h0 h1;rw[h0]at h1;cases h1
    ·simp[Array.getElem?_eq_none h']at h1
   have h2:=wpOpC_put hoj (hfree j oj hoj hji hjun hnot) (fun cs b=>hsel i oi cs b hi) (fun cs b=>hsel j oj cs b hoj) hQ hy h1
   have hfree' : ∀ k ok,ops[k]?=some ok→k≠i→(listed.setIfInBounds j true).getD k true=false→
     (∀ e∈ok.after,Region.binds md e=true→e.on≠i)→oi.apart ops ok=true:=fun k ok hk hki hun hno=>by
    refine hfree k ok hk hki ?_ hno
    by_cases hjk:j=k
    ·subst hjk;exact hjun
    ·rw[getD_set_ne true hjk]at hun;exact hun
   have hneed:need md ops fs j=true:=by
    unfold need
    refine List.any_eq_true.2 ⟨i,hfs,?_⟩
    rw[dep_none hcl (getD_true_of (mem_ready.1 hr).1) _ j (fun o ho e he hb=>by
     obtain rfl:o=oj:=by rw[hoj]at ho;injection ho with ho;exact ho.symm
     exact hall e he hb)]
    rfl
   refine wpOp_mono (fun a' w' h3=>⟨h3.2.1,ih (listed.setIfInBounds j true) a' w' (closed_step hcl hj) (h3.2.1 hneed) hfree' (ready_mono hr (Ne.symm hji)) h3.1 ?_⟩) h2
   rw[Array.setIfInBounds_comm _ _ hji]
   exact h3.2.2
def wpMix(P:Program)(ops:Array Oper)(gs:List Nat)(C:World→Prop)(Q:Exit→Act→World→Prop):List (Bool×Nat)→Act→World→Prop
 |[],a,w=>Q .normal a w
 |(true,k)::ks,a,w=>C w∧ ∃ o v,ops[k]?=some o∧ReadsV P ops C o v a∧wpMix P ops gs C Q ks (a.put o.dst v) w
 |(false,k)::ks,a,w=>wpOp P ops Q k (fun a' w' =>(need .any ops gs k=true→C w')∧wpMix P ops gs C Q ks a' w') a w
def mixB(ops:Array Oper)(gs:List Nat):List (Bool×Nat)→Array Bool→Bool
 |[],listed=>(Region.ready .any ops listed).isEmpty
 |(true,k)::ks,listed=>gs.contains k&&((Region.ready .any ops listed).contains k&&Region.free .any ops listed k)&&mixB ops gs ks (listed.setIfInBounds k true)
 |(false,k)::ks,listed=>decide (Region.ready .any ops listed=[k])&&mixB ops gs ks (listed.setIfInBounds k true)
theorem wpAnyC_mix{gs:List Nat}(hs:Region.noSelect ops=true)(hQ: ∀ c t t' ds w,Q (.panic c) ⟨t,ds⟩ w→Q (.panic c) ⟨t',ds⟩ w):
  ∀ (ks:List (Bool×Nat)) (listed:Array Bool) (a:Act) (w:World),Closed .any ops listed→mixB ops gs ks listed=true→wpMix P ops gs C Q ks a w→wpAnyC P .any ops gs C Q ks.length listed a w
 |[],_,_,_,_,hB,h=>⟨by simpa[mixB]using hB,h⟩
 |(true,k)::ks,listed,a,w,hcl,hB,⟨hC,o,v,ho,hy,h⟩=>by
  simp only[mixB,Bool.and_eq_true]at hB
  obtain⟨⟨hg,hr,hf⟩,hB'⟩:=hB
  exact wpAnyC_first (by simpa using hg) ho (Region.noSelect_spec hs) (fun c a1 w1=>by cases o.dst with|none=>exact id|some d=>exact hQ c _ _ a1.defers w1) _ listed a w hcl hC (Region.free_spec ho hf) (by simpa using hr) hy (wpAnyC_mix hs hQ ks _ _ _ (closed_step hcl (by simpa using hr)) hB' h)
 |(false,k)::ks,listed,a,w,hcl,hB,h=>by
  simp only[mixB,Bool.and_eq_true,decide_eq_true_eq]at hB
  refine⟨fun h1=>(by rw[hB.1]at h1;cases h1),fun i hi=>?_⟩
  rw[hB.1]at hi
  have hik:i=k:=by simpa using hi
  subst hik
  exact wpOp_mono (fun a' w' h' =>⟨h'.1,wpAnyC_mix hs hQ ks _ a' w' (closed_step hcl (by rw[hB.1];exact hi)) hB.2 h'.2⟩) h
def regB(ops:Array Oper)(gs:List Nat)(ks:List (Bool×Nat)):Bool:=Region.noSelect ops&&decide (ks.length=ops.size)&&mixB ops gs ks (Array.replicate ops.size false)
end
@[irreducible] def RSP (P:Program) (ops:Array Oper) (o:Oper) (a:Act) (C:World→Prop) (K:Act→Prop):Prop:= ∃ v,ReadsV P ops C o v a∧K (a.put o.dst v)
theorem rsp_out{P:Program}{ops:Array Oper}{o:Oper}{a:Act}{C:World→Prop}{K:Act→Prop}(h:RSP P ops o a C K): ∃ v,ReadsV P ops C o v a∧K (a.put o.dst v):=by unfold RSP at h;exact h
theorem rsp_of{P:Program}{ops:Array Oper}{o:Oper}{a:Act}{C:World→Prop}{K:Act→Prop}(h: ∃ v,ReadsV P ops C o v a∧K (a.put o.dst v)):RSP P ops o a C K:=by unfold RSP;exact h
section
variable {P:Program} {opsl:List Oper} {gs:List Nat} {ks:List (Bool×Nat)} {k:Nat} {o:Oper} {a:Act} {C:World→Prop} {Q:Exit→Act→World→Prop} {w:World}
theorem m_read(ho:opsl[k]?=some o)(hC:C w)(h: ∀ K:Act→Prop,(∀ a,wpMix P opsl.toArray gs C Q ks a w→K a)→RSP P opsl.toArray o a C K):wpMix P opsl.toArray gs C Q ((true,k)::ks) a w:=by
 obtain⟨v,h1,h2⟩:=rsp_out (h _ fun _ h=>h)
 exact⟨hC,o,v,by simpa using ho,h1,h2⟩
theorem m_step(ho:opsl[k]?=some o)(hg:o.guard=none)(h: ∀ K:Act→World→Prop,(∀ a w,C w→wpMix P opsl.toArray gs C Q ks a w→K a w)→OWP P o a w K Q):wpMix P opsl.toArray gs C Q ((false,k)::ks) a w:=
 wpOp_step (by simpa using ho) fun K hK=>by rw[if_pos (wanted_none hg)];exact owp_out (h K fun a' w' h1 h2=>hK a' w' ⟨fun _=>h1,h2⟩)
theorem m_last(ho:opsl[k]?=some o)(hg:o.guard=none)(hn:need .any opsl.toArray gs k=false)(h: ∀ K:Act→World→Prop,(∀ a w,wpMix P opsl.toArray gs C Q ks a w→K a w)→OWP P o a w K Q):wpMix P opsl.toArray gs C Q ((false,k)::ks) a w:=
 wpOp_step (by simpa using ho) fun K hK=>by rw[if_pos (wanted_none hg)];exact owp_out (h K fun a' w' h2=>hK a' w' ⟨fun q=>(by rw[hn]at q;cases q),h2⟩)
theorem m_nil(h:Q .normal a w):wpMix P opsl.toArray gs C Q [] a w:=h
end
section
variable {P:Program} {ops:Array Oper} {C:World→Prop} {K:Act→Prop} {op:Op} {oty:TypeId} {pos:String} {after:Array Edge} {l l' :List Value} {ds:List Deferred} {o:Oper} {a:Act}
theorem r_pure{v:Value}(hg:o.guard=none)(hr: ∀ w,(execOp a.eval o).run P w= .ok (.value v) w)(h:K (a.put o.dst v)):RSP P ops o a C K:=
 rsp_of ⟨v,⟨wanted_none hg,fun w _=>hr w⟩,h⟩
theorem r_load{d:Nat}{ty:TypeId}{x:Operand}{x0:Value}[h0:Nth l d x0](hi: ∃ w,C w)(h: ∀ w,C w→OWP P ⟨some d,.load ty x,oty,pos,after,none⟩ ⟨l.toArray,ds⟩ w (fun a' w' =>w' =w∧a' =⟨l'.toArray,ds⟩) (fun _ _ _=>False))(hk:K ⟨l'.toArray,ds⟩):RSP P ops ⟨some d,.load ty x,oty,pos,after,none⟩ ⟨l.toArray,ds⟩ C K:=by
 have h1:=qsp_out (c_load (l' :=l') (K:=K) hi h hk)
 obtain⟨v,h2,h3⟩:=h1
 refine rsp_of ⟨v,⟨wanted_none rfl,fun w hw=>?_⟩,h3⟩
 have h4:=h2 w hw
 unfold Oper.quietAt execOp at h4
 unfold execOp
 simp only[Sem.run_bind]at h4 ⊢
 cases hr:(Instr.loadAt ty (Act.eval ⟨l.toArray,ds⟩ x)).run P w with
 |ok y w' =>
  rw[hr]at h4
  simp only[Result.andThen_ok,Sem.run_pure]at h4 ⊢
  obtain⟨e1,e2⟩:=h4
  rw[e1,e2]
 |halt e w' =>
  rw[hr]at h4
  exact absurd h4 (by cases e<;>simp[Result.andThen,Oper.quietUpon])
end
class SubI (K L:List Ent):Prop where
 sub:K.Sublist L
instance (priority:=1100){L:List Ent}:SubI L L:=⟨List.Sublist.refl L⟩
instance (priority:=1050){L:List Ent}:SubI [] L:=⟨List.nil_sublist L⟩
instance (priority:=1020){K L:List Ent}{e:Ent}[h:SubI K L]:SubI (e::K) (e::L):=⟨h.sub.cons_cons e⟩
instance {K L:List Ent}{e:Ent}[h:SubI K L]:SubI K (e::L):=⟨h.sub.cons e⟩
section
variable {P:Program} {At:PS→World→Prop} {b:Nat} {u w:World} {s:PS} {L:List Ent}
theorem Mem.sub{K L:List Ent}(M:Mem At b u w s L)(h:K.Sublist L):Mem At b u w s K:=by
 induction h with
 |slnil=>exact M
 |cons a _ ih=>exact ih M.drop
 |cons_cons a h ih=>
  have h1: ∀ (K L:List Ent),K.Sublist L→ ∀ A,Mem At b u w s (A++L)→Mem At b u w s (A++K):=by
   intro K L h
   induction h with
   |slnil=>exact fun _ M=>M
   |cons a _ ih=>exact fun A M=>ih A (M.cut A)
   |cons_cons a _ ih=>
    intro A M
    have:=ih (A++[a]) (by simpa using M)
    simpa using this
  exact h1 _ _ (h.cons_cons a) [] M
theorem Mem.kept{K L:List Ent}[h:SubI K L](M:Mem At b u w s L):Mem At b u w s K:=M.sub h.sub
theorem wp_region_first{K:List Ent}{id:Nat}{Q:Exit→Act→World→Prop}{a:Act}{l:List Oper}(gs:List Nat)(ks:List (Bool×Nat))(hKL: ∀ wx,Mem At b u wx s L→Mem At b u wx s K)(M:Mem At b u w s L)(hm:P.follows .mixedOrders=true)(hB:regB l.toArray gs ks=true)
  (hQ: ∀ c t t' ds w,Q (.panic c) ⟨t,ds⟩ w→Q (.panic c) ⟨t',ds⟩ w)
  (h: ∀ w',Mem At b u w' s L→wpMix P l.toArray gs (fun wx=>Mem At b u wx s K) Q ks a w'):(Code.region id l.toArray true).wp P Q a w:=by
 simp only[regB,Bool.and_eq_true,decide_eq_true_eq]at hB
 obtain⟨⟨h1,h2⟩,h3⟩:=hB
 refine wp_region_any hm (wpAny_of_C (fs:=gs) (C:=fun wx=>Mem At b u wx s K) _ _ _ _ ?_)
 rw[←h2]
 exact wpAnyC_mix h1 hQ ks _ _ _ closed_start (by rw[h2];exact h3) (h _ M.drew)
end
theorem fill_cells: ∀ (vs:List Value) (k:Nat) (init:List Value),(∀ v∈vs,v.cells= #[v])→k+vs.length≤init.length→Instr.fill (fun i=>some (i*1,1)) init.toArray ((vs.zipIdx k).map fun x=>(x.2,x.1))=some (init.take k++vs++init.drop (k+vs.length)).toArray
 |[],k,init,_,_=>by simp[Instr.fill]
 |v::r,k,init,hc,h=>by
  simp only[List.length_cons]at h
  have hv:=hc v (List.mem_cons_self ..)
  have hz:(#[v]:Array Value).zipIdx= #[(v,0)]:=rfl
  have e3:(v.cells.zipIdx.foldl (fun cs (x:Value×Nat)=>cs.setIfInBounds (k+x.2) x.1) init.toArray)=(init.set k v).toArray:=by
   rw[hv,hz]
   simp
  rw[List.zipIdx_cons,List.map_cons]
  simp only[Instr.fill,Nat.mul_one]
  rw[if_neg (by rw[hv];simp;omega),e3]
  have ih:=fill_cells r (k+1) (init.set k v) (fun x hx=>hc x (List.mem_cons_of_mem _ hx)) (by simp;omega)
  simp only[Nat.mul_one]at ih
  rw[ih]
  have hk:k<init.length:=by omega
  have e1:(init.set k v).take (k+1)=init.take k++[v]:=by
   rw[List.set_eq_take_append_cons_drop,if_pos hk,List.take_append]
   simp[Nat.min_eq_left (Nat.le_of_lt hk),List.take_take]
  have e2:(init.set k v).drop (k+1+r.length)=init.drop (k+(r.length+1)):=by
   rw[List.drop_set,if_pos (by omega)]
   congr 1
   omega
  rw[e1,e2]
  simp
section
variable {P:Program} {o:Oper} {a:Act} {Q:Exit→Act→World→Prop} {K:Act→World→Prop}
variable {At:PS→World→Prop} {b:Nat} {u w:World} {s:PS} {L:List Ent}
theorem op_buildK(M:Mem At b u w s L){t e:Nat}(hT:RowT P t e 1)(ys:List Operand)(ho:o.op= .buildSlice t ys.length (ys.zipIdx.map fun x=>(x.2,x.1)).toArray)(vs:List Value)(hy:ys.map a.eval=vs)(h1: ∀ v∈vs,v.cells= #[v])(hpos:0<vs.length)(hsm:vs.length≤100)
  (h: ∀ q w',Mem At b u w' s (own q vs e::L)→K (a.put o.dst (.slice (some ⟨q,0,none⟩) vs.length vs.length)) w'):o.wp P a w K Q:=by
 obtain⟨hu,ie,z,hie,hz,hsz,hzs,hp,hsmall, -, -⟩:=hT.open
 have hyl:ys.length=vs.length:=by rw[←hy,List.length_map]
 have hf:Instr.fill (fun i=>some (i*ie.size,ie.size)) ((Array.range (ys.length*ie.size)).map (z.cells[· % z.cells.size]!)) (((ys.zipIdx.map fun x=>(x.2,x.1)).toArray).map fun(i,x)=>(i,a.eval x)).toList=some vs.toArray:=by
  rw[hsz]
  have e1:(((ys.zipIdx.map fun x=>(x.2,x.1)).toArray).map fun((i,x):Nat×Operand)=>(i,a.eval x)).toList=(vs.zipIdx.map fun x=>(x.2,x.1)):=by
   rw[←hy]
   simp[List.zipIdx_map,List.map_map,Function.comp_def]
  rw[e1]
  have:=fill_cells vs 0 ((Array.range (ys.length*1)).map (z.cells[· % z.cells.size]!)).toList h1 (by simp[hyl])
  rw[Array.toArray_toList]at this
  rw[this]
  congr 1
  rw[List.take_zero,List.nil_append,List.drop_eq_nil_of_le (by simp[hyl]),List.append_nil]
 have hlow: ∀ y,(own w.heap.size vs e).blk y→w.heap.size≤y∧y<(w.alloc (.cells vs.toArray e)).heap.size:=fun y hy=>by
  have e:w.heap.size=y:=by injection hy
  subst e
  simp
 have key:=h w.heap.size _ (M.push (Joins.below_alloc1 w (.cells vs.toArray e)) (own_firm _ _ _) hlow (fun G _=>heap_alloc_new w _))
 rw[←hyl]at key
 exact wp_buildSlice t e ys.length _ ho vs.toArray ie z hu hie hz (by rw[hsz];omega) (by rw[hsz];omega) hf key
end
section
variable {P:Program} {dst:Option Tmp} {oty:TypeId} {pos:String} {after:Array Edge} {g:Option (Nat×Bool)} {l:List Value} {ds:List Deferred} {Q:Exit→Act→World→Prop} {K:Act→World→Prop}
variable {At:PS→World→Prop} {b:Nat} {u w:World} {s:PS} {L:List Ent} {ty e:Nat} {y0 y1 y2:Operand} {v0 v1 v2:Value}
theorem cells_one1{v:Value}(h:v.oneCell' =true):v.cells= #[v]:=by cases v<;>first|rfl|(simp[Value.oneCell']at h)
end
section
variable {P:Program} {dst:Option Tmp} {oty:TypeId} {pos:String} {after:Array Edge} {gu:Option (Nat×Bool)} {l:List Value} {ds:List Deferred} {Q:Exit→Act→World→Prop} {K:Act→World→Prop}
variable {At:PS→World→Prop} {b:Nat} {u w:World} {s:PS} {L:List Ent} {ty e n:Nat}
theorem Mem.k2{At:PS→World→Prop}{b:Nat}{u w:World}{s:PS}{L:List Ent}{e1 e2 x:Ent}(M:Mem At b u w s (e1::e2::x::L)):Mem At b u w s (e1::e2::L):=M.cut [e1,e2]
theorem Mem.swap2{At:PS→World→Prop}{b:Nat}{u w:World}{s:PS}{L:List Ent}{e1 e2 x:Ent}(M:Mem At b u w s (x::e1::e2::L)):Mem At b u w s (x::e2::e1::L):=M.perm ((List.Perm.swap e2 e1 L).cons x)
theorem Mem.turn3{At:PS→World→Prop}{b:Nat}{u w:World}{s:PS}{L:List Ent}{e1 e2 x:Ent}(M:Mem At b u w s (x::e1::e2::L)):Mem At b u w s (e1::e2::x::L):=M.perm (List.perm_middle (l₁:=[e1,e2])).symm
class SmI (n:Nat):Prop where
 le:n≤100
instance :SmI 1:=⟨by decide⟩
instance :SmI 2:=⟨by decide⟩
instance :SmI 3:=⟨by decide⟩
instance :SmI 4:=⟨by decide⟩
instance :SmI 5:=⟨by decide⟩
instance :SmI 6:=⟨by decide⟩
instance :SmI 7:=⟨by decide⟩
instance :SmI 8:=⟨by decide⟩
class RowsJ (l:List Value) (k:Nat) (xs:List (Nat×Operand)) (vs:outParam (List Value)):Prop where
 ev: ∃ ys:List Operand,(ys.zipIdx k).map (fun x=>(x.2,x.1))=xs∧ ∀ ds,ys.map (Act.eval ⟨l.toArray,ds⟩)=vs
 one: ∀ v∈vs,v.cells= #[v]
instance {l:List Value}{k:Nat}:RowsJ l k [] []:=⟨⟨[],rfl,fun _=>rfl⟩,fun v h=>by cases h⟩
instance {l:List Value}{k:Nat}{y:Operand}{v:Value}{xs:List (Nat×Operand)}{vs:List Value}[h:EvI l y v][c:OneC v][r:RowsJ l (k+1) xs vs]:RowsJ l k ((k,y)::xs) (v::vs):=
 ⟨r.ev.elim fun ys h' =>⟨y::ys,by rw[List.zipIdx_cons,List.map_cons,h'.1],fun ds=>by rw[List.map_cons,h.ev,h'.2]⟩,fun x hx=>by
  rcases List.mem_cons.1 hx with rfl|hx
  ·exact cells_one1 c.one
  ·exact r.one x hx⟩
theorem q_rows{x:Nat×Operand}{xs:List (Nat×Operand)}{v:Value}{vs:List Value}(M:Mem At b u w s L)[r:RowsJ l 0 (x::xs) (v::vs)][hn:LenI (v::vs) n][hT:RowI P ty e 1]{F:Nat→List Value}[hd: ∀ q,PutI l dst (.slice (some ⟨q,0,none⟩) n n) (F q)][hs:SmI n](h: ∀ q w',Mem At b u w' s (own q (v::vs) e::L)→K ⟨(F q).toArray,ds⟩ w'):OWP P ⟨dst,.buildSlice ty n (x::xs).toArray,oty,pos,after,gu⟩ ⟨l.toArray,ds⟩ w K Q:=by
 obtain⟨ys,h1,h2⟩:=r.ev
 have hl:=hn.len
 have hy:=h2 ds
 have hyl:ys.length=n:=by rw[←hl,←hy,List.length_map]
 refine owp_of (op_buildK M hT.row ys (by rw[h1,hyl]) (v::vs) hy r.one (by simp) (by rw[hl];exact hs.le) (fun q w' M' =>?_))
 rw[hl,(hd q).put]
 exact h q w' M'
end
def strC(s:ByteArray):List Value:=[.string s]
instance iStFrm:StI Tryz.prog 107 2:=⟨by kernel_rfl,_,Tryz.underlying107,rfl⟩
instance iRowStr:RowI Tryz.prog 84 9 1:=⟨⟨Tryz.underlying84,⟨.string ByteArray.empty,by kernel_rfl,rfl⟩,by kernel_rfl,by kernel_rfl,by omega,by omega⟩⟩
instance iOneStrs:OneI Tryz.prog 84:=⟨⟨by kernel_rfl,_,Tryz.underlying84,rfl⟩⟩
instance iOneIts:OneI Tryz.prog 26:=⟨⟨by kernel_rfl,_,Tryz.underlying26,rfl⟩⟩
instance iOneMat:OneI Tryz.prog 78:=⟨⟨by kernel_rfl,_,Tryz.underlying78,rfl⟩⟩
def fr0(k:Nat):Mx:=fun r c=>if r=c then 0 else if r % 2=0∧c=r+1∧r / 2<k then 0 else NOB
theorem fr0_next(k r c:Nat):setB (fr0 k) (2*k) (2*k+1) 0 r c=fr0 (k+1) r c:=by
 unfold setB fr0
 by_cases e:r=2*k∧c=2*k+1
 ·rw[if_pos e,if_neg (by omega),if_pos (by omega)]
 ·rw[if_neg e]
  by_cases e1:r=c
  ·rw[if_pos e1,if_pos e1]
  ·rw[if_neg e1,if_neg e1]
   by_cases e2:r % 2=0∧c=r+1∧r / 2<k
   ·rw[if_pos e2,if_pos (by omega)]
   ·rw[if_neg e2,if_neg (by omega)]
theorem fr0_free:fr0 0=freeG:=by
 funext r c
 unfold fr0 freeG
 by_cases e:r=c
 ·rw[if_pos e,if_pos e]
 ·rw[if_neg e,if_neg e,if_neg (by omega)]
section
variable {F:Nat→Prop} {g:Nat} {w0:World} {l:List Pat} {a:Option Addr} {n c:Nat}
abbrev FrmL(zf:Nat)(na:Option Addr)(nn nc A m cap:Nat)(gs rcs:Nat→Nat)(G:Mx)(l:List Pat):List Ent:=
 [own zf [.slice na nn nc,.slice (some ⟨A,0,none⟩) m cap] 107,dat (fun F w=>SlF F w 1 (plainF strC) na nn nc (l.map Pat.var)),grd A m cap gs rcs G]
set_option maxRecDepth 8000 in
set_option maxHeartbeats 16000000 in
theorem fresh_any(hg:g<w0.heap.size)(X:SlF F w0 18 patF a n c l)(h1:1≤n)(h6:n≤6):Calls Tryz.prog 46 #[.slice a n c] w0 fun e w' => ∃ zf na nc A cap gs rcs G,e= .returned (.pointer (some ⟨zf,0,none⟩))∧Mem (StaysB g w0) g w0 w' ⟨0,0⟩ (FrmL zf na (l.map Pat.var).length nc A (2*n) cap gs rcs G l)∧EqM (2*n) G (fr0 n):=by
 have M:=Mem.begin hg ⟨0,0⟩
 have HX:=Lib.hid X
 have hle:=X.le
 have N:=Lib.hid X.len
 have HFR:=Lib.hid (fun w=>free_grid (2*n) (by omega) w)
 clear hg X
 go_enter Tryz.func46,Tryz.ntmps46
 go_wp2_with (with_reducible (refine wB (L:=[]) M ?_;clear M;intro zf w1 M))
 replace M:=(M.none_ (R:=plainF strC) (plainF_firm _) 9 1).swap
 go_loopg [11] n (fun f i wr=> ∃ (j:Nat) (lv:Value) (ns:List ByteArray),j+f=n∧i= .int .i64 j∧Mem (StaysB g w0) g w0 wr ⟨0,0⟩ (own zf [lv,.slice none 0 0] 107::slc w0.heap.size 9 1 (plainF strC) lv ns::[])∧Hid (ns=(l.take j).map Pat.var))
 case atStart=>exact⟨0,_,[],by omega,rfl,M,Lib.hid rfl⟩
 case round=>
  clear M
  obtain⟨j,lv,ns,hj,rfl,M,HT⟩:=hrel
  by_cases hlt:j<n
  ·have hjl:j<l.length:=by have:=N.out;omega
   obtain⟨cp,op,rowp,hixp, -,hrrp,hwp⟩:=SlF.rowAt (P:=Tryz.prog) HX.out patF_firm Tryz.underlying40 size_pat (i:=j) hjl
   obtain⟨a2,n2,c2,ep, -⟩:=patF.open18 hrrp
   subst ep
   have HRP:=Lib.hid (fun wx hb=>(hwp wx hb).1)
   have HTS:Hid (ns++[l[j].var]=(l.take (j+1)).map Pat.var):=by show _=_;rw[HT.out,List.take_add_one,List.getElem?_eq_getElem hjl,List.map_append];rfl
   have HLN:Hid (ns.length≤100000):=by show _≤_;rw[HT.out,List.length_map,List.length_take];omega
   unfold pat18 at HRP
   clear hrrp hwp HT
   generalize l[j]=p at HRP HTS
   clear hjl
   go_upto_region 5 with(first|((with_reducible refine o_list rfl fun K hK=>?_);refine q_in M (by rfl) (by rfl) (by rfl) ?_;clear M;intro w M;(try simp only[List.set_cons_zero,List.set_cons_succ,laid,opdC,List.take_succ_cons,List.take_zero,List.drop_succ_cons,List.drop_zero,List.length_cons,List.length_nil,List.cons_append,List.nil_append,Nat.reduceAdd,Nat.zero_add]at M);refine hK _ _ ?_;clear hK K)|(with_reducible (first|(refine wV M ?_;clear M;intro zp w M)|refine wA (HRP.out _ M.new) ?_)))
   ((refine wp_region_first [0,1,2,3,4,5,6,9,10] [(true,0),(true,1),(true,2),(true,3),(true,4),(true,5),(true,6),(false,7),(false,8),(true,9),(true,10),(false,11)] (fun _ M=>M.k2) M (by kernel_rfl) (by kernel_rfl) (fun _ _ _ _ _ h=>h) ?_);clear M;intro w M;(repeat(first|((with_reducible refine m_read rfl M.kept fun K hK=>?_);(first|(refine r_load (l' :=?_) ⟨_,M.kept⟩ (fun w M=>?_) ?_;rotate_left;focus((refine q_get M (by exact rfl) ?_);refine⟨rfl,?_⟩;with_reducible rfl))|(refine r_pure (v:=?_) rfl (fun w=>?_) ?_;rotate_left;focus(go_simp;try with_reducible rfl)));(try go_simp);with_reducible refine hK _ ?_;clear hK K)|((with_reducible refine m_last rfl rfl (by with_unfolding_all decide+kernel) fun K hK=>?_);(((refine q_set M (by rfl) (by rfl) ?_);clear M;intro w M;(try simp only[List.set_cons_zero,List.set_cons_succ]at M)));(try go_simp);with_reducible refine hK _ _ ?_;clear hK K)|((with_reducible refine m_step rfl rfl fun K hK=>?_);(first|((refine q_rows M ?_;clear M;intro q w M))|((refine q_app (R:=plainF strC) (plainF_firm _) M 3 rfl p.var rfl (by rfl) (by rfl) HLN.out ?_;clear M;intro ra2 rc2 w M;(try simp only[List.set_cons_zero,List.set_cons_succ]at M))));(try go_simp);with_reducible refine hK _ _ M.kept ?_;clear hK K)));(with_reducible refine m_nil ?_))
   go_wp2_with (with_reducible (first|refine wq M ?_|(refine wS M ?_;clear M;intro w M)|(refine wV M ?_;clear M;intro z w M)|(refine wR M ?_;clear M;intro q w M)))
   go_roundg (n - (j+1))
   case measure=>omega
   case rel=>exact⟨j+1,_,ns++[p.var],by omega,by go_num,M.drop.drop,HTS⟩
  ·have hte:ns=l.map Pat.var:=by rw[HT.out,List.take_of_length_le (by have:=N.out;omega)]
   subst hte
   clear HT
   replace M:=M.swap
   obtain⟨na,nc,e1,M⟩:=M.done (plainF_firm _) (by omega)
   subst e1
   go_wp2_with (first|(go_at_call 76;refine(HFR.out _).mono ?_;rintro e w5 ⟨am,cap,gs,rfl,hb5,hG⟩;obtain⟨A,rcs,rfl,hX,hf⟩:=hG.fix (by omega);replace M:=M.grid hb5 hX hf;clear hG hb5 hf)|(with_reducible (refine wS M ?_;clear M;intro w M)))
   go_loopg [39] n (fun f i wr=> ∃ (k:Nat) (G:Mx),k+f=n∧i= .int .i64 k∧Mem (StaysB g w0) g w0 wr ⟨0,0⟩ (grd A (2*n) cap gs rcs G::own zf [.slice na (l.map Pat.var).length nc,.slice (some ⟨A,0,none⟩) (2*n) cap] 107::dat (fun F w=>SlF F w 1 (plainF strC) na (l.map Pat.var).length nc (l.map Pat.var))::[])∧Hid (EqM (2*n) G (fr0 k)))
   case atStart=>exact⟨0,_,by omega,rfl,M.swap2,Lib.hid (by rw[fr0_free];exact fun _ _ _ _=>rfl)⟩
   case round=>
    clear M
    obtain⟨k,G,hk,rfl,M,HG⟩:=hrel
    by_cases hkn:k<n
    ·have h2k:2*k<2*n:=by omega
     have h2k1:2*k+1<2*n:=by omega
     have hk6:k≤1000:=by omega
     have hixA: ∀ wx,(Instr.indexAt 78 (.slice (some ⟨A,0,none⟩) (2*n) cap) (.int .i64 (2*(k:Int)))).run Tryz.prog wx= .ok (.pointer (some ⟨A,2*k,none⟩)) wx:=fun wx=>(M.grid_ (i:=0) rfl).ixA h2k wx
     have hixR: ∀ wx,(Instr.indexAt 26 (.slice (some ⟨gs (2*k),0,none⟩) (2*n) (rcs (2*k))) (.int .i64 (2*(k:Int)+1))).run Tryz.prog wx= .ok (.pointer (some ⟨gs (2*k),2*k+1,none⟩)) wx:=fun wx=>(M.grid_ (i:=0) rfl).ixR h2k h2k1 wx
     have HGN:Hid (EqM (2*n) (setB G (2*k) (2*k+1) 0) (fr0 (k+1))):=fun r c hr hc=>by
      rw[←fr0_next]
      unfold setB
      rw[HG.out r c hr hc]
     go_upto_region 11 with(with_reducible (first|refine wq M ?_|(refine wS M ?_;clear M;intro w M)|(refine wV M ?_;clear M;intro z w M)|(refine wR M ?_;clear M;intro q w M)))
     ((refine wp_region_first [0,1,2,3,4,8,6,7,10] [(true,0),(true,1),(true,2),(true,3),(true,4),(true,8),(false,5),(true,6),(true,7),(false,9),(true,10),(false,11)] (fun _ M=>M) M (by kernel_rfl) (by kernel_rfl) (fun _ _ _ _ _ h=>h) ?_);clear M;intro w M;(repeat(first|((with_reducible refine m_read rfl M.kept fun K hK=>?_);(first|(refine r_load (l' :=?_) ⟨_,M.kept⟩ (fun w M=>?_) ?_;rotate_left;focus((first|(refine q_cellat (M.grow (i:=0) rfl h2k) ?_)|refine q_get M (by exact rfl) ?_);refine⟨rfl,?_⟩;with_reducible rfl))|(refine r_pure (v:=?_) rfl (fun w=>?_) ?_;rotate_left;focus(go_simp;try with_reducible rfl)));(try go_simp);with_reducible refine hK _ ?_;clear hK K)|((with_reducible refine m_last rfl rfl (by with_unfolding_all decide+kernel) fun K hK=>?_);((refine q_gput M (i:=0) rfl h2k h2k1 ?_;clear M;intro w M;(try simp only[List.set_cons_zero]at M)));(try go_simp);with_reducible refine hK _ _ ?_;clear hK K)|((with_reducible refine m_step rfl rfl fun K hK=>?_);(first|((refine owp_of ?_;go_simp;(go_at_call 77;with_reducible refine(pstart_any k hk6 _).mono ?_;rintro e w5 ⟨rfl,hb5⟩;replace M:=M.below hb5;clear hb5)))|((refine owp_of ?_;go_simp;(go_at_call 26;with_reducible refine(pend_any k hk6 _).mono ?_;rintro e w5 ⟨rfl,hb5⟩;replace M:=M.below hb5;clear hb5))));(try go_simp);with_reducible refine hK _ _ M.kept ?_;clear hK K)));(with_reducible refine m_nil ?_))
     go_wp2_with (with_reducible (first|refine wq M ?_|(refine wS M ?_;clear M;intro w M)|(refine wV M ?_;clear M;intro z w M)|(refine wR M ?_;clear M;intro q w M)))
     go_roundg (n - (k+1))
     case measure=>omega
     case rel=>exact⟨k+1,_,by omega,by go_num,M,HGN⟩
    ·have e:k=n:=by omega
     subst e
     go_wp2_with (with_reducible (first|refine wq M ?_|(refine wS M ?_;clear M;intro w M)|(refine wV M ?_;clear M;intro z w M)|(refine wR M ?_;clear M;intro q w M)))
     go_ret
     exact⟨_,_,_,_,_,_,_,_,rfl,M.turn3,HG.out⟩
end
end Go.Proofs.YtncmghnhfipklaaGreatDoor
