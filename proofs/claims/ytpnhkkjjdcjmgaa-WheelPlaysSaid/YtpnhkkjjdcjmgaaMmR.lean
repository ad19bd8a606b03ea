/-
  Regions that draw: what reads (or reckons) is taken first, whatever the order; what is left comes in one order: one walk.
-/
import Derived.Test.YtpnhkkjjdcjmgaaMmQ
namespace Go.Proofs.Ytpnhkkjjdcjmgaa
open Go.RowKit
set_option linter.unusedVariables false
set_option linter.unusedSimpArgs false
section
variable {P:Program} {ops:Array Oper} {md:Region.Mode} {C:World→Prop} {Q:Exit→Act→World→Prop}
def ReadsV(P:Program)(ops:Array Oper)(C:World→Prop)(o:Oper)(v:Value)(a:Act):Prop:=
 Region.wanted o (yielded ops a.tmps)=true∧ ∀ w,C w→(execOp a.eval o).run P w= .ok (.value v) w
def depB(md:Region.Mode)(ops:Array Oper):Nat→Nat→Nat→Bool
 |0,_,_=>false
 |f+1,j,i=>match ops[j]? with|none=>false|some o=>o.after.any fun e=>Region.binds md e&&(e.on==i||depB md ops f e.on i)
def need(md:Region.Mode)(ops:Array Oper)(fs:List Nat)(j:Nat):Bool:=fs.any fun i=>!(depB md ops ops.size j i)
def Closed(md:Region.Mode)(ops:Array Oper)(listed:Array Bool):Prop:= ∀ k o,ops[k]?=some o→listed.getD k false=true→ ∀ e∈o.after,Region.binds md e=true→listed.getD e.on false=true
theorem getD_true_of{listed:Array Bool}{i:Nat}(h:listed.getD i true=false):listed.getD i false=false:=by
 rcases Nat.lt_or_ge i listed.size with h' |h'
 ·simp[h']at h ⊢;exact h
 ·simp[Array.getElem?_eq_none h']at h
theorem dep_none{md:Region.Mode}{ops:Array Oper}{listed:Array Bool}(hc:Closed md ops listed){i:Nat}(hi:listed.getD i false=false): ∀ (f j:Nat),(∀ o,ops[j]?=some o→ ∀ e∈o.after,Region.binds md e=true→listed.getD e.on false=true)→depB md ops f j i=false
 |0,_,_=>rfl
 |f+1,j,h=>by
  unfold depB
  cases ho:ops[j]? with
  |none=>rfl
  |some o=>
   simp only
   rw[Array.any_eq_false']
   intro e he q
   rw[Bool.and_eq_true,Bool.or_eq_true,beq_iff_eq]at q
   have h1:=h o ho e he q.1
   rcases q.2 with q2|q2
   ·rw[q2,hi]at h1;cases h1
   ·rw[dep_none hc hi f e.on (fun o' ho' e' he' hb' =>hc _ o' ho' h1 e' he' hb')]at q2;cases q2
theorem closed_start{md:Region.Mode}{ops:Array Oper}{n:Nat}:Closed md ops (Array.replicate n false):=fun k o _ h=>by
 rcases Nat.lt_or_ge k n with h' |h' <;>simp[h']at h
theorem closed_step{md:Region.Mode}{ops:Array Oper}{listed:Array Bool}(hc:Closed md ops listed){j:Nat}(hj:j∈Region.ready md ops listed):Closed md ops (listed.setIfInBounds j true):=fun k o ho hk e he hb=>by
 obtain⟨-,oj,hoj,hall⟩:=mem_ready.1 hj
 refine getD_set_true ?_
 by_cases hkj:j=k
 ·subst hkj
  obtain rfl:o=oj:=by rw[hoj]at ho;injection ho with ho;exact ho.symm
  exact hall e he hb
 ·rw[getD_set_ne false hkj]at hk
  exact hc k o ho hk e he hb
def wpAnyC(P:Program)(md:Region.Mode)(ops:Array Oper)(fs:List Nat)(C:World→Prop)(Q:Exit→Act→World→Prop):Nat→Array Bool→Act→World→Prop
 |0,listed,a,w=>Region.ready md ops listed=[]∧Q .normal a w
 |f+1,listed,a,w=>(Region.ready md ops listed=[]→Q .normal a w)∧ ∀ i∈Region.ready md ops listed,wpOp P ops Q i (fun a' w' =>(need md ops fs i=true→C w')∧wpAnyC P md ops fs C Q f (listed.setIfInBounds i true) a' w') a w
theorem wpAny_of_C{fs:List Nat}: ∀ (f:Nat) (listed:Array Bool) (a:Act) (w:World),wpAnyC P md ops fs C Q f listed a w→wpAny P md ops Q f listed a w
 |0,_,_,_,h=>h
 |f+1,_,_,_,h=>⟨h.1,fun i hi=>wpOp_mono (fun a' w' h' =>wpAny_of_C f _ a' w' h'.2) (h.2 i hi)⟩
theorem ReadsV.of_same{o:Oper}{v:Value}{a a' :Act}(hy:ReadsV P ops C o v a)(he:execOp a'.eval o=execOp a.eval o)
  (hw:Region.wanted o (yielded ops a'.tmps)=Region.wanted o (yielded ops a.tmps)):ReadsV P ops C o v a' :=by
 unfold ReadsV at *
 rw[he,hw]
 exact hy
theorem ReadsV.wpOp{i:Nat}{o:Oper}{v:Value}{a:Act}(hi:ops[i]?=some o)(hy:ReadsV P ops C o v a){K:Act→World→Prop}{w:World}(hC:C w)(h:K (a.put o.dst v) w):wpOp P ops Q i K a w:=by
 unfold Go.wpOp
 simp only[hi]
 simp only[hy.1,if_true,Oper.wp,hy.2 w hC,Oper.upon]
 exact .inl h
theorem wpOpC_put{j:Nat}{oi oj:Oper}{v:Value}(hj:ops[j]?=some oj)(hap:oi.apart ops oj=true)
  (hsi: ∀ cs b,oi.op≠ .select cs b)(hsj: ∀ cs b,oj.op≠ .select cs b)
  (hQ: ∀ c a w,Q (.panic c) (a.put oi.dst v) w→Q (.panic c) a w){K:Act→World→Prop}{a:Act}{w:World}
  (hy:ReadsV P ops C oi v a)(h:wpOp P ops Q j K (a.put oi.dst v) w):
  wpOp P ops Q j (fun a' w' =>ReadsV P ops C oi v a' ∧K (a'.put oi.dst v) w') a w:=by
 obtain⟨h1,h2,h3⟩:=Oper.apart_spec hap
 have keep: ∀ (a:Act),ReadsV P ops C oi v a→ ∀ u,ReadsV P ops C oi v (a.put oj.dst u):=fun a hy u=>
  hy.of_same (execOp_put oi hsi a oj.dst u h3) (wanted_put oi a oj.dst u h3)
 have keepD: ∀ d,ReadsV P ops C oi v {a with defers:=d::a.defers}:=fun d=>hy.of_same rfl rfl
 unfold wpOp at *
 simp only[hj]at *
 rw[wanted_put oj a oi.dst v h1]at h
 split
 ·rename_i hw
  simp only[hw,if_true]at h
  rcases h with h|⟨hasks,hlets⟩
  case inr=>exact .inr ⟨by unfold Oper.asks at *;rw[execOp_put oj hsj a oi.dst v h1]at hasks;exact hasks,hlets⟩
  refine .inl ?_
  unfold Oper.wp at *
  rw[execOp_put oj hsj a oi.dst v h1]at h
  generalize (execOp a.eval oj).run P w=r at *
  cases r with
  |ok n w' =>
   cases n<;>simp only[Oper.upon]at h ⊢
   case value u=>exact⟨keep a hy u,by rw[←Act.put_comm a v u h2];exact h⟩
   case skip=>exact⟨keep a hy _,by rw[←Act.put_comm a v undef h2];exact h⟩
   case defer d=>
    refine⟨keep _ (keepD d) _,?_⟩
    rw[←Act.put_comm _ v undef h2,←Act.put_defers]
    exact h
   case enter f args=>
    refine Calls.mono h fun e w'' he=>?_
    cases e with
    |returned u=>exact⟨keep a hy u,by rw[←Act.put_comm a v u h2];exact he⟩
    |panicked c=>exact hQ _ _ _ he
    |outgrown=>exact he
   case row row args=>exact Rows.mono h fun u w'' he=>⟨keep a hy u,by rw[←Act.put_comm a v u h2];exact he⟩
  |halt x w' =>
   cases x<;>simp only[Oper.upon]at h ⊢
   case panic u=>exact hQ _ _ _ h
 ·rename_i hw
  simp only[hw]at h
  exact⟨keep a hy _,by rw[←Act.put_comm a v undef h2];exact h⟩
theorem wpAnyC_first{fs:List Nat}{i:Nat}{oi:Oper}{v:Value}(hfs:i∈fs)(hi:ops[i]?=some oi)(hsel: ∀ (j:Nat) (o:Oper) cs b,ops[j]?=some o→o.op≠ .select cs b)
  (hQ: ∀ c a w,Q (.panic c) (a.put oi.dst v) w→Q (.panic c) a w):
  ∀ (fuel:Nat) (listed:Array Bool) (a:Act) (w:World),Closed md ops listed→C w→
   (∀ j oj,ops[j]?=some oj→j≠i→listed.getD j true=false→(∀ e∈oj.after,Region.binds md e=true→e.on≠i)→oi.apart ops oj=true)→
   i∈Region.ready md ops listed→ReadsV P ops C oi v a→
   wpAnyC P md ops fs C Q fuel (listed.setIfInBounds i true) (a.put oi.dst v) w→wpAnyC P md ops fs C Q (fuel+1) listed a w:=by
 intro fuel
 induction fuel with
 |zero=>
  intro listed a w _ hC _ hr hy H
  refine⟨fun h=>(by rw[h]at hr;cases hr),fun j hj=>?_⟩
  by_cases hji:j=i
  ·subst hji;exact hy.wpOp hi hC ⟨fun _=>hC,H⟩
  ·have:=ready_mono hj hji
   rw[H.1]at this
   cases this
 |succ fuel ih=>
  intro listed a w hcl hC hfree hr hy H
  refine⟨fun h=>(by rw[h]at hr;cases hr),fun j hj=>?_⟩
  by_cases hji:j=i
  ·subst hji;exact hy.wpOp hi hC ⟨fun _=>hC,H⟩
  ·have h1:=H.2 j (ready_mono hj hji)
   obtain⟨hjun,oj,hoj,hall⟩:=mem_ready.1 hj
   have hnot: ∀ e∈oj.after,Region.binds md e=true→e.on≠i:=fun e he hb heq=>by
    have h1:=hall e he hb
    have h0:=(mem_ready.1 hr).1
    rw[heq]at h1
    rcases Nat.lt_or_ge i listed.size with h' |h'
    ·simp[h']at h0 h1;rw[h0]at h1;cases h1
    ·simp[Array.getElem?_eq_none h']at h1
   have h2:=wpOpC_put hoj (hfree j oj hoj hji hjun hnot) (fun cs b=>hsel i oi cs b hi) (fun cs b=>hsel j oj cs b hoj) hQ hy h1
   have hfree' : ∀ k ok,ops[k]?=some ok→k≠i→(listed.setIfInBounds j true).getD k true=false→
     (∀ e∈ok.after,Region.binds md e=true→e.on≠i)→oi.apart ops ok=true:=fun k ok hk hki hun hno=>by
    refine hfree k ok hk hki ?_ hno
    by_cases hjk:j=k
    ·subst hjk;exact hjun
    ·rw[getD_set_ne true hjk]at hun;exact hun
   have hneed:need md ops fs j=true:=by
    unfold need
    refine List.any_eq_true.2 ⟨i,hfs,?_⟩
    rw[dep_none hcl (getD_true_of (mem_ready.1 hr).1) _ j (fun o ho e he hb=>by
     obtain rfl:o=oj:=by rw[hoj]at ho;injection ho with ho;exact ho.symm
     exact hall e he hb)]
    rfl
   refine wpOp_mono (fun a' w' h3=>⟨h3.2.1,ih (listed.setIfInBounds j true) a' w' (closed_step hcl hj) (h3.2.1 hneed) hfree' (ready_mono hr (Ne.symm hji)) h3.1 ?_⟩) h2
   rw[Array.setIfInBounds_comm _ _ hji]
   exact h3.2.2
def wpMix(P:Program)(ops:Array Oper)(gs:List Nat)(C:World→Prop)(Q:Exit→Act→World→Prop):List (Bool×Nat)→Act→World→Prop
 |[],a,w=>Q .normal a w
 |(true,k)::ks,a,w=>C w∧ ∃ o v,ops[k]?=some o∧ReadsV P ops C o v a∧wpMix P ops gs C Q ks (a.put o.dst v) w
 |(false,k)::ks,a,w=>wpOp P ops Q k (fun a' w' =>(need .any ops gs k=true→C w')∧wpMix P ops gs C Q ks a' w') a w
def mixB(ops:Array Oper)(gs:List Nat):List (Bool×Nat)→Array Bool→Bool
 |[],listed=>(Region.ready .any ops listed).isEmpty
 |(true,k)::ks,listed=>gs.contains k&&((Region.ready .any ops listed).contains k&&Region.free .any ops listed k)&&mixB ops gs ks (listed.setIfInBounds k true)
 |(false,k)::ks,listed=>decide (Region.ready .any ops listed=[k])&&mixB ops gs ks (listed.setIfInBounds k true)
theorem wpAnyC_mix{gs:List Nat}(hs:Region.noSelect ops=true)(hQ: ∀ c t t' ds w,Q (.panic c) ⟨t,ds⟩ w→Q (.panic c) ⟨t',ds⟩ w):
  ∀ (ks:List (Bool×Nat)) (listed:Array Bool) (a:Act) (w:World),Closed .any ops listed→mixB ops gs ks listed=true→wpMix P ops gs C Q ks a w→wpAnyC P .any ops gs C Q ks.length listed a w
 |[],_,_,_,_,hB,h=>⟨by simpa[mixB]using hB,h⟩
 |(true,k)::ks,listed,a,w,hcl,hB,⟨hC,o,v,ho,hy,h⟩=>by
  simp only[mixB,Bool.and_eq_true]at hB
  obtain⟨⟨hg,hr,hf⟩,hB'⟩:=hB
  exact wpAnyC_first (by simpa using hg) ho (Region.noSelect_spec hs) (fun c a1 w1=>by cases o.dst with|none=>exact id|some d=>exact hQ c _ _ a1.defers w1) _ listed a w hcl hC (Region.free_spec ho hf) (by simpa using hr) hy (wpAnyC_mix hs hQ ks _ _ _ (closed_step hcl (by simpa using hr)) hB' h)
 |(false,k)::ks,listed,a,w,hcl,hB,h=>by
  simp only[mixB,Bool.and_eq_true,decide_eq_true_eq]at hB
  refine⟨fun h1=>(by rw[hB.1]at h1;cases h1),fun i hi=>?_⟩
  rw[hB.1]at hi
  have hik:i=k:=by simpa using hi
  subst hik
  exact wpOp_mono (fun a' w' h' =>⟨h'.1,wpAnyC_mix hs hQ ks _ a' w' (closed_step hcl (by rw[hB.1];exact hi)) hB.2 h'.2⟩) h
def regB(ops:Array Oper)(gs:List Nat)(ks:List (Bool×Nat)):Bool:=Region.noSelect ops&&decide (ks.length=ops.size)&&mixB ops gs ks (Array.replicate ops.size false)
end
@[irreducible] def RSP (P:Program) (ops:Array Oper) (o:Oper) (a:Act) (C:World→Prop) (K:Act→Prop):Prop:= ∃ v,ReadsV P ops C o v a∧K (a.put o.dst v)
theorem rsp_out{P:Program}{ops:Array Oper}{o:Oper}{a:Act}{C:World→Prop}{K:Act→Prop}(h:RSP P ops o a C K): ∃ v,ReadsV P ops C o v a∧K (a.put o.dst v):=by unfold RSP at h;exact h
theorem rsp_of{P:Program}{ops:Array Oper}{o:Oper}{a:Act}{C:World→Prop}{K:Act→Prop}(h: ∃ v,ReadsV P ops C o v a∧K (a.put o.dst v)):RSP P ops o a C K:=by unfold RSP;exact h
section
variable {P:Program} {opsl:List Oper} {gs:List Nat} {ks:List (Bool×Nat)} {k:Nat} {o:Oper} {a:Act} {C:World→Prop} {Q:Exit→Act→World→Prop} {w:World}
theorem m_read(ho:opsl[k]?=some o)(hC:C w)(h: ∀ K:Act→Prop,(∀ a,wpMix P opsl.toArray gs C Q ks a w→K a)→RSP P opsl.toArray o a C K):wpMix P opsl.toArray gs C Q ((true,k)::ks) a w:=by
 obtain⟨v,h1,h2⟩:=rsp_out (h _ fun _ h=>h)
 exact⟨hC,o,v,by simpa using ho,h1,h2⟩
theorem m_step(ho:opsl[k]?=some o)(hg:o.guard=none)(h: ∀ K:Act→World→Prop,(∀ a w,C w→wpMix P opsl.toArray gs C Q ks a w→K a w)→OWP P o a w K Q):wpMix P opsl.toArray gs C Q ((false,k)::ks) a w:=
 wpOp_step (by simpa using ho) fun K hK=>by rw[if_pos (wanted_none hg)];exact owp_out (h K fun a' w' h1 h2=>hK a' w' ⟨fun _=>h1,h2⟩)
theorem m_last(ho:opsl[k]?=some o)(hg:o.guard=none)(hn:need .any opsl.toArray gs k=false)(h: ∀ K:Act→World→Prop,(∀ a w,wpMix P opsl.toArray gs C Q ks a w→K a w)→OWP P o a w K Q):wpMix P opsl.toArray gs C Q ((false,k)::ks) a w:=
 wpOp_step (by simpa using ho) fun K hK=>by rw[if_pos (wanted_none hg)];exact owp_out (h K fun a' w' h2=>hK a' w' ⟨fun q=>(by rw[hn]at q;cases q),h2⟩)
theorem m_nil(h:Q .normal a w):wpMix P opsl.toArray gs C Q [] a w:=h
end
section
variable {P:Program} {ops:Array Oper} {C:World→Prop} {K:Act→Prop} {op:Op} {oty:TypeId} {pos:String} {after:Array Edge} {l l' :List Value} {ds:List Deferred} {o:Oper} {a:Act}
theorem r_pure{v:Value}(hg:o.guard=none)(hr: ∀ w,(execOp a.eval o).run P w= .ok (.value v) w)(h:K (a.put o.dst v)):RSP P ops o a C K:=
 rsp_of ⟨v,⟨wanted_none hg,fun w _=>hr w⟩,h⟩
theorem r_load{d:Nat}{ty:TypeId}{x:Operand}{x0:Value}[h0:Nth l d x0](hi: ∃ w,C w)(h: ∀ w,C w→OWP P ⟨some d,.load ty x,oty,pos,after,none⟩ ⟨l.toArray,ds⟩ w (fun a' w' =>w' =w∧a' =⟨l'.toArray,ds⟩) (fun _ _ _=>False))(hk:K ⟨l'.toArray,ds⟩):RSP P ops ⟨some d,.load ty x,oty,pos,after,none⟩ ⟨l.toArray,ds⟩ C K:=by
 have h1:=qsp_out (c_load (l' :=l') (K:=K) hi h hk)
 obtain⟨v,h2,h3⟩:=h1
 refine rsp_of ⟨v,⟨wanted_none rfl,fun w hw=>?_⟩,h3⟩
 have h4:=h2 w hw
 unfold Oper.quietAt execOp at h4
 unfold execOp
 simp only[Sem.run_bind]at h4 ⊢
 cases hr:(Instr.loadAt ty (Act.eval ⟨l.toArray,ds⟩ x)).run P w with
 |ok y w' =>
  rw[hr]at h4
  simp only[Result.andThen_ok,Sem.run_pure]at h4 ⊢
  obtain⟨e1,e2⟩:=h4
  rw[e1,e2]
 |halt e w' =>
  rw[hr]at h4
  exact absurd h4 (by cases e<;>simp[Result.andThen,Oper.quietUpon])
end
class SubI (K L:List Ent):Prop where
 sub:K.Sublist L
instance (priority:=1100){L:List Ent}:SubI L L:=⟨List.Sublist.refl L⟩
instance (priority:=1050){L:List Ent}:SubI [] L:=⟨List.nil_sublist L⟩
instance (priority:=1020){K L:List Ent}{e:Ent}[h:SubI K L]:SubI (e::K) (e::L):=⟨h.sub.cons_cons e⟩
instance {K L:List Ent}{e:Ent}[h:SubI K L]:SubI K (e::L):=⟨h.sub.cons e⟩
section
variable {P:Program} {At:PS→World→Prop} {b:Nat} {u w:World} {s:PS} {L:List Ent}
theorem Mem.sub{K L:List Ent}(M:Mem At b u w s L)(h:K.Sublist L):Mem At b u w s K:=by
 induction h with
 |slnil=>exact M
 |cons a _ ih=>exact ih M.drop
 |cons_cons a h ih=>
  have h1: ∀ (K L:List Ent),K.Sublist L→ ∀ A,Mem At b u w s (A++L)→Mem At b u w s (A++K):=by
   intro K L h
   induction h with
   |slnil=>exact fun _ M=>M
   |cons a _ ih=>exact fun A M=>ih A (M.cut A)
   |cons_cons a _ ih=>
    intro A M
    have:=ih (A++[a]) (by simpa using M)
    simpa using this
  exact h1 _ _ (h.cons_cons a) [] M
theorem Mem.kept{K L:List Ent}[h:SubI K L](M:Mem At b u w s L):Mem At b u w s K:=M.sub h.sub
theorem wp_region_first{K:List Ent}{id:Nat}{Q:Exit→Act→World→Prop}{a:Act}{l:List Oper}(gs:List Nat)(ks:List (Bool×Nat))(hKL: ∀ wx,Mem At b u wx s L→Mem At b u wx s K)(M:Mem At b u w s L)(hm:P.follows .mixedOrders=true)(hB:regB l.toArray gs ks=true)
  (hQ: ∀ c t t' ds w,Q (.panic c) ⟨t,ds⟩ w→Q (.panic c) ⟨t',ds⟩ w)
  (h: ∀ w',Mem At b u w' s L→wpMix P l.toArray gs (fun wx=>Mem At b u wx s K) Q ks a w'):(Code.region id l.toArray true).wp P Q a w:=by
 simp only[regB,Bool.and_eq_true,decide_eq_true_eq]at hB
 obtain⟨⟨h1,h2⟩,h3⟩:=hB
 refine wp_region_any hm (wpAny_of_C (fs:=gs) (C:=fun wx=>Mem At b u wx s K) _ _ _ _ ?_)
 rw[←h2]
 exact wpAnyC_mix h1 hQ ks _ _ _ closed_start (by rw[h2];exact h3) (h _ M.drew)
end
end Go.Proofs.Ytpnhkkjjdcjmgaa
