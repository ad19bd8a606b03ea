/-
  Regions that draw, where every operation reads, reckons, or calls what leaves the elder blocks alone: one walk of the lexical order serves them all.
-/
import Derived.Test.YtpnhkkjjdcjmgaaMmW
import Derived.Deep.Quiet
namespace Go.Proofs.Ytpnhkkjjdcjmgaa
open Go.RowKit
set_option linter.unusedVariables false
set_option linter.unusedSimpArgs false
@[irreducible] def QSP (P:Program) (o:Oper) (a:Act) (C:World→Prop) (K:Act→Prop):Prop:=o.quiet P a C K
theorem qsp_eq{P:Program}{o:Oper}{a:Act}{C:World→Prop}{K:Act→Prop}:QSP P o a C K=o.quiet P a C K:=by unfold QSP;rfl
theorem qsp_of{P:Program}{o:Oper}{a:Act}{C:World→Prop}{K:Act→Prop}(h:o.quiet P a C K):QSP P o a C K:=qsp_eq▸h
theorem qsp_out{P:Program}{o:Oper}{a:Act}{C:World→Prop}{K:Act→Prop}(h:QSP P o a C K):o.quiet P a C K:=qsp_eq▸h
section
variable {P:Program} {ops:Array Oper} {opsl rest:List Oper} {o:Oper} {a:Act} {C:World→Prop} {Q:Act→Prop} {K:Act→Prop} {dst:Option Tmp} {op:Op} {oty:TypeId} {pos:String} {after:Array Edge} {g:Option (Nat×Bool)} {gi:Nat} {want:Bool} {t:Tmp} {l l' :List Value} {ds:List Deferred}
theorem c_list(hg:o.guard=none)(h: ∀ K:Act→Prop,(∀ a,wpQuiet P ops C Q rest a→K a)→QSP P o a C K):wpQuiet P ops C Q (o::rest) a:=
 wpQuiet_step fun K hK=>by rw[if_pos (wanted_none hg)];exact qsp_out (h K hK)
theorem c_listg[ho:NthO opsl gi t][hv:Nth l t (.bool want)](h: ∀ K:Act→Prop,(∀ a,wpQuiet P opsl.toArray C Q rest a→K a)→QSP P ⟨dst,op,oty,pos,after,some (gi,want)⟩ ⟨l.toArray,ds⟩ C K):
  wpQuiet P opsl.toArray C Q (⟨dst,op,oty,pos,after,some (gi,want)⟩::rest) ⟨l.toArray,ds⟩:=
 wpQuiet_step fun K hK=>by rw[if_pos (by rw[wanted_g hv.nth];simp)];exact qsp_out (h K hK)
theorem c_skipT[ho:NthO opsl gi t][hv:Nth l t (.bool false)][hp:PutI l dst undef l'](h:wpQuiet P opsl.toArray C Q rest ⟨l'.toArray,ds⟩):wpQuiet P opsl.toArray C Q (⟨dst,op,oty,pos,after,some (gi,true)⟩::rest) ⟨l.toArray,ds⟩:=
 wpQuiet_step fun K hK=>by rw[if_neg (by rw[wanted_g hv.nth];simp)];refine hK _ ?_;rw[hp.put];exact h
theorem c_skipF[ho:NthO opsl gi t][hv:Nth l t (.bool true)][hp:PutI l dst undef l'](h:wpQuiet P opsl.toArray C Q rest ⟨l'.toArray,ds⟩):wpQuiet P opsl.toArray C Q (⟨dst,op,oty,pos,after,some (gi,false)⟩::rest) ⟨l.toArray,ds⟩:=
 wpQuiet_step fun K hK=>by rw[if_neg (by rw[wanted_g hv.nth];simp)];refine hK _ ?_;rw[hp.put];exact h
theorem c_pure{v:Value}(hr: ∀ w,(execOp a.eval o).run P w= .ok (.value v) w)(h:K (a.put o.dst v)):QSP P o a C K:=
 qsp_of ⟨v,fun w hw=>by unfold Oper.quietAt;rw[hr w];exact⟨rfl,rfl⟩,h⟩
theorem c_call{n:FuncId}{args:Array Value}{v:Value}(hr: ∀ w,(execOp a.eval o).run P w= .ok (.enter n args) w)(hc: ∀ w,C w→Calls P n args w fun e w' =>e= .returned v∧C w')(h:K (a.put o.dst v)):QSP P o a C K:=
 qsp_of ⟨v,fun w hw=>by unfold Oper.quietAt;rw[hr w];exact⟨rfl,hc w hw⟩,h⟩
theorem c_load{d:Nat}{ty:TypeId}{x:Operand}{x0:Value}[h0:Nth l d x0](hi: ∃ w,C w)(h: ∀ w,C w→OWP P ⟨some d,.load ty x,oty,pos,after,g⟩ ⟨l.toArray,ds⟩ w (fun a' w' =>w' =w∧a' =⟨l'.toArray,ds⟩) (fun _ _ _=>False))(hk:K ⟨l'.toArray,ds⟩):QSP P ⟨some d,.load ty x,oty,pos,after,g⟩ ⟨l.toArray,ds⟩ C K:=by
 have hl:d<l.length:=(List.getElem?_eq_some_iff.1 h0.nth).1
 have key: ∀ w,C w→ ∃ y,(Instr.loadAt ty (Act.eval ⟨l.toArray,ds⟩ x)).run P w= .ok y w∧l' =l.set d y:=fun w hw=>by
  have h2:=owp_out (h w hw)
  unfold Oper.wp execOp at h2
  simp only[Sem.run_bind]at h2
  cases hr:(Instr.loadAt ty (Act.eval ⟨l.toArray,ds⟩ x)).run P w with
  |ok y w' =>
   rw[hr]at h2
   simp only[Result.andThen_ok,Sem.run_pure]at h2
   obtain⟨e1,e2⟩:=h2
   refine⟨y,by rw[e1],?_⟩
   simp only[Act.put,Act.mk.injEq,and_true]at e2
   have e3:=congrArg Array.toList e2
   simpa using e3.symm
  |halt e w' =>
   rw[hr]at h2
   revert h2
   cases e<;>(intro h2;exact absurd h2 (by simp[Result.andThen,Oper.upon]))
 obtain⟨w0,hw0⟩:=hi
 obtain⟨y0, -,e0⟩:=key w0 hw0
 refine qsp_of ⟨y0,fun w hw=>?_,by rw[put_set,←e0];exact hk⟩
 obtain⟨y,hr,e⟩:=key w hw
 unfold Oper.quietAt execOp
 simp only[Sem.run_bind,hr,Result.andThen_ok,Sem.run_pure]
 refine⟨rfl,?_⟩
 have e3:=congrArg (fun x:List Value=>x[d]?) (e.symm.trans e0)
 simpa[hl]using e3
end
section
variable {P:Program} {At:PS→World→Prop} {b:Nat} {u w:World} {s:PS} {L:List Ent}
theorem wp_region_calm{id:Nat}{Q:Exit→Act→World→Prop}{a:Act}{l:List Oper}(M:Mem At b u w s L)(hm:P.follows .mixedOrders=true)(hB:Region.lexB .any l.toArray=true)
  (h:wpQuiet P l.toArray (fun wx=>Mem At b u wx s L) (fun a' => ∀ w',Mem At b u w' s L→Q .normal a' w') l a):(Code.region id l.toArray true).wp P Q a w:=
 wp_region_quiet (C:=fun wx=>Mem At b u wx s L) hm hB M.drew (by simpa using h)
end
end Go.Proofs.Ytpnhkkjjdcjmgaa
