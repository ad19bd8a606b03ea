/-
  Regions that draw and read; rows compared. Printed by mklib.py out of the texts of src9.
-/
import Derived.Test.YtpnhkkjjdcjmgaaMmB
import Derived.StillTailTactics
import Derived.Deep.LoopGhost
namespace Go.Proofs.Ytpnhkkjjdcjmgaa
open Go.RowKit
set_option linter.unusedVariables false
set_option linter.unusedSimpArgs false
@[irreducible] def OSP (P:Program) (o:Oper) (a:Act) (w:World) (K:Act→Prop):Prop:=o.still P a w K
theorem osp_eq{P:Program}{o:Oper}{a:Act}{w:World}{K:Act→Prop}:OSP P o a w K=o.still P a w K:=by unfold OSP;rfl
theorem osp_of{P:Program}{o:Oper}{a:Act}{w:World}{K:Act→Prop}(h:o.still P a w K):OSP P o a w K:=osp_eq▸h
theorem osp_out{P:Program}{o:Oper}{a:Act}{w:World}{K:Act→Prop}(h:OSP P o a w K):o.still P a w K:=osp_eq▸h
section
variable {P:Program} {ops:Array Oper} {opsl rest:List Oper} {o:Oper} {a:Act} {w:World} {Q:Act→Prop} {dst:Option Tmp} {op:Op} {oty:TypeId} {pos:String} {after:Array Edge} {gi:Nat} {want:Bool} {t:Tmp} {l l' :List Value} {ds:List Deferred}
theorem s_list(hg:o.guard=none)(h: ∀ K:Act→Prop,(∀ a,wpStill P ops w Q rest a→K a)→OSP P o a w K):wpStill P ops w Q (o::rest) a:=
 wpStill_step fun K hK=>by rw[if_pos (wanted_none hg)];exact osp_out (h K hK)
theorem wanted_g[ho:NthO opsl gi t]{v:Bool}(hv:l[t]?=some (.bool v)):Region.wanted (⟨dst,op,oty,pos,after,some (gi,want)⟩:Oper) (yielded opsl.toArray l.toArray)=(v==want):=by
 obtain⟨o',h2,h3⟩:=ho.at_
 simp only[Region.wanted,yielded,List.getElem?_toArray,h2,Option.bind_some,h3,hv]
 cases v<;>cases want<;>rfl
theorem s_listg[ho:NthO opsl gi t][hv:Nth l t (.bool want)](h: ∀ K:Act→Prop,(∀ a,wpStill P opsl.toArray w Q rest a→K a)→OSP P ⟨dst,op,oty,pos,after,some (gi,want)⟩ ⟨l.toArray,ds⟩ w K):
  wpStill P opsl.toArray w Q (⟨dst,op,oty,pos,after,some (gi,want)⟩::rest) ⟨l.toArray,ds⟩:=
 wpStill_step fun K hK=>by rw[if_pos (by rw[wanted_g hv.nth];simp)];exact osp_out (h K hK)
theorem s_skipT[ho:NthO opsl gi t][hv:Nth l t (.bool false)][hp:PutI l dst undef l'](h:wpStill P opsl.toArray w Q rest ⟨l'.toArray,ds⟩):wpStill P opsl.toArray w Q (⟨dst,op,oty,pos,after,some (gi,true)⟩::rest) ⟨l.toArray,ds⟩:=
 wpStill_step fun K hK=>by rw[if_neg (by rw[wanted_g hv.nth];simp)];refine hK _ ?_;rw[hp.put];exact h
theorem s_skipF[ho:NthO opsl gi t][hv:Nth l t (.bool true)][hp:PutI l dst undef l'](h:wpStill P opsl.toArray w Q rest ⟨l'.toArray,ds⟩):wpStill P opsl.toArray w Q (⟨dst,op,oty,pos,after,some (gi,false)⟩::rest) ⟨l.toArray,ds⟩:=
 wpStill_step fun K hK=>by rw[if_neg (by rw[wanted_g hv.nth];simp)];refine hK _ ?_;rw[hp.put];exact h
theorem s_load{g:Option (Nat×Bool)}{ty:TypeId}{x:Operand}{K:Act→Prop}(h:OWP P ⟨dst,.load ty x,oty,pos,after,g⟩ a w (fun a' w' =>w' =w∧K a') (fun _ _ _=>False)):OSP P ⟨dst,.load ty x,oty,pos,after,g⟩ a w K:=by
 refine osp_of ?_
 have h2:=owp_out h
 unfold Oper.wp execOp at h2
 unfold Oper.still execOp
 simp only[Sem.run_bind]at h2 ⊢
 cases hr:(Instr.loadAt ty (a.eval x)).run P w with
 |ok v w' =>
  rw[hr]at h2
  simp only[Result.andThen_ok,Sem.run_pure]at h2 ⊢
  exact h2
 |halt e w' =>
  rw[hr]at h2
  revert h2
  cases e<;>(intro h2;exact absurd h2 (by simp[Result.andThen,Oper.upon]))
theorem s_pure{K:Act→Prop}(h:o.still P a w K):OSP P o a w K:=osp_of h
end
section
variable {P:Program} {dst:Option Tmp} {oty:TypeId} {pos:String} {after:Array Edge} {g:Option (Nat×Bool)} {l l' :List Value} {ds:List Deferred} {Q:Exit→Act→World→Prop} {K:Act→World→Prop} {j:Nat} {ty:TypeId} {w:World} {c o:Nat} {v:Value}
theorem q_cellat[hx:Nth l j (.pointer (some ⟨c,o,none⟩))][hT:OneI P ty](hc:w.cell? ⟨c,o,none⟩=some v)[hd:PutI l dst v l'](h:K ⟨l'.toArray,ds⟩ w):OWP P ⟨dst,.load ty (.tmp j),oty,pos,after,g⟩ ⟨l.toArray,ds⟩ w K Q:=
 owp_of (op_cell rfl (eval_tmp hx.nth) hT.one hc (by rw[hd.put];exact h))
end
theorem SlF.rowAt{α:Type}{F:Nat→Prop}{k:Nat}{R:(Nat→Prop)→World→List Value→α→Prop}{ao:Option Addr}{n cap:Nat}{xs:List α}{w:World}{P:Program}{t e:Nat}(hX:SlF F w k R ao n cap xs)(hR:Firm R)(ht:P.underlying t=some (.slice e))(hs:SizeIs P e k){i:Nat}(hi:i<xs.length):
  ∃ c off row,(∀ wx,(Instr.indexAt t (.slice ao n cap) (.int .i64 i)).run P wx= .ok (.pointer (some ⟨c,off,none⟩)) wx)∧row.length=k∧R F w row xs[i]∧ ∀ wx,Below w.heap.size w wx→wx.rangeAt c off row∧R F wx row xs[i]:=by
 obtain⟨b,off,row,hix,hblt,hrow,hrr⟩:=hX.toR.index (P:=P) ht hs hi
 refine⟨b,off+i*k,row,hix,hrow.1,hrr,fun wx hb=>⟨fun j v hj=>?_,hR _ _ _ _ _ _ (Same.below hb) hrr⟩⟩
 rw[(bcell hb).1 _ _ hblt]
 exact hrow.range j v hj
theorem RowAt.six{w:World}{b o:Nat}{x0 x1 x2 x3 x4 x5:Value}(h:RowAt w b o 6 [x0,x1,x2,x3,x4,x5]):w.cell? ⟨b,o,none⟩=some x0∧w.cell? ⟨b,o+1,none⟩=some x1∧w.cell? ⟨b,o+1+1,none⟩=some x2∧w.cell? ⟨b,o+1+1+1,none⟩=some x3∧w.cell? ⟨b,o+1+1+1+1,none⟩=some x4∧w.cell? ⟨b,o+1+1+1+1+1,none⟩=some x5:=
 ⟨h.2 0 (by omega),h.2 1 (by omega),h.2 2 (by omega),h.2 3 (by omega),h.2 4 (by omega),h.2 5 (by omega)⟩
theorem RowAt.fourteen{w:World}{b o:Nat}{x0 x1 x2 x3 x4 x5 x6 x7 x8 x9 x10 x11 x12 x13:Value}(h:RowAt w b o 14 [x0,x1,x2,x3,x4,x5,x6,x7,x8,x9,x10,x11,x12,x13]):w.cell? ⟨b,o,none⟩=some x0∧w.cell? ⟨b,o+1,none⟩=some x1∧w.cell? ⟨b,o+1+1,none⟩=some x2∧w.cell? ⟨b,o+1+1+1,none⟩=some x3∧w.cell? ⟨b,o+1+1+1+1,none⟩=some x4∧w.cell? ⟨b,o+1+1+1+1+1,none⟩=some x5∧w.cell? ⟨b,o+1+1+1+1+1+1,none⟩=some x6∧w.cell? ⟨b,o+1+1+1+1+1+1+1,none⟩=some x7∧w.cell? ⟨b,o+1+1+1+1+1+1+1+1,none⟩=some x8∧w.cell? ⟨b,o+1+1+1+1+1+1+1+1+1,none⟩=some x9∧w.cell? ⟨b,o+1+1+1+1+1+1+1+1+1+1,none⟩=some x10∧w.cell? ⟨b,o+1+1+1+1+1+1+1+1+1+1+1,none⟩=some x11∧w.cell? ⟨b,o+1+1+1+1+1+1+1+1+1+1+1+1,none⟩=some x12∧w.cell? ⟨b,o+1+1+1+1+1+1+1+1+1+1+1+1+1,none⟩=some x13:=
 ⟨h.2 0 (by omega),h.2 1 (by omega),h.2 2 (by omega),h.2 3 (by omega),h.2 4 (by omega),h.2 5 (by omega),h.2 6 (by omega),h.2 7 (by omega),h.2 8 (by omega),h.2 9 (by omega),h.2 10 (by omega),h.2 11 (by omega),h.2 12 (by omega),h.2 13 (by omega)⟩
theorem RowAt.eighteen{w:World}{b o:Nat}{x0 x1 x2 x3 x4 x5 x6 x7 x8 x9 x10 x11 x12 x13 x14 x15 x16 x17:Value}(h:RowAt w b o 18 [x0,x1,x2,x3,x4,x5,x6,x7,x8,x9,x10,x11,x12,x13,x14,x15,x16,x17]):w.cell? ⟨b,o,none⟩=some x0∧w.cell? ⟨b,o+1,none⟩=some x1∧w.cell? ⟨b,o+1+1,none⟩=some x2∧w.cell? ⟨b,o+1+1+1,none⟩=some x3∧w.cell? ⟨b,o+1+1+1+1,none⟩=some x4∧w.cell? ⟨b,o+1+1+1+1+1,none⟩=some x5∧w.cell? ⟨b,o+1+1+1+1+1+1,none⟩=some x6∧w.cell? ⟨b,o+1+1+1+1+1+1+1,none⟩=some x7∧w.cell? ⟨b,o+1+1+1+1+1+1+1+1,none⟩=some x8∧w.cell? ⟨b,o+1+1+1+1+1+1+1+1+1,none⟩=some x9∧w.cell? ⟨b,o+1+1+1+1+1+1+1+1+1+1,none⟩=some x10∧w.cell? ⟨b,o+1+1+1+1+1+1+1+1+1+1+1,none⟩=some x11∧w.cell? ⟨b,o+1+1+1+1+1+1+1+1+1+1+1+1,none⟩=some x12∧w.cell? ⟨b,o+1+1+1+1+1+1+1+1+1+1+1+1+1,none⟩=some x13∧w.cell? ⟨b,o+1+1+1+1+1+1+1+1+1+1+1+1+1+1,none⟩=some x14∧w.cell? ⟨b,o+1+1+1+1+1+1+1+1+1+1+1+1+1+1+1,none⟩=some x15∧w.cell? ⟨b,o+1+1+1+1+1+1+1+1+1+1+1+1+1+1+1+1,none⟩=some x16∧w.cell? ⟨b,o+1+1+1+1+1+1+1+1+1+1+1+1+1+1+1+1+1,none⟩=some x17:=
 ⟨h.2 0 (by omega),h.2 1 (by omega),h.2 2 (by omega),h.2 3 (by omega),h.2 4 (by omega),h.2 5 (by omega),h.2 6 (by omega),h.2 7 (by omega),h.2 8 (by omega),h.2 9 (by omega),h.2 10 (by omega),h.2 11 (by omega),h.2 12 (by omega),h.2 13 (by omega),h.2 14 (by omega),h.2 15 (by omega),h.2 16 (by omega),h.2 17 (by omega)⟩
def cnd14(k:Int)(ao:Option Addr)(n cap:Nat)(l r:Opd):List Value:=[.int .i64 k,.slice ao n cap,.int .i64 l.kind,.int .i64 l.vkind,.int .i64 l.vint,.string l.vtext,.string l.var,.string l.field,.int .i64 r.kind,.int .i64 r.vkind,.int .i64 r.vint,.string r.vtext,.string r.var,.string r.field]
theorem CondF.open14{F:Nat→Prop}{w:World}{row:List Value}{c:Cond}(h:CondF F w row c): ∃ ao n cap,row=cnd14 c.kind ao n cap c.left c.right∧SlF F w 14 CondF ao n cap c.subs:=h.open
theorem sub_less{c:Cond}{i:Nat}(h:i<c.subs.length):SizeOf.sizeOf c.subs[i]<SizeOf.sizeOf c:=by
 cases c with
 |mk k subs l r=>
  have h1:=List.sizeOf_lt_of_mem (List.getElem_mem (l:=subs) h)
  show SizeOf.sizeOf subs[i]<_
  simp only[Cond.mk.sizeOf_spec]
  omega
def pat18(p:Pat)(ao:Option Addr)(n cap:Nat):List Value:=[.string p.var,.string p.type,.int .i64 p.wher.kind,.slice ao n cap,.int .i64 p.wher.left.kind,.int .i64 p.wher.left.vkind,.int .i64 p.wher.left.vint,.string p.wher.left.vtext,.string p.wher.left.var,.string p.wher.left.field,.int .i64 p.wher.right.kind,.int .i64 p.wher.right.vkind,.int .i64 p.wher.right.vint,.string p.wher.right.vtext,.string p.wher.right.var,.string p.wher.right.field,.int .i64 p.window,.int .i64 p.n]
theorem patF.open18{F:Nat→Prop}{w:World}{row:List Value}{p:Pat}(h:patF F w row p): ∃ ao n cap,row=pat18 p ao n cap∧SlF F w 14 CondF ao n cap p.wher.subs:=by
 obtain⟨ao,n,cap,h1,h2⟩:=h
 exact⟨ao,n,cap,h1,h2⟩
theorem manC_inj{m:Many}{a b:Option Addr}{n n' c c' :Nat}(h:manC m a n c=manC m b n' c'):a=b∧n=n' ∧c=c' :=by
 unfold manC patC cndC at h
 simp only[List.cons_append,List.cons.injEq,Value.slice.injEq,true_and,and_true]at h
 exact h
theorem range_tail{w:World}{c o i:Nat}{row r:List Value}(h:w.rangeAt c o row)(hr:row.drop i=r):w.rangeAt c (o+i) r:=fun j v hj=>by
 subst hr
 rw[List.getElem?_drop]at hj
 have h1:=h (i+j) v hj
 rw[←Nat.add_assoc]at h1
 exact h1
class PartI (cs:List Value) (p m:Nat) (vs:outParam (List Value)):Prop where
 part:(cs.drop p).take m=vs
instance {cs:List Value}:PartI cs 0 0 []:=⟨rfl⟩
instance {c:Value}{cs vs:List Value}{m:Nat}[h:PartI cs 0 m vs]:PartI (c::cs) 0 (m+1) (c::vs):=⟨congrArg (c:: ·) h.part⟩
instance {c:Value}{cs vs:List Value}{p m:Nat}[h:PartI cs p m vs]:PartI (c::cs) (p+1) m vs:=⟨h.part⟩
section
variable {P:Program} {dst:Option Tmp} {oty:TypeId} {pos:String} {after:Array Edge} {g:Option (Nat×Bool)} {l l' :List Value} {ds:List Deferred} {Q:Exit→Act→World→Prop} {K:Act→World→Prop}
variable {At:PS→World→Prop} {b:Nat} {u w:World} {s:PS} {L:List Ent} {ty t:TypeId} {j z p m i:Nat} {cs vs:List Value}
theorem q_prt(M:Mem At b u w s L)[hx:Nth l j (.pointer (some ⟨z,p,none⟩))][hz:Has L z i cs t][hT:StI P ty m][hp:PartI cs p m vs][hd:PutI l dst (.agg vs.toArray) l'](hl:Nat.ble (p+m) cs.length=true)(h:K ⟨l'.toArray,ds⟩ w):OWP P ⟨dst,.load ty (.tmp j),oty,pos,after,g⟩ ⟨l.toArray,ds⟩ w K Q:=
 q_part M hl hp.part h
end
theorem tk{P:Program}{l:List Oper}{Q:Exit→Act→World→Prop}{md:Region.Mode}{oi:Oper}{v:Value}{fuel:Nat}{listed:Array Bool}{a:Act}{w:World}(i:Nat)(hi:l[i]?=some oi)
  (hB:(Region.noSelect l.toArray&&(Region.free md l.toArray listed i&&(Region.ready md l.toArray listed).contains i))=true)(hg:oi.guard=none)
  (hv: ∀ w,(execOp a.eval oi).run P w= .ok (.value v) w)
  (h:wpAny P md l.toArray Q fuel (listed.setIfInBounds i true) (a.put oi.dst v) w)(hQ: ∀ c a w,Q (.panic c) (a.put oi.dst v) w→Q (.panic c) a w:=by exact fun _ _ _ h=>h):wpAny P md l.toArray Q (fuel+1) listed a w:=by
 simp only[Bool.and_eq_true]at hB
 exact wpAny_take (get_l hi) hB.1 hB.2.1 hB.2.2 hQ (Or.inl ⟨wanted_none hg,hv⟩) h
structure St (n:Nat):Prop
theorem St.o:St 0:=⟨⟩
theorem St.add{n:Nat}(_:St n)(k:Nat):St (n+k):=⟨⟩
section
variable {P:Program} {l:List Oper} {Q:Exit→Act→World→Prop} {md:Region.Mode} {fuel:Nat} {listed:Array Bool} {a:Act} {w:World} {o1 o2 o3 o4 o5 o6:Oper}
abbrev RdO(P:Program)(l:List Oper)(Q:Exit→Act→World→Prop)(md:Region.Mode)(fuel:Nat)(listed:Array Bool)(a:Act)(w:World)(i:Nat)(o:Oper):Prop:=
 ∀ K:Act→World→Prop,(∀ a w,wpAny P md l.toArray Q fuel (listed.setIfInBounds i true) a w→K a w)→OWP P o a w K Q
theorem rd1(i1:Nat)(hr:Region.ready md l.toArray listed=[i1])(h1:l[i1]?=some o1)(g1:o1.guard=none)(k1:RdO P l Q md fuel listed a w i1 o1):wpAny P md l.toArray Q (fuel+1) listed a w:=
 wpAny_ready hr (by simp) (ready_cons (get_l h1) g1 k1 AllReady.nil)
theorem rd2(i1 i2:Nat)(hr:Region.ready md l.toArray listed=[i1,i2])(h1:l[i1]?=some o1)(g1:o1.guard=none)(k1:RdO P l Q md fuel listed a w i1 o1)(h2:l[i2]?=some o2)(g2:o2.guard=none)(k2:RdO P l Q md fuel listed a w i2 o2):wpAny P md l.toArray Q (fuel+1) listed a w:=
 wpAny_ready hr (by simp) (ready_cons (get_l h1) g1 k1 (ready_cons (get_l h2) g2 k2 AllReady.nil))
theorem rd3(i1 i2 i3:Nat)(hr:Region.ready md l.toArray listed=[i1,i2,i3])(h1:l[i1]?=some o1)(g1:o1.guard=none)(k1:RdO P l Q md fuel listed a w i1 o1)(h2:l[i2]?=some o2)(g2:o2.guard=none)(k2:RdO P l Q md fuel listed a w i2 o2)(h3:l[i3]?=some o3)(g3:o3.guard=none)(k3:RdO P l Q md fuel listed a w i3 o3):wpAny P md l.toArray Q (fuel+1) listed a w:=
 wpAny_ready hr (by simp) (ready_cons (get_l h1) g1 k1 (ready_cons (get_l h2) g2 k2 (ready_cons (get_l h3) g3 k3 AllReady.nil)))
theorem rd4(i1 i2 i3 i4:Nat)(hr:Region.ready md l.toArray listed=[i1,i2,i3,i4])(h1:l[i1]?=some o1)(g1:o1.guard=none)(k1:RdO P l Q md fuel listed a w i1 o1)(h2:l[i2]?=some o2)(g2:o2.guard=none)(k2:RdO P l Q md fuel listed a w i2 o2)(h3:l[i3]?=some o3)(g3:o3.guard=none)(k3:RdO P l Q md fuel listed a w i3 o3)(h4:l[i4]?=some o4)(g4:o4.guard=none)(k4:RdO P l Q md fuel listed a w i4 o4):wpAny P md l.toArray Q (fuel+1) listed a w:=
 wpAny_ready hr (by simp) (ready_cons (get_l h1) g1 k1 (ready_cons (get_l h2) g2 k2 (ready_cons (get_l h3) g3 k3 (ready_cons (get_l h4) g4 k4 AllReady.nil))))
theorem rd5(i1 i2 i3 i4 i5:Nat)(hr:Region.ready md l.toArray listed=[i1,i2,i3,i4,i5])(h1:l[i1]?=some o1)(g1:o1.guard=none)(k1:RdO P l Q md fuel listed a w i1 o1)(h2:l[i2]?=some o2)(g2:o2.guard=none)(k2:RdO P l Q md fuel listed a w i2 o2)(h3:l[i3]?=some o3)(g3:o3.guard=none)(k3:RdO P l Q md fuel listed a w i3 o3)(h4:l[i4]?=some o4)(g4:o4.guard=none)(k4:RdO P l Q md fuel listed a w i4 o4)(h5:l[i5]?=some o5)(g5:o5.guard=none)(k5:RdO P l Q md fuel listed a w i5 o5):wpAny P md l.toArray Q (fuel+1) listed a w:=
 wpAny_ready hr (by simp) (ready_cons (get_l h1) g1 k1 (ready_cons (get_l h2) g2 k2 (ready_cons (get_l h3) g3 k3 (ready_cons (get_l h4) g4 k4 (ready_cons (get_l h5) g5 k5 AllReady.nil)))))
theorem rd6(i1 i2 i3 i4 i5 i6:Nat)(hr:Region.ready md l.toArray listed=[i1,i2,i3,i4,i5,i6])(h1:l[i1]?=some o1)(g1:o1.guard=none)(k1:RdO P l Q md fuel listed a w i1 o1)(h2:l[i2]?=some o2)(g2:o2.guard=none)(k2:RdO P l Q md fuel listed a w i2 o2)(h3:l[i3]?=some o3)(g3:o3.guard=none)(k3:RdO P l Q md fuel listed a w i3 o3)(h4:l[i4]?=some o4)(g4:o4.guard=none)(k4:RdO P l Q md fuel listed a w i4 o4)(h5:l[i5]?=some o5)(g5:o5.guard=none)(k5:RdO P l Q md fuel listed a w i5 o5)(h6:l[i6]?=some o6)(g6:o6.guard=none)(k6:RdO P l Q md fuel listed a w i6 o6):wpAny P md l.toArray Q (fuel+1) listed a w:=
 wpAny_ready hr (by simp) (ready_cons (get_l h1) g1 k1 (ready_cons (get_l h2) g2 k2 (ready_cons (get_l h3) g3 k3 (ready_cons (get_l h4) g4 k4 (ready_cons (get_l h5) g5 k5 (ready_cons (get_l h6) g6 k6 AllReady.nil))))))
end
end Go.Proofs.Ytpnhkkjjdcjmgaa
