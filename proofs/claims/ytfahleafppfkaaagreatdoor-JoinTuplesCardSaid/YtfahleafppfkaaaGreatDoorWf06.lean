/-
  Regions that draw and read; rows compared. Printed by mklib.py out of the texts of src9.
-/
import Derived.Test.YtfahleafppfkaaaGreatDoorWf05
import Derived.StillTailTactics
import Derived.Deep.LoopGhost
import Derived.Test.YtfahleafppfkaaaGreatDoorWf02
namespace Go.Proofs.YtfahleafppfkaaaGreatDoor
open Go.RowKit
set_option linter.unusedVariables false
set_option linter.unusedSimpArgs false
@[irreducible] def OSP (P:Program) (o:Oper) (a:Act) (w:World) (K:Act→Prop):Prop:=o.still P a w K
theorem osp_eq{P:Program}{o:Oper}{a:Act}{w:World}{K:Act→Prop}:OSP P o a w K=o.still P a w K:=by unfold OSP;rfl
theorem osp_of{P:Program}{o:Oper}{a:Act}{w:World}{K:Act→Prop}(h:o.still P a w K):OSP P o a w K:=osp_eq▸h
theorem osp_out{P:Program}{o:Oper}{a:Act}{w:World}{K:Act→Prop}(h:OSP P o a w K):o.still P a w K:=osp_eq▸h
section
variable {P:Program} {ops:Array Oper} {opsl rest:List Oper} {o:Oper} {a:Act} {w:World} {Q:Act→Prop} {dst:Option Tmp} {op:Op} {oty:TypeId} {pos:String} {after:Array Edge} {gi:Nat} {want:Bool} {t:Tmp} {l l' :List Value} {ds:List Deferred}
theorem s_list(hg:o.guard=none)(h: ∀ K:Act→Prop,(∀ a,wpStill P ops w Q rest a→K a)→OSP P o a w K):wpStill P ops w Q (o::rest) a:=
 wpStill_step fun K hK=>by rw[if_pos (wanted_none hg)];exact osp_out (h K hK)
theorem wanted_g[ho:NthO opsl gi t]{v:Bool}(hv:l[t]?=some (.bool v)):Region.wanted (⟨dst,op,oty,pos,after,some (gi,want)⟩:Oper) (yielded opsl.toArray l.toArray)=(v==want):=by
 obtain⟨o',h2,h3⟩:=ho.at_
 simp only[Region.wanted,yielded,List.getElem?_toArray,h2,Option.bind_some,h3,hv]
 cases v<;>cases want<;>rfl
theorem s_listg[ho:NthO opsl gi t][hv:Nth l t (.bool want)](h: ∀ K:Act→Prop,(∀ a,wpStill P opsl.toArray w Q rest a→K a)→OSP P ⟨dst,op,oty,pos,after,some (gi,want)⟩ ⟨l.toArray,ds⟩ w K):
  wpStill P opsl.toArray w Q (⟨dst,op,oty,pos,after,some (gi,want)⟩::rest) ⟨l.toArray,ds⟩:=
 wpStill_step fun K hK=>by rw[if_pos (by rw[wanted_g hv.nth];simp)];exact osp_out (h K hK)
theorem s_skipT[ho:NthO opsl gi t][hv:Nth l t (.bool false)][hp:PutI l dst undef l'](h:wpStill P opsl.toArray w Q rest ⟨l'.toArray,ds⟩):wpStill P opsl.toArray w Q (⟨dst,op,oty,pos,after,some (gi,true)⟩::rest) ⟨l.toArray,ds⟩:=
 wpStill_step fun K hK=>by rw[if_neg (by rw[wanted_g hv.nth];simp)];refine hK _ ?_;rw[hp.put];exact h
theorem s_skipF[ho:NthO opsl gi t][hv:Nth l t (.bool true)][hp:PutI l dst undef l'](h:wpStill P opsl.toArray w Q rest ⟨l'.toArray,ds⟩):wpStill P opsl.toArray w Q (⟨dst,op,oty,pos,after,some (gi,false)⟩::rest) ⟨l.toArray,ds⟩:=
 wpStill_step fun K hK=>by rw[if_neg (by rw[wanted_g hv.nth];simp)];refine hK _ ?_;rw[hp.put];exact h
theorem s_load{g:Option (Nat×Bool)}{ty:TypeId}{x:Operand}{K:Act→Prop}(h:OWP P ⟨dst,.load ty x,oty,pos,after,g⟩ a w (fun a' w' =>w' =w∧K a') (fun _ _ _=>False)):OSP P ⟨dst,.load ty x,oty,pos,after,g⟩ a w K:=by
 refine osp_of ?_
 have h2:=owp_out h
 unfold Oper.wp execOp at h2
 unfold Oper.still execOp
 simp only[Sem.run_bind]at h2 ⊢
 cases hr:(Instr.loadAt ty (a.eval x)).run P w with
 |ok v w' =>
  rw[hr]at h2
  simp only[Result.andThen_ok,Sem.run_pure]at h2 ⊢
  exact h2
 |halt e w' =>
  rw[hr]at h2
  revert h2
  cases e<;>(intro h2;exact absurd h2 (by simp[Result.andThen,Oper.upon]))
theorem s_pure{K:Act→Prop}(h:o.still P a w K):OSP P o a w K:=osp_of h
end
section
variable {P:Program} {dst:Option Tmp} {oty:TypeId} {pos:String} {after:Array Edge} {g:Option (Nat×Bool)} {l l' :List Value} {ds:List Deferred} {Q:Exit→Act→World→Prop} {K:Act→World→Prop} {j:Nat} {ty:TypeId} {w:World} {c o:Nat} {v:Value}
theorem q_cellat[hx:Nth l j (.pointer (some ⟨c,o,none⟩))][hT:OneI P ty](hc:w.cell? ⟨c,o,none⟩=some v)[hd:PutI l dst v l'](h:K ⟨l'.toArray,ds⟩ w):OWP P ⟨dst,.load ty (.tmp j),oty,pos,after,g⟩ ⟨l.toArray,ds⟩ w K Q:=
 owp_of (op_cell rfl (eval_tmp hx.nth) hT.one hc (by rw[hd.put];exact h))
end
theorem SlF.rowAt{α:Type}{F:Nat→Prop}{k:Nat}{R:(Nat→Prop)→World→List Value→α→Prop}{ao:Option Addr}{n cap:Nat}{xs:List α}{w:World}{P:Program}{t e:Nat}(hX:SlF F w k R ao n cap xs)(hR:Firm R)(ht:P.underlying t=some (.slice e))(hs:SizeIs P e k){i:Nat}(hi:i<xs.length):
  ∃ c off row,(∀ wx,(Instr.indexAt t (.slice ao n cap) (.int .i64 i)).run P wx= .ok (.pointer (some ⟨c,off,none⟩)) wx)∧row.length=k∧R F w row xs[i]∧ ∀ wx,Below w.heap.size w wx→wx.rangeAt c off row∧R F wx row xs[i]:=by
 obtain⟨b,off,row,hix,hblt,hrow,hrr⟩:=hX.toR.index (P:=P) ht hs hi
 refine⟨b,off+i*k,row,hix,hrow.1,hrr,fun wx hb=>⟨fun j v hj=>?_,hR _ _ _ _ _ _ (Same.below hb) hrr⟩⟩
 rw[(bcell hb).1 _ _ hblt]
 exact hrow.range j v hj
theorem size_opd:SizeIs Tryz.prog 74 6:=fun w=>by kernel_rfl
theorem size_cnd:SizeIs Tryz.prog 76 14:=fun w=>by kernel_rfl
theorem size_pat:SizeIs Tryz.prog 78 18:=fun w=>by kernel_rfl
def cnd14(k:Int)(ao:Option Addr)(n cap:Nat)(l r:Opd):List Value:=[.int .i64 k,.slice ao n cap,.int .i64 l.kind,.int .i64 l.vkind,.int .i64 l.vint,.string l.vtext,.string l.var,.string l.field,.int .i64 r.kind,.int .i64 r.vkind,.int .i64 r.vint,.string r.vtext,.string r.var,.string r.field]
theorem CondF.open14{F:Nat→Prop}{w:World}{row:List Value}{c:Cond}(h:CondF F w row c): ∃ ao n cap,row=cnd14 c.kind ao n cap c.left c.right∧SlF F w 14 CondF ao n cap c.subs:=h.open
def pat18(p:Pat)(ao:Option Addr)(n cap:Nat):List Value:=[.string p.var,.string p.type,.int .i64 p.wher.kind,.slice ao n cap,.int .i64 p.wher.left.kind,.int .i64 p.wher.left.vkind,.int .i64 p.wher.left.vint,.string p.wher.left.vtext,.string p.wher.left.var,.string p.wher.left.field,.int .i64 p.wher.right.kind,.int .i64 p.wher.right.vkind,.int .i64 p.wher.right.vint,.string p.wher.right.vtext,.string p.wher.right.var,.string p.wher.right.field,.int .i64 p.window,.int .i64 p.n]
theorem patF.open18{F:Nat→Prop}{w:World}{row:List Value}{p:Pat}(h:patF F w row p): ∃ ao n cap,row=pat18 p ao n cap∧SlF F w 14 CondF ao n cap p.wher.subs:=by
 obtain⟨ao,n,cap,h1,h2⟩:=h
 exact⟨ao,n,cap,h1,h2⟩
theorem size_man:SizeIs Tryz.prog 88 20:=fun w=>by kernel_rfl
theorem size_lnk:SizeIs Tryz.prog 134 3:=fun w=>by kernel_rfl
theorem size_opt:SizeIs Tryz.prog 137 3:=fun w=>by kernel_rfl
theorem size_typ:SizeIs Tryz.prog 69 2:=fun w=>by kernel_rfl
theorem size_fld:SizeIs Tryz.prog 100 2:=fun w=>by kernel_rfl
theorem size_rul:SizeIs Tryz.prog 60 7:=fun w=>by kernel_rfl
class PartI (cs:List Value) (p m:Nat) (vs:outParam (List Value)):Prop where
 part:(cs.drop p).take m=vs
instance {cs:List Value}:PartI cs 0 0 []:=⟨rfl⟩
instance {c:Value}{cs vs:List Value}{m:Nat}[h:PartI cs 0 m vs]:PartI (c::cs) 0 (m+1) (c::vs):=⟨congrArg (c:: ·) h.part⟩
instance {c:Value}{cs vs:List Value}{p m:Nat}[h:PartI cs p m vs]:PartI (c::cs) (p+1) m vs:=⟨h.part⟩
section
variable {P:Program} {dst:Option Tmp} {oty:TypeId} {pos:String} {after:Array Edge} {g:Option (Nat×Bool)} {l l' :List Value} {ds:List Deferred} {Q:Exit→Act→World→Prop} {K:Act→World→Prop}
variable {At:PS→World→Prop} {b:Nat} {u w:World} {s:PS} {L:List Ent} {ty t:TypeId} {j z p m i:Nat} {cs vs:List Value}
theorem q_prt(M:Mem At b u w s L)[hx:Nth l j (.pointer (some ⟨z,p,none⟩))][hz:Has L z i cs t][hT:StI P ty m][hp:PartI cs p m vs][hd:PutI l dst (.agg vs.toArray) l'](hl:Nat.ble (p+m) cs.length=true)(h:K ⟨l'.toArray,ds⟩ w):OWP P ⟨dst,.load ty (.tmp j),oty,pos,after,g⟩ ⟨l.toArray,ds⟩ w K Q:=
 q_part M hl hp.part h
end
theorem tk{P:Program}{l:List Oper}{Q:Exit→Act→World→Prop}{md:Region.Mode}{oi:Oper}{v:Value}{fuel:Nat}{listed:Array Bool}{a:Act}{w:World}(i:Nat)(hi:l[i]?=some oi)
  (hB:(Region.noSelect l.toArray&&(Region.free md l.toArray listed i&&(Region.ready md l.toArray listed).contains i))=true)(hg:oi.guard=none)
  (hv: ∀ w,(execOp a.eval oi).run P w= .ok (.value v) w)
  (h:wpAny P md l.toArray Q fuel (listed.setIfInBounds i true) (a.put oi.dst v) w)(hQ: ∀ c a w,Q (.panic c) (a.put oi.dst v) w→Q (.panic c) a w:=by exact fun _ _ _ h=>h):wpAny P md l.toArray Q (fuel+1) listed a w:=by
 simp only[Bool.and_eq_true]at hB
 exact wpAny_take (get_l hi) hB.1 hB.2.1 hB.2.2 hQ (Or.inl ⟨wanted_none hg,hv⟩) h
structure St (n:Nat):Prop
theorem St.o:St 0:=⟨⟩
theorem St.add{n:Nat}(_:St n)(k:Nat):St (n+k):=⟨⟩
section
variable {P:Program} {l:List Oper} {Q:Exit→Act→World→Prop} {md:Region.Mode} {fuel:Nat} {listed:Array Bool} {a:Act} {w:World} {o1 o2 o3 o4 o5 o6:Oper}
abbrev RdO(P:Program)(l:List Oper)(Q:Exit→Act→World→Prop)(md:Region.Mode)(fuel:Nat)(listed:Array Bool)(a:Act)(w:World)(i:Nat)(o:Oper):Prop:=
 ∀ K:Act→World→Prop,(∀ a w,wpAny P md l.toArray Q fuel (listed.setIfInBounds i true) a w→K a w)→OWP P o a w K Q
theorem rd1(i1:Nat)(hr:Region.ready md l.toArray listed=[i1])(h1:l[i1]?=some o1)(g1:o1.guard=none)(k1:RdO P l Q md fuel listed a w i1 o1):wpAny P md l.toArray Q (fuel+1) listed a w:=
 wpAny_ready hr (by simp) (ready_cons (get_l h1) g1 k1 AllReady.nil)
theorem rd2(i1 i2:Nat)(hr:Region.ready md l.toArray listed=[i1,i2])(h1:l[i1]?=some o1)(g1:o1.guard=none)(k1:RdO P l Q md fuel listed a w i1 o1)(h2:l[i2]?=some o2)(g2:o2.guard=none)(k2:RdO P l Q md fuel listed a w i2 o2):wpAny P md l.toArray Q (fuel+1) listed a w:=
 wpAny_ready hr (by simp) (ready_cons (get_l h1) g1 k1 (ready_cons (get_l h2) g2 k2 AllReady.nil))
theorem rd3(i1 i2 i3:Nat)(hr:Region.ready md l.toArray listed=[i1,i2,i3])(h1:l[i1]?=some o1)(g1:o1.guard=none)(k1:RdO P l Q md fuel listed a w i1 o1)(h2:l[i2]?=some o2)(g2:o2.guard=none)(k2:RdO P l Q md fuel listed a w i2 o2)(h3:l[i3]?=some o3)(g3:o3.guard=none)(k3:RdO P l Q md fuel listed a w i3 o3):wpAny P md l.toArray Q (fuel+1) listed a w:=
 wpAny_ready hr (by simp) (ready_cons (get_l h1) g1 k1 (ready_cons (get_l h2) g2 k2 (ready_cons (get_l h3) g3 k3 AllReady.nil)))
end
end Go.Proofs.YtfahleafppfkaaaGreatDoor
/-
  Steps of a walk over own memory in one word each: what a load yields, what a store leaves, found by classes.
-/
namespace Go.Proofs.YtfahleafppfkaaaGreatDoor
open Go.RowKit
set_option linter.unusedVariables false
set_option linter.unusedSimpArgs false
section
variable {P:Program} {ops:Array Oper} {opsl:List Oper} {dst:Option Tmp} {op:Op} {oty:TypeId} {pos:String} {after:Array Edge} {l l' :List Value} {ds:List Deferred} {a:Act} {w:World} {rest:List Oper} {Q:Exit→Act→World→Prop}
theorem w_(h:OWP P ⟨dst,op,oty,pos,after,none⟩ a w (wpList P ops Q rest) Q):wpList P ops Q (⟨dst,op,oty,pos,after,none⟩::rest) a w:=by
 unfold wpList
 rw[if_pos (wanted_none rfl)]
 exact .inl (owp_out h)
theorem wg_{gi:Nat}{want:Bool}{t:Tmp}[ho:NthO opsl gi t][hv:Nth l t (.bool want)](h:OWP P ⟨dst,op,oty,pos,after,some (gi,want)⟩ ⟨l.toArray,ds⟩ w (wpList P opsl.toArray Q rest) Q):wpList P opsl.toArray Q (⟨dst,op,oty,pos,after,some (gi,want)⟩::rest) ⟨l.toArray,ds⟩ w:=by
 have hw:Region.wanted (⟨dst,op,oty,pos,after,some (gi,want)⟩:Oper) (yielded opsl.toArray l.toArray)=true:=by
  have h1:=hv.nth
  obtain⟨o',h2,h3⟩:=ho.at_
  simp only[Region.wanted,yielded,List.getElem?_toArray,h2,Option.bind_some,h3,h1]
  simp
 unfold wpList
 rw[if_pos hw]
 exact .inl (owp_out h)
end
class LenI (cs:List Value) (m:Nat):Prop where
 len:cs.length=m
instance :LenI [] 0:=⟨rfl⟩
instance {c:Value}{cs:List Value}{m:Nat}[h:LenI cs m]:LenI (c::cs) (m+1):=⟨by simp[h.len]⟩
class OneC (v:Value):Prop where
 one:v.oneCell' =true
instance {k:IntKind}{i:Int}:OneC (.int k i):=⟨rfl⟩
instance {s:ByteArray}:OneC (.string s):=⟨rfl⟩
instance {b:Bool}:OneC (.bool b):=⟨rfl⟩
instance {a:Option Addr}{n c:Nat}:OneC (.slice a n c):=⟨rfl⟩
instance {a:Option Addr}:OneC (.pointer a):=⟨rfl⟩
instance {z:Option Nat}:OneC (.map z):=⟨rfl⟩
instance {f:Fn}{a b:Array Value}:OneC (.func f a b):=⟨rfl⟩
class OnesC (vs:List Value):Prop where
 ones: ∀ v∈vs,v.oneCell' =true
instance :OnesC []:=⟨fun v h=>by cases h⟩
instance {v:Value}{vs:List Value}[h:OneC v][hs:OnesC vs]:OnesC (v::vs):=⟨fun x hx=>by
 rcases List.mem_cons.1 hx with rfl|hx
 ·exact h.one
 ·exact hs.ones x hx⟩
class PatchI (cs:List Value) (p:Nat) (vs:List Value) (cs' :outParam (List Value)):Prop where
 le:p+vs.length≤cs.length
 out:laid cs p vs=cs'
instance {cs:List Value}:PatchI cs 0 [] cs:=⟨by simp,by simp[laid]⟩
instance {c v:Value}{cs vs cs' :List Value}[h:PatchI cs 0 vs cs']:PatchI (c::cs) 0 (v::vs) (v::cs'):=⟨by have:=h.le;simp at this ⊢;omega,by have:=h.out;simpa[laid]using this⟩
instance {c:Value}{cs vs cs' :List Value}{p:Nat}[h:PatchI cs p vs cs']:PatchI (c::cs) (p+1) vs (c::cs'):=⟨by have:=h.le;simp at this ⊢;omega,by
 have:=h.out
 unfold laid at this ⊢
 rw[show p+1+vs.length=(p+vs.length)+1 by omega]
 simp[this]⟩
class SetE (L:List Ent) (i:Nat) (e:Ent) (L' :outParam (List Ent)):Prop where
 set_:L.set i e=L'
instance {d e:Ent}{L:List Ent}:SetE (d::L) 0 e (e::L):=⟨rfl⟩
instance {d e:Ent}{L L' :List Ent}{i:Nat}[h:SetE L i e L']:SetE (d::L) (i+1) e (d::L'):=⟨congrArg (d:: ·) h.set_⟩
class LdI (P:Program) (L:List Ent) (ty:TypeId) (z p:Nat) (v:outParam Value):Prop where
 ld: ∀ {At:PS→World→Prop} {b:Nat} {u w:World} {s:PS} {dst:Option Tmp} {oty:TypeId} {pos:String} {after:Array Edge} {g:Option (Nat×Bool)} {l l' :List Value} {ds:List Deferred} {Q:Exit→Act→World→Prop} {K:Act→World→Prop} {j:Nat},
  Mem At b u w s L→Nth l j (.pointer (some ⟨z,p,none⟩))→PutI l dst v l' →K ⟨l'.toArray,ds⟩ w→OWP P ⟨dst,.load ty (.tmp j),oty,pos,after,g⟩ ⟨l.toArray,ds⟩ w K Q
class PartJ (cs:List Value) (p m:Nat) (vs:outParam (List Value)):Prop where
 part:(cs.drop p).take m=vs
 le:p+m≤cs.length
instance {cs:List Value}:PartJ cs 0 0 []:=⟨rfl,by simp⟩
instance {c:Value}{cs vs:List Value}{m:Nat}[h:PartJ cs 0 m vs]:PartJ (c::cs) 0 (m+1) (c::vs):=⟨congrArg (c:: ·) h.part,by have:=h.le;simp at this ⊢;omega⟩
instance {c:Value}{cs vs:List Value}{p m:Nat}[h:PartJ cs p m vs]:PartJ (c::cs) (p+1) m vs:=⟨h.part,by have:=h.le;simp at this ⊢;omega⟩
theorem ble_of{a b:Nat}(h:a≤b):Nat.ble a b=true:=Nat.ble_eq_true_of_le h
instance {P:Program}{L:List Ent}{ty t:TypeId}{z p m i:Nat}{cs vs:List Value}[hz:Has L z i cs t][hT:StI P ty m][hp:PartJ cs p m vs]:LdI P L ty z p (.agg vs.toArray):=
 ⟨fun M hx hd h=>by haveI:=hx;haveI:=hd;exact q_part M (ble_of hp.le) hp.part h⟩
instance {P:Program}{L:List Ent}{ty t:TypeId}{z p i:Nat}{cs:List Value}{v:Value}[hz:Has L z i cs t][hT:OneI P ty][hv:Nth cs p v]:LdI P L ty z p v:=
 ⟨fun M hx hd h=>by haveI:=hx;haveI:=hd;exact q_get M hv.nth h⟩
theorem laid_set(cs:List Value)(o:Nat)(v:Value)(h:o<cs.length):laid cs o [v]=cs.set o v:=by
 unfold laid
 rw[List.set_eq_take_append_cons_drop,if_pos h]
 simp
class StoI (P:Program) (L:List Ent) (ty:TypeId) (z p:Nat) (v:Value) (L' :outParam (List Ent)):Prop where
 sto: ∀ {At:PS→World→Prop} {b:Nat} {u w:World} {s:PS} {dst:Option Tmp} {oty:TypeId} {pos:String} {after:Array Edge} {g:Option (Nat×Bool)} {l l' :List Value} {ds:List Deferred} {Q:Exit→Act→World→Prop} {K:Act→World→Prop} {j:Nat} {y:Operand},
  Mem At b u w s L→Nth l j (.pointer (some ⟨z,p,none⟩))→Act.eval ⟨l.toArray,ds⟩ y=v→PutI l dst undef l' →(∀ w',Mem At b u w' s L' →K ⟨l'.toArray,ds⟩ w')→OWP P ⟨dst,.store ty (.tmp j) y,oty,pos,after,g⟩ ⟨l.toArray,ds⟩ w K Q
instance {P:Program}{L L' :List Ent}{ty t:TypeId}{z p m i:Nat}{cs cs' vs:List Value}[hz:Has L z i cs t][hT:StI P ty m][hm:LenI vs m][h1:OnesC vs][hp:PatchI cs p vs cs'][hs:SetE L i (own z cs' t) L']:StoI P L ty z p (.agg vs.toArray) L' :=
 ⟨fun M hx hy hd h=>owp_of (op_inT M ty _ _ rfl z p vs (eval_tmp hx.nth) hy hz.at_ hT.st hm.len (by have:=hp.le;rw[hm.len]at this;exact this) h1.ones cs' hp.out (fun w' M' =>by rw[hd.put];exact h w' (hs.set_▸M')))⟩
instance {P:Program}{L L' :List Ent}{ty t:TypeId}{z p i:Nat}{cs cs' :List Value}{v:Value}[hz:Has L z i cs t][hT:OneI P ty][h1:OneC v][hp:PatchI cs p [v] cs'][hs:SetE L i (own z cs' t) L']:StoI P L ty z p v L' :=
 ⟨fun M hx hy hd h=>owp_of (op_setT M ty _ _ rfl z p v (eval_tmp hx.nth) hy hz.at_ hT.one (by have:=hp.le;simp at this;omega) h1.one (fun w' M' =>by
  have hl:p<cs.length:=by have:=hp.le;simp at this;omega
  rw[hd.put]
  exact h w' (by rw[←laid_set cs p v hl,hp.out,hs.set_]at M';exact M')))⟩
section
variable {P:Program} {ops:Array Oper} {opsl:List Oper} {dst:Option Tmp} {oty:TypeId} {pos:String} {after:Array Edge} {l l' :List Value} {ds:List Deferred} {rest:List Oper} {Q:Exit→Act→World→Prop}
variable {At:PS→World→Prop} {b:Nat} {u w:World} {s:PS} {L L' :List Ent} {ty j j' z p m:Nat} {v:Value} {cs vs:List Value}
theorem wl(M:Mem At b u w s L)[hx:Nth l j (.pointer (some ⟨z,p,none⟩))][hL:LdI P L ty z p v][hd:PutI l dst v l'](h:wpList P ops Q rest ⟨l'.toArray,ds⟩ w):wpList P ops Q (⟨dst,.load ty (.tmp j),oty,pos,after,none⟩::rest) ⟨l.toArray,ds⟩ w:=w_ (hL.ld M hx hd h)
theorem wlg(M:Mem At b u w s L){gi:Nat}{want:Bool}{t:Tmp}[ho:NthO opsl gi t][hv:Nth l t (.bool want)][hx:Nth l j (.pointer (some ⟨z,p,none⟩))][hL:LdI P L ty z p v][hd:PutI l dst v l'](h:wpList P opsl.toArray Q rest ⟨l'.toArray,ds⟩ w):wpList P opsl.toArray Q (⟨dst,.load ty (.tmp j),oty,pos,after,some (gi,want)⟩::rest) ⟨l.toArray,ds⟩ w:=wg_ (hL.ld M hx hd h)
class EvI (l:List Value) (y:Operand) (v:outParam Value):Prop where
 ev: ∀ ds,Act.eval ⟨l.toArray,ds⟩ y=v
instance {j:Nat}{v:Value}{l:List Value}[h:Nth l j v]:EvI l (.tmp j) v:=⟨fun _=>eval_tmp h.nth⟩
instance {v:Value}{l:List Value}:EvI l (.const v) v:=⟨fun _=>rfl⟩
class StQ (P:Program) (opsl:List Oper) (o:Oper) (l:List Value) (L:List Ent) (l' :outParam (List Value)):Prop where
 st: ∀ {At:PS→World→Prop} {b:Nat} {u w:World} {s:PS} {ds:List Deferred} {Q:Exit→Act→World→Prop} {rest:List Oper},
  Mem At b u w s L→wpList P opsl.toArray Q rest ⟨l'.toArray,ds⟩ w→wpList P opsl.toArray Q (o::rest) ⟨l.toArray,ds⟩ w
instance {opsl:List Oper}[hx:Nth l j (.pointer (some ⟨z,p,none⟩))][hL:LdI P L ty z p v][hd:PutI l dst v l']:StQ P opsl ⟨dst,.load ty (.tmp j),oty,pos,after,none⟩ l L l' :=
 ⟨fun M h=>by haveI:=hx;haveI:=hL;haveI:=hd;exact wl M h⟩
instance {opsl:List Oper}{gi:Nat}{want:Bool}{t:Tmp}[ho:NthO opsl gi t][hv:Nth l t (.bool want)][hx:Nth l j (.pointer (some ⟨z,p,none⟩))][hL:LdI P L ty z p v][hd:PutI l dst v l']:StQ P opsl ⟨dst,.load ty (.tmp j),oty,pos,after,some (gi,want)⟩ l L l' :=
 ⟨fun M h=>by haveI:=ho;haveI:=hv;haveI:=hx;haveI:=hL;haveI:=hd;exact wlg M h⟩
instance {opsl:List Oper}{op:Op}{gi:Nat}{t:Tmp}[ho:NthO opsl gi t][hv:Nth l t (.bool false)][hd:PutI l dst undef l']:StQ P opsl ⟨dst,op,oty,pos,after,some (gi,true)⟩ l L l' :=
 ⟨fun M h=>by haveI:=ho;haveI:=hv;haveI:=hd;exact o_skipT h⟩
instance {opsl:List Oper}{op:Op}{gi:Nat}{t:Tmp}[ho:NthO opsl gi t][hv:Nth l t (.bool true)][hd:PutI l dst undef l']:StQ P opsl ⟨dst,op,oty,pos,after,some (gi,false)⟩ l L l' :=
 ⟨fun M h=>by haveI:=ho;haveI:=hv;haveI:=hd;exact o_skipF h⟩
theorem wq{opsl:List Oper}{o:Oper}(M:Mem At b u w s L)[h:StQ P opsl o l L l'](k:wpList P opsl.toArray Q rest ⟨l'.toArray,ds⟩ w):wpList P opsl.toArray Q (o::rest) ⟨l.toArray,ds⟩ w:=h.st M k
theorem wS{y:Operand}(M:Mem At b u w s L)[hx:Nth l j (.pointer (some ⟨z,p,none⟩))][hy:EvI l y v][hS:StoI P L ty z p v L'][hd:PutI l dst undef l'](h: ∀ w',Mem At b u w' s L' →wpList P ops Q rest ⟨l'.toArray,ds⟩ w'):wpList P ops Q (⟨dst,.store ty (.tmp j) y,oty,pos,after,none⟩::rest) ⟨l.toArray,ds⟩ w:=w_ (hS.sto M hx (hy.ev ds) hd h)
theorem wV(M:Mem At b u w s L)[hT:ZeI P ty cs]{F:Nat→List Value}[hd: ∀ z,PutI l dst (.pointer (some ⟨z,0,none⟩)) (F z)](h: ∀ z w',Mem At b u w' s (own z cs ty::L)→wpList P ops Q rest ⟨(F z).toArray,ds⟩ w'):wpList P ops Q (⟨dst,.alloc ty,oty,pos,after,none⟩::rest) ⟨l.toArray,ds⟩ w:=w_ (q_var M h)
theorem wR(M:Mem At b u w s L){e k:Nat}[hy:Nth l j (.agg vs.toArray)][hT:RowI P ty e k][hl:LenI vs k]{F:Nat→List Value}[hd: ∀ q,PutI l dst (.slice (some ⟨q,0,none⟩) 1 1) (F q)](h: ∀ q w',Mem At b u w' s (own q vs e::L)→wpList P ops Q rest ⟨(F q).toArray,ds⟩ w'):wpList P ops Q (⟨dst,.buildSlice ty 1 #[(0,.tmp j)],oty,pos,after,none⟩::rest) ⟨l.toArray,ds⟩ w:=w_ (q_row M (by rw[hl.len];exact Nat.beq_refl k) h)
theorem wB(M:Mem At b u w s L)[hy:Nth l j (.agg vs.toArray)]{F:Nat→List Value}[hd: ∀ z,PutI l dst (.pointer (some ⟨z,0,none⟩)) (F z)](h: ∀ z w',Mem At b u w' s (own z vs ty::L)→wpList P ops Q rest ⟨(F z).toArray,ds⟩ w'):wpList P ops Q (⟨dst,.box ty (.tmp j),oty,pos,after,none⟩::rest) ⟨l.toArray,ds⟩ w:=w_ (q_box M (fun z w' _ _ M' =>h z w' M'))
theorem wC{c o:Nat}(hc:w.cell? ⟨c,o,none⟩=some v)[hx:Nth l j (.pointer (some ⟨c,o,none⟩))][hT:OneI P ty][hd:PutI l dst v l'](h:wpList P ops Q rest ⟨l'.toArray,ds⟩ w):wpList P ops Q (⟨dst,.load ty (.tmp j),oty,pos,after,none⟩::rest) ⟨l.toArray,ds⟩ w:=w_ (q_cellat hc h)
theorem wA(hr:w.rangeAt z p cs)[hx:Nth l j (.pointer (some ⟨z,p,none⟩))][hT:StI P ty m][hl:LenI cs m][hd:PutI l dst (.agg cs.toArray) l'](h:wpList P ops Q rest ⟨l'.toArray,ds⟩ w):wpList P ops Q (⟨dst,.load ty (.tmp j),oty,pos,after,none⟩::rest) ⟨l.toArray,ds⟩ w:=w_ (q_at hr (by rw[hl.len];exact Nat.beq_refl m) h)
end
end Go.Proofs.YtfahleafppfkaaaGreatDoor
/-
  Books checked, in plain Lean: operands, conditions, patterns, links, rules, books.
-/
namespace Go.Proofs.YtfahleafppfkaaaGreatDoor
open Go.RowKit
set_option linter.unusedVariables false
set_option linter.unusedSimpArgs false
def emS(s:ByteArray):Bool:=s.toList.isEmpty
def inS(l:List ByteArray)(s:ByteArray):Bool:=l.any (fun x=>sameS x s)
def pat0:Pat:=⟨ByteArray.empty,ByteArray.empty,cond0,0,0⟩
def typ0:Typ:=⟨ByteArray.empty,[]⟩
def typI(ts:List Typ)(n:ByteArray):Nat:=ts.findIdx (fun t=>sameS t.name n)
def patI(l:List Pat)(n:ByteArray):Nat:=l.findIdx (fun p=>sameS p.var n)
def typAt(ts:List Typ)(n:ByteArray):Typ:=ts.getD (typI ts n) typ0
def freeE(s:ByteArray):Int:=if nameE s=0 then(if keptB s=true then 4 else 0)else nameE s
def valZ(o:Opd):Bool:=o.vkind==0&&o.vint==0&&emS o.vtext
def opdZ(o:Opd):Bool:=o.kind==0&&valZ o&&emS o.var&&emS o.field
def opdBad(o:Opd):Bool:=(o.kind !=3&&!emS o.var)||(o.kind==1&&!emS o.field)||(o.kind !=1&&!valZ o)
section
variable (ts:List Typ) (known:List Pat) (own:Typ)
def sideT(o:Opd):Typ:=if o.kind=3 then typAt ts (known.getD (patI known o.var) pat0).type else own
def sideE(o:Opd):Int:=
 if ¬ (1≤o.kind∧o.kind≤3)then 3
 else if o.kind=3∧known.length≤patI known o.var then 6
 else if opdBad o=true then 4
 else if o.kind=1 then valE ⟨o.vkind,o.vint,o.vtext⟩
 else if fldAt (sideT ts known own o).fields o.field<(sideT ts known own o).fields.length then 0 else 6
def sideK(o:Opd):Int:=if o.kind=1 then o.vkind else((sideT ts known own o).fields.getD (fldAt (sideT ts known own o).fields o.field) default).kind
def testE(c:Cond):Int:=
 if c.subs.length≠0 then 4
 else if sideE ts known own c.left≠0 then sideE ts known own c.left
 else if sideE ts known own c.right≠0 then sideE ts known own c.right
 else if sideK ts known own c.left=sideK ts known own c.right then 0 else 13
def condL(g:Cond→Int×Int):List Cond→Int→Int×Int
 |[],n=>(n,0)
 |c::r,n=>if(g c).2≠0 then(0,(g c).2)else if 12<n+(g c).1 then(0,1)else condL g r (n+(g c).1)
def condForm(c:Cond):Bool:=!opdZ c.left||!opdZ c.right||(c.kind==3&&decide (c.subs.length≠1))||(c.kind !=3&&decide (c.subs.length<2))
def condR:Nat→Cond→Int×Int
 |0,c=>if 1≤c.kind∧c.kind≤7 then(0,14)else(0,3)
 |f+1,c=>
  if 1≤c.kind∧c.kind≤7 then
   (if 4≤c.kind then(1,testE ts known own c)else if condForm c=true then(0,4)else condL (condR f) c.subs 0)
  else(0,3)
end
def noC(c:Cond):Bool:=c.kind==0&&decide (c.subs.length=0)&&opdZ c.left&&opdZ c.right
def winE(part:Nat)(p:Pat):Int:=
 if(part=0∧ ¬ (0≤p.window∧p.window≤2))∨(part=1∧p.window≠0)∨(part=2∧p.window≠1)∨(p.window=0∧p.n≠0)then 4
 else if(p.window=1∧ ¬ (0≤p.n∧p.n≤1073741824))∨(p.window=2∧ ¬ (1≤p.n∧p.n≤120))then 2 else 0
def patE(ts:List Typ)(known:List Pat)(ahead:List ByteArray)(p:Pat)(part:Nat):Int:=
 if freeE p.var≠0 then freeE p.var
 else if inS ahead p.var=true then 7
 else if ts.length≤typI ts p.type then 6
 else if winE part p≠0 then winE part p
 else if noC p.wher=true then 0
 else(condR ts known (typAt ts p.type) 8 p.wher).2
def hasP(l:List Pat)(n:ByteArray):Bool:=decide (patI l n<l.length)
def linkE(x:Rul)(k:Lnk):Int:=
 if(!hasP x.whens k.left&&!hasP x.nots k.left)||(!hasP x.whens k.right&&!hasP x.nots k.right)then 6
 else if sameS k.left k.right||(!hasP x.whens k.left&&!hasP x.whens k.right)then 4
 else if k.opts.length<1∨6<k.opts.length then 1
 else firstN (fun i=>optE (k.opts.getD i ⟨0,0,0⟩).rel (k.opts.getD i ⟨0,0,0⟩).lo (k.opts.getD i ⟨0,0,0⟩).hi) k.opts.length
def sumE(t:Typ)(field:ByteArray):Int:=
 if emS field=true then 0 else if fldAt t.fields field<t.fields.length then(if(t.fields.getD (fldAt t.fields field) default).kind=1 then 0 else 13)else 6
def emitE(ts:List Typ)(x:Rul):Int:=
 if emS x.etype=true then(if x.evals.length=0 then 0 else 4)
 else if ts.length≤typI ts x.etype then 6
 else if x.evals.length≠(typAt ts x.etype).fields.length then 13
 else firstN (fun i=>if(x.evals.getD i opd0).kind=2 then 4
  else if sideE ts x.whens (typAt ts x.etype) (x.evals.getD i opd0)≠0 then sideE ts x.whens (typAt ts x.etype) (x.evals.getD i opd0)
  else if sideK ts x.whens (typAt ts x.etype) (x.evals.getD i opd0)=((typAt ts x.etype).fields.getD i default).kind then 0 else 13) x.evals.length
def vars(l:List Pat):List ByteArray:=l.map Pat.var
def man0:Many:=⟨0,ByteArray.empty,pat0⟩
def whenE(ts:List Typ)(x:Rul)(i:Nat):Int:=patE ts (x.whens.take i) (vars (x.whens.take i)) (x.whens.getD i pat0) 0
def notE(ts:List Typ)(x:Rul)(i:Nat):Int:=patE ts x.whens (vars x.whens++vars (x.nots.take i)) (x.nots.getD i pat0) 1
def manyE(ts:List Typ)(x:Rul)(i:Nat):Int:=
 if(emS (x.manies.getD i man0).field=true∧ ¬ (1≤(x.manies.getD i man0).count∧(x.manies.getD i man0).count≤120))∨ ¬ (0≤(x.manies.getD i man0).count∧(x.manies.getD i man0).count≤1125899906842624)then 2
 else if patE ts x.whens (vars x.whens++vars x.nots++vars ((x.manies.take i).map Many.pat)) (x.manies.getD i man0).pat 2≠0 then patE ts x.whens (vars x.whens++vars x.nots++vars ((x.manies.take i).map Many.pat)) (x.manies.getD i man0).pat 2
 else sumE (typAt ts (x.manies.getD i man0).pat.type) (x.manies.getD i man0).field
def lnk0:Lnk:=⟨ByteArray.empty,[],ByteArray.empty⟩
def sizeB(x:Rul):Bool:=decide (x.whens.length<1)||decide (3<x.whens.length)||decide (2<x.nots.length)||decide (2<x.manies.length)||decide (6<x.links.length)
def ruleE(ts:List Typ)(x:Rul):Int:=
 if freeE x.name≠0 then freeE x.name
 else if sizeB x=true then 1
 else if firstN (whenE ts x) x.whens.length≠0 then firstN (whenE ts x) x.whens.length
 else if firstN (notE ts x) x.nots.length≠0 then firstN (notE ts x) x.nots.length
 else if firstN (manyE ts x) x.manies.length≠0 then firstN (manyE ts x) x.manies.length
 else if firstN (fun i=>linkE x (x.links.getD i lnk0)) x.links.length≠0 then firstN (fun i=>linkE x (x.links.getD i lnk0)) x.links.length
 else emitE ts x
def speaks(x:Rul)(n:ByteArray):Bool:=x.whens.any (fun p=>sameS p.type n)||x.nots.any (fun p=>sameS p.type n)||x.manies.any (fun m=>sameS m.pat.type n)
def comesB(rs:List Rul):Nat→ByteArray→ByteArray→Bool
 |0,_,_=>false
 |k+1,to,fr=>rs.any (fun x=>!emS x.etype&&speaks x fr&&(sameS x.etype to||comesB rs k to x.etype))
def endB(b:Bok):Bool:=b.types.any (fun t=>comesB b.rules b.rules.length t.name t.name)
def btypE(b:Bok)(i:Nat):Int:=
 if typE (b.types.getD i typ0).name (b.types.getD i typ0).fields≠0 then typE (b.types.getD i typ0).name (b.types.getD i typ0).fields
 else if keptB (b.types.getD i typ0).name=true∨(b.types.getD i typ0).fields.any (fun f=>keptB f.name)=true then 4
 else if typI (b.types.take i) (b.types.getD i typ0).name<i then 7 else 0
def rul00:Rul:=⟨ByteArray.empty,[],[],[],[],ByteArray.empty,[]⟩
def brulE(b:Bok)(i:Nat):Int:=
 if ruleE b.types (b.rules.getD i rul00)≠0 then ruleE b.types (b.rules.getD i rul00)
 else if(b.rules.take i).any (fun y=>sameS y.name (b.rules.getD i rul00).name)=true then 7 else 0
def bookE(b:Bok):Int:=
 if 6<b.types.length∨5<b.rules.length then 1
 else if firstN (btypE b) b.types.length≠0 then firstN (btypE b) b.types.length
 else if firstN (brulE b) b.rules.length≠0 then firstN (brulE b) b.rules.length
 else if endB b=true then 15 else 0
end Go.Proofs.YtfahleafppfkaaaGreatDoor
/-
  The walks of the reference's BookFault, first part: names, places.
-/
namespace Go.Proofs.YtfahleafppfkaaaGreatDoor
open Go.RowKit
set_option linter.unusedVariables false
set_option linter.unusedSimpArgs false
def NoB{α:Type}(l:List α)(p:α→Bool)(k:Nat):Prop:= ∀ j (h:j<l.length),j<k→p l[j]=false
theorem noB_zero{α:Type}(l:List α)(p:α→Bool):NoB l p 0:=fun j _ h=>absurd h (Nat.not_lt_zero j)
theorem noB_succ{α:Type}{l:List α}{p:α→Bool}{k:Nat}(h:NoB l p k)(hk:k<l.length)(hp:p l[k]=false):NoB l p (k+1):=fun j hj hjk=>by
 rcases Nat.lt_succ_iff_lt_or_eq.1 hjk with h' |rfl
 ·exact h j hj h'
 ·exact hp
theorem noB_at{α:Type}{l:List α}{p:α→Bool}{k:Nat}(h:NoB l p k)(hk:k<l.length)(hp:p l[k]=true):l.findIdx p=k:=by
 rw[List.findIdx_eq hk]
 exact⟨hp,fun j hj=>h j (by omega) hj⟩
theorem noB_none{α:Type}{l:List α}{p:α→Bool}(h:NoB l p l.length):l.findIdx p=l.length:=by
 rw[List.findIdx_eq_length]
 intro x hx
 obtain⟨j,hj,rfl⟩:=List.mem_iff_getElem.1 hx
 exact h j hj hj
def placeV(i n:Nat):Int:=if i<n then(i:Int)else -1
theorem place_at{α:Type}{l:List α}{p:α→Bool}{k:Nat}(h:NoB l p k)(hk:k<l.length)(hp:p l[k]=true):placeV (l.findIdx p) l.length=k:=by
 rw[noB_at h hk hp];unfold placeV;rw[if_pos hk]
theorem place_none{α:Type}{l:List α}{p:α→Bool}(h:NoB l p l.length):placeV (l.findIdx p) l.length= -1:=by
 rw[noB_none h];unfold placeV;rw[if_neg (by omega)]
set_option maxHeartbeats 2000000 in
theorem freeName_any(s:ByteArray)(w:World)(hs:s.size≤maxLen):
  Calls Tryz.prog 108 #[.string s] w fun e w' =>e= .returned (.int .i64 (freeE s))∧Below w.heap.size w w' :=by
 have HN:=Lib.hid (fun wx=>nameFault_any s wx hs)
 have HK:Hid (∀ wx,Calls Tryz.prog 65 #[.string s] wx fun e w' =>e= .returned (.bool (keptB s))∧Below wx.heap.size wx w'):=fun wx=>by rw[kept_same];exact keptWord_any s wx
 by_cases h0:nameE s=0
 ·have HF:Hid (freeE s=if keptB s=true then 4 else 0):=by show _=_;unfold freeE;rw[if_pos h0]
  rw[HF.out]
  rw[h0]at HN
  generalize keptB s=k at HK
  clear h0 HF hs
  cases k
  ·go_enter Tryz.func108,Tryz.ntmps108
   go_wp2_with (first|(go_at_call 106;refine(HN.out _).mono ?_;rintro e w1 ⟨rfl,hb1⟩)|(go_at_call 65;refine(HK.out _).mono ?_;rintro e w2 ⟨rfl,hb2⟩))
   go_ret
   exact⟨rfl,(by repeat(assumption))⟩
  ·go_enter Tryz.func108,Tryz.ntmps108
   go_wp2_with (first|(go_at_call 106;refine(HN.out _).mono ?_;rintro e w1 ⟨rfl,hb1⟩)|(go_at_call 65;refine(HK.out _).mono ?_;rintro e w2 ⟨rfl,hb2⟩))
   go_ret
   exact⟨rfl,(by repeat(assumption))⟩
 ·have HF:Hid (freeE s=nameE s):=by show _=_;unfold freeE;rw[if_neg h0]
  rw[HF.out]
  have h0b:(nameE s==0)=false:=by simpa using h0
  clear h0 HF hs
  generalize nameE s=q at HN h0b
  go_enter Tryz.func108,Tryz.ntmps108
  go_wp2_with (go_at_call 106;refine(HN.out _).mono ?_;rintro e w1 ⟨rfl,hb1⟩)
  go_ret
  exact⟨rfl,(by repeat(exact Below.refl _ _))⟩
section
variable {g:Nat} {F:Nat→Prop} {ao:Option Addr} {n cap:Nat} {w:World}
set_option maxHeartbeats 2000000 in
theorem typeNamed_any(hg:g<w.heap.size){ts:List Typ}(hX:SlF F w 2 typF ao n cap ts)(nm:ByteArray):
  Calls Tryz.prog 66 #[.slice ao n cap,.string nm] w fun e w' =>e= .returned (.int .i64 (placeV (typI ts nm) ts.length))∧Below w.heap.size w w' :=by
 have NL:Hid (n=ts.length):=hX.len
 have hle:=hX.le
 have M:=Mem.begin hg ⟨0,0⟩
 have HX:=Lib.hid hX
 clear hX hg
 go_enter Tryz.func66,Tryz.ntmps66
 go_wp2_with fail
 go_loopw [5] (fun i wr=> ∃ k:Nat,k≤n∧i= .int .i64 k∧Mem (StaysB g w) g w wr ⟨0,0⟩ []∧Hid (NoB ts (fun t=>sameS t.name nm) k)) (fun i _=>n - (intOf i).toNat)
 case atStart=>exact⟨0,by omega,rfl,M,noB_zero _ _⟩
 case round=>
  clear M
  obtain⟨k,hk,rfl,M,HB⟩:=hrel
  by_cases hlt:k<n
  ·have hkl:k<ts.length:=by have:=NL.out;omega
   obtain⟨ca,oa,rowa,hixa, -,hrra,hwa⟩:=SlF.rowAt (P:=Tryz.prog) HX.out typF_firm Tryz.underlying22 size_typ (i:=k) hkl
   obtain⟨p1,q1,s1,ea,u1⟩:=hrra
   subst ea
   have HA0:Hid (∀ wx,Below w.heap.size w wx→wx.cell? ⟨ca,oa,none⟩=some (.string ts[k].name)):=fun wx hb=>(hwa wx hb).1 0 _ rfl
   have HP:Hid (∀ b,sameS ts[k].name nm=b→(ts[k].name.toList==nm.toList)=b):=fun b h=>h
   have HS:Hid (sameS ts[k].name nm=true→placeV (typI ts nm) ts.length=k):=fun h=>place_at HB.out hkl h
   have HT:Hid (sameS ts[k].name nm=false→NoB ts (fun t=>sameS t.name nm) (k+1)):=fun h=>noB_succ HB.out hkl h
   clear hwa u1 HB
   generalize ts[k].name=tn at HA0 HP HS HT
   cases hsm:sameS tn nm with
   |true=>
    have hq:=HP.out _ hsm
    have HV:=Lib.hid (HS.out hsm)
    clear HP HS HT hsm
    go_wp2_with (with_reducible refine wC (HA0.out _ M.new) ?_)
    go_ret
    rw[HV.out]
    exact⟨rfl,M.new⟩
   |false=>
    have hq:=HP.out _ hsm
    have HV:=Lib.hid (HT.out hsm)
    clear HP HS HT hsm
    go_wp2_with (with_reducible refine wC (HA0.out _ M.new) ?_)
    go_roundw
    case rel=>exact⟨k+1,by omega,by go_num,M,HV⟩
    case measure=>simp[intOf];omega
  ·have HV:Hid (placeV (typI ts nm) ts.length= -1):=by
    have e:k=ts.length:=by have:=NL.out;omega
    exact place_none (e▸HB.out)
   go_wp2
   go_ret
   rw[HV.out]
   exact⟨rfl,M.new⟩
set_option maxHeartbeats 2000000 in
theorem patternNamed_any(hg:g<w.heap.size){ts:List Pat}(hX:SlF F w 18 patF ao n cap ts)(nm:ByteArray):
  Calls Tryz.prog 81 #[.slice ao n cap,.string nm] w fun e w' =>e= .returned (.int .i64 (placeV (patI ts nm) ts.length))∧Below w.heap.size w w' :=by
 have NL:Hid (n=ts.length):=hX.len
 have hle:=hX.le
 have M:=Mem.begin hg ⟨0,0⟩
 have HX:=Lib.hid hX
 clear hX hg
 go_enter Tryz.func81,Tryz.ntmps81
 go_wp2_with fail
 go_loopw [5] (fun i wr=> ∃ k:Nat,k≤n∧i= .int .i64 k∧Mem (StaysB g w) g w wr ⟨0,0⟩ []∧Hid (NoB ts (fun t=>sameS t.var nm) k)) (fun i _=>n - (intOf i).toNat)
 case atStart=>exact⟨0,by omega,rfl,M,noB_zero _ _⟩
 case round=>
  clear M
  obtain⟨k,hk,rfl,M,HB⟩:=hrel
  by_cases hlt:k<n
  ·have hkl:k<ts.length:=by have:=NL.out;omega
   obtain⟨ca,oa,rowa,hixa, -,hrra,hwa⟩:=SlF.rowAt (P:=Tryz.prog) HX.out patF_firm Tryz.underlying53 size_pat (i:=k) hkl
   obtain⟨p1,q1,s1,ea,u1⟩:=hrra
   subst ea
   have HA0:Hid (∀ wx,Below w.heap.size w wx→wx.cell? ⟨ca,oa,none⟩=some (.string ts[k].var)):=fun wx hb=>(hwa wx hb).1 0 _ rfl
   have HP:Hid (∀ b,sameS ts[k].var nm=b→(ts[k].var.toList==nm.toList)=b):=fun b h=>h
   have HS:Hid (sameS ts[k].var nm=true→placeV (patI ts nm) ts.length=k):=fun h=>place_at HB.out hkl h
   have HT:Hid (sameS ts[k].var nm=false→NoB ts (fun t=>sameS t.var nm) (k+1)):=fun h=>noB_succ HB.out hkl h
   clear hwa u1 HB
   generalize ts[k].var=tn at HA0 HP HS HT
   cases hsm:sameS tn nm with
   |true=>
    have hq:=HP.out _ hsm
    have HV:=Lib.hid (HS.out hsm)
    clear HP HS HT hsm
    go_wp2_with (with_reducible refine wC (HA0.out _ M.new) ?_)
    go_ret
    rw[HV.out]
    exact⟨rfl,M.new⟩
   |false=>
    have hq:=HP.out _ hsm
    have HV:=Lib.hid (HT.out hsm)
    clear HP HS HT hsm
    go_wp2_with (with_reducible refine wC (HA0.out _ M.new) ?_)
    go_roundw
    case rel=>exact⟨k+1,by omega,by go_num,M,HV⟩
    case measure=>simp[intOf];omega
  ·have HV:Hid (placeV (patI ts nm) ts.length= -1):=by
    have e:k=ts.length:=by have:=NL.out;omega
    exact place_none (e▸HB.out)
   go_wp2
   go_ret
   rw[HV.out]
   exact⟨rfl,M.new⟩
end
end Go.Proofs.YtfahleafppfkaaaGreatDoor
/-
  Types of the checker, for the steps over own memory.
-/
namespace Go.Proofs.YtfahleafppfkaaaGreatDoor
open Go.RowKit
set_option linter.unusedVariables false
set_option linter.unusedSimpArgs false
instance :StI Tryz.prog 72 3:=⟨⟨by kernel_rfl,_,Tryz.underlying72,rfl⟩⟩
instance :ZeI Tryz.prog 72 [.int .i64 0,.int .i64 0,.string ByteArray.empty]:=⟨⟨by kernel_rfl⟩⟩
instance :StI Tryz.prog 154 2:=⟨⟨by kernel_rfl,_,Tryz.underlying154,rfl⟩⟩
instance :OneI Tryz.prog 4:=⟨⟨by kernel_rfl,_,Tryz.underlying4,rfl⟩⟩
instance :OneI Tryz.prog 125:=⟨⟨by kernel_rfl,_,Tryz.underlying125,rfl⟩⟩
instance :OneI Tryz.prog 152:=⟨⟨by kernel_rfl,_,Tryz.underlying152,rfl⟩⟩
instance :RowI Tryz.prog 125 9 1:=⟨⟨Tryz.underlying125,⟨.string ByteArray.empty,by kernel_rfl,rfl⟩,by kernel_rfl,by kernel_rfl,by omega,by omega⟩⟩
end Go.Proofs.YtfahleafppfkaaaGreatDoor
