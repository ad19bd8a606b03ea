/-
  Steps of a walk over own memory in one word each: what a load yields, what a store leaves, found by classes.
-/
import Derived.Test.YtncmghnhfipklaaGreatDoorPw06
import Derived.Test.YtncmghnhfipklaaGreatDoorPw01
namespace Go.Proofs.YtncmghnhfipklaaGreatDoor
open Go.RowKit
set_option linter.unusedVariables false
set_option linter.unusedSimpArgs false
section
variable {P:Program} {ops:Array Oper} {opsl:List Oper} {dst:Option Tmp} {op:Op} {oty:TypeId} {pos:String} {after:Array Edge} {l l' :List Value} {ds:List Deferred} {a:Act} {w:World} {rest:List Oper} {Q:Exit→Act→World→Prop}
theorem w_(h:OWP P ⟨dst,op,oty,pos,after,none⟩ a w (wpList P ops Q rest) Q):wpList P ops Q (⟨dst,op,oty,pos,after,none⟩::rest) a w:=by
 unfold wpList
 rw[if_pos (wanted_none rfl)]
 exact .inl (owp_out h)
theorem wg_{gi:Nat}{want:Bool}{t:Tmp}[ho:NthO opsl gi t][hv:Nth l t (.bool want)](h:OWP P ⟨dst,op,oty,pos,after,some (gi,want)⟩ ⟨l.toArray,ds⟩ w (wpList P opsl.toArray Q rest) Q):wpList P opsl.toArray Q (⟨dst,op,oty,pos,after,some (gi,want)⟩::rest) ⟨l.toArray,ds⟩ w:=by
 have hw:Region.wanted (⟨dst,op,oty,pos,after,some (gi,want)⟩:Oper) (yielded opsl.toArray l.toArray)=true:=by
  have h1:=hv.nth
  obtain⟨o',h2,h3⟩:=ho.at_
  simp only[Region.wanted,yielded,List.getElem?_toArray,h2,Option.bind_some,h3,h1]
  simp
 unfold wpList
 rw[if_pos hw]
 exact .inl (owp_out h)
end
class LenI (cs:List Value) (m:Nat):Prop where
 len:cs.length=m
instance :LenI [] 0:=⟨rfl⟩
instance {c:Value}{cs:List Value}{m:Nat}[h:LenI cs m]:LenI (c::cs) (m+1):=⟨by simp[h.len]⟩
class OneC (v:Value):Prop where
 one:v.oneCell' =true
instance {k:IntKind}{i:Int}:OneC (.int k i):=⟨rfl⟩
instance {s:ByteArray}:OneC (.string s):=⟨rfl⟩
instance {b:Bool}:OneC (.bool b):=⟨rfl⟩
instance {a:Option Addr}{n c:Nat}:OneC (.slice a n c):=⟨rfl⟩
instance {a:Option Addr}:OneC (.pointer a):=⟨rfl⟩
instance {z:Option Nat}:OneC (.map z):=⟨rfl⟩
instance {f:Fn}{a b:Array Value}:OneC (.func f a b):=⟨rfl⟩
class OnesC (vs:List Value):Prop where
 ones: ∀ v∈vs,v.oneCell' =true
instance :OnesC []:=⟨fun v h=>by cases h⟩
instance {v:Value}{vs:List Value}[h:OneC v][hs:OnesC vs]:OnesC (v::vs):=⟨fun x hx=>by
 rcases List.mem_cons.1 hx with rfl|hx
 ·exact h.one
 ·exact hs.ones x hx⟩
class PatchI (cs:List Value) (p:Nat) (vs:List Value) (cs' :outParam (List Value)):Prop where
 le:p+vs.length≤cs.length
 out:laid cs p vs=cs'
instance {cs:List Value}:PatchI cs 0 [] cs:=⟨by simp,by simp[laid]⟩
instance {c v:Value}{cs vs cs' :List Value}[h:PatchI cs 0 vs cs']:PatchI (c::cs) 0 (v::vs) (v::cs'):=⟨by have:=h.le;simp at this ⊢;omega,by have:=h.out;simpa[laid]using this⟩
instance {c:Value}{cs vs cs' :List Value}{p:Nat}[h:PatchI cs p vs cs']:PatchI (c::cs) (p+1) vs (c::cs'):=⟨by have:=h.le;simp at this ⊢;omega,by
 have:=h.out
 unfold laid at this ⊢
 rw[show p+1+vs.length=(p+vs.length)+1 by omega]
 simp[this]⟩
class SetE (L:List Ent) (i:Nat) (e:Ent) (L' :outParam (List Ent)):Prop where
 set_:L.set i e=L'
instance {d e:Ent}{L:List Ent}:SetE (d::L) 0 e (e::L):=⟨rfl⟩
instance {d e:Ent}{L L' :List Ent}{i:Nat}[h:SetE L i e L']:SetE (d::L) (i+1) e (d::L'):=⟨congrArg (d:: ·) h.set_⟩
class LdI (P:Program) (L:List Ent) (ty:TypeId) (z p:Nat) (v:outParam Value):Prop where
 ld: ∀ {At:PS→World→Prop} {b:Nat} {u w:World} {s:PS} {dst:Option Tmp} {oty:TypeId} {pos:String} {after:Array Edge} {g:Option (Nat×Bool)} {l l' :List Value} {ds:List Deferred} {Q:Exit→Act→World→Prop} {K:Act→World→Prop} {j:Nat},
  Mem At b u w s L→Nth l j (.pointer (some ⟨z,p,none⟩))→PutI l dst v l' →K ⟨l'.toArray,ds⟩ w→OWP P ⟨dst,.load ty (.tmp j),oty,pos,after,g⟩ ⟨l.toArray,ds⟩ w K Q
class PartJ (cs:List Value) (p m:Nat) (vs:outParam (List Value)):Prop where
 part:(cs.drop p).take m=vs
 le:p+m≤cs.length
instance {cs:List Value}:PartJ cs 0 0 []:=⟨rfl,by simp⟩
instance {c:Value}{cs vs:List Value}{m:Nat}[h:PartJ cs 0 m vs]:PartJ (c::cs) 0 (m+1) (c::vs):=⟨congrArg (c:: ·) h.part,by have:=h.le;simp at this ⊢;omega⟩
instance {c:Value}{cs vs:List Value}{p m:Nat}[h:PartJ cs p m vs]:PartJ (c::cs) (p+1) m vs:=⟨h.part,by have:=h.le;simp at this ⊢;omega⟩
theorem ble_of{a b:Nat}(h:a≤b):Nat.ble a b=true:=Nat.ble_eq_true_of_le h
instance {P:Program}{L:List Ent}{ty t:TypeId}{z p m i:Nat}{cs vs:List Value}[hz:Has L z i cs t][hT:StI P ty m][hp:PartJ cs p m vs]:LdI P L ty z p (.agg vs.toArray):=
 ⟨fun M hx hd h=>by haveI:=hx;haveI:=hd;exact q_part M (ble_of hp.le) hp.part h⟩
instance {P:Program}{L:List Ent}{ty t:TypeId}{z p i:Nat}{cs:List Value}{v:Value}[hz:Has L z i cs t][hT:OneI P ty][hv:Nth cs p v]:LdI P L ty z p v:=
 ⟨fun M hx hd h=>by haveI:=hx;haveI:=hd;exact q_get M hv.nth h⟩
theorem laid_set(cs:List Value)(o:Nat)(v:Value)(h:o<cs.length):laid cs o [v]=cs.set o v:=by
 unfold laid
 rw[List.set_eq_take_append_cons_drop,if_pos h]
 simp
class StoI (P:Program) (L:List Ent) (ty:TypeId) (z p:Nat) (v:Value) (L' :outParam (List Ent)):Prop where
 sto: ∀ {At:PS→World→Prop} {b:Nat} {u w:World} {s:PS} {dst:Option Tmp} {oty:TypeId} {pos:String} {after:Array Edge} {g:Option (Nat×Bool)} {l l' :List Value} {ds:List Deferred} {Q:Exit→Act→World→Prop} {K:Act→World→Prop} {j:Nat} {y:Operand},
  Mem At b u w s L→Nth l j (.pointer (some ⟨z,p,none⟩))→Act.eval ⟨l.toArray,ds⟩ y=v→PutI l dst undef l' →(∀ w',Mem At b u w' s L' →K ⟨l'.toArray,ds⟩ w')→OWP P ⟨dst,.store ty (.tmp j) y,oty,pos,after,g⟩ ⟨l.toArray,ds⟩ w K Q
instance {P:Program}{L L' :List Ent}{ty t:TypeId}{z p m i:Nat}{cs cs' vs:List Value}[hz:Has L z i cs t][hT:StI P ty m][hm:LenI vs m][h1:OnesC vs][hp:PatchI cs p vs cs'][hs:SetE L i (own z cs' t) L']:StoI P L ty z p (.agg vs.toArray) L' :=
 ⟨fun M hx hy hd h=>owp_of (op_inT M ty _ _ rfl z p vs (eval_tmp hx.nth) hy hz.at_ hT.st hm.len (by have:=hp.le;rw[hm.len]at this;exact this) h1.ones cs' hp.out (fun w' M' =>by rw[hd.put];exact h w' (hs.set_▸M')))⟩
instance {P:Program}{L L' :List Ent}{ty t:TypeId}{z p i:Nat}{cs cs' :List Value}{v:Value}[hz:Has L z i cs t][hT:OneI P ty][h1:OneC v][hp:PatchI cs p [v] cs'][hs:SetE L i (own z cs' t) L']:StoI P L ty z p v L' :=
 ⟨fun M hx hy hd h=>owp_of (op_setT M ty _ _ rfl z p v (eval_tmp hx.nth) hy hz.at_ hT.one (by have:=hp.le;simp at this;omega) h1.one (fun w' M' =>by
  have hl:p<cs.length:=by have:=hp.le;simp at this;omega
  rw[hd.put]
  exact h w' (by rw[←laid_set cs p v hl,hp.out,hs.set_]at M';exact M')))⟩
section
variable {P:Program} {ops:Array Oper} {opsl:List Oper} {dst:Option Tmp} {oty:TypeId} {pos:String} {after:Array Edge} {l l' :List Value} {ds:List Deferred} {rest:List Oper} {Q:Exit→Act→World→Prop}
variable {At:PS→World→Prop} {b:Nat} {u w:World} {s:PS} {L L' :List Ent} {ty j j' z p m:Nat} {v:Value} {cs vs:List Value}
theorem wl(M:Mem At b u w s L)[hx:Nth l j (.pointer (some ⟨z,p,none⟩))][hL:LdI P L ty z p v][hd:PutI l dst v l'](h:wpList P ops Q rest ⟨l'.toArray,ds⟩ w):wpList P ops Q (⟨dst,.load ty (.tmp j),oty,pos,after,none⟩::rest) ⟨l.toArray,ds⟩ w:=w_ (hL.ld M hx hd h)
theorem wlg(M:Mem At b u w s L){gi:Nat}{want:Bool}{t:Tmp}[ho:NthO opsl gi t][hv:Nth l t (.bool want)][hx:Nth l j (.pointer (some ⟨z,p,none⟩))][hL:LdI P L ty z p v][hd:PutI l dst v l'](h:wpList P opsl.toArray Q rest ⟨l'.toArray,ds⟩ w):wpList P opsl.toArray Q (⟨dst,.load ty (.tmp j),oty,pos,after,some (gi,want)⟩::rest) ⟨l.toArray,ds⟩ w:=wg_ (hL.ld M hx hd h)
theorem ws(M:Mem At b u w s L)[hx:Nth l j (.pointer (some ⟨z,p,none⟩))][hy:Nth l j' v][hS:StoI P L ty z p v L'][hd:PutI l dst undef l'](h: ∀ w',Mem At b u w' s L' →wpList P ops Q rest ⟨l'.toArray,ds⟩ w'):wpList P ops Q (⟨dst,.store ty (.tmp j) (.tmp j'),oty,pos,after,none⟩::rest) ⟨l.toArray,ds⟩ w:=w_ (hS.sto M hx (eval_tmp hy.nth) hd h)
class EvI (l:List Value) (y:Operand) (v:outParam Value):Prop where
 ev: ∀ ds,Act.eval ⟨l.toArray,ds⟩ y=v
instance {j:Nat}{v:Value}{l:List Value}[h:Nth l j v]:EvI l (.tmp j) v:=⟨fun _=>eval_tmp h.nth⟩
instance {v:Value}{l:List Value}:EvI l (.const v) v:=⟨fun _=>rfl⟩
class StQ (P:Program) (opsl:List Oper) (o:Oper) (l:List Value) (L:List Ent) (l' :outParam (List Value)):Prop where
 st: ∀ {At:PS→World→Prop} {b:Nat} {u w:World} {s:PS} {ds:List Deferred} {Q:Exit→Act→World→Prop} {rest:List Oper},
  Mem At b u w s L→wpList P opsl.toArray Q rest ⟨l'.toArray,ds⟩ w→wpList P opsl.toArray Q (o::rest) ⟨l.toArray,ds⟩ w
instance {opsl:List Oper}[hx:Nth l j (.pointer (some ⟨z,p,none⟩))][hL:LdI P L ty z p v][hd:PutI l dst v l']:StQ P opsl ⟨dst,.load ty (.tmp j),oty,pos,after,none⟩ l L l' :=
 ⟨fun M h=>by haveI:=hx;haveI:=hL;haveI:=hd;exact wl M h⟩
instance {opsl:List Oper}{gi:Nat}{want:Bool}{t:Tmp}[ho:NthO opsl gi t][hv:Nth l t (.bool want)][hx:Nth l j (.pointer (some ⟨z,p,none⟩))][hL:LdI P L ty z p v][hd:PutI l dst v l']:StQ P opsl ⟨dst,.load ty (.tmp j),oty,pos,after,some (gi,want)⟩ l L l' :=
 ⟨fun M h=>by haveI:=ho;haveI:=hv;haveI:=hx;haveI:=hL;haveI:=hd;exact wlg M h⟩
instance {opsl:List Oper}{op:Op}{gi:Nat}{t:Tmp}[ho:NthO opsl gi t][hv:Nth l t (.bool false)][hd:PutI l dst undef l']:StQ P opsl ⟨dst,op,oty,pos,after,some (gi,true)⟩ l L l' :=
 ⟨fun M h=>by haveI:=ho;haveI:=hv;haveI:=hd;exact o_skipT h⟩
instance {opsl:List Oper}{op:Op}{gi:Nat}{t:Tmp}[ho:NthO opsl gi t][hv:Nth l t (.bool true)][hd:PutI l dst undef l']:StQ P opsl ⟨dst,op,oty,pos,after,some (gi,false)⟩ l L l' :=
 ⟨fun M h=>by haveI:=ho;haveI:=hv;haveI:=hd;exact o_skipF h⟩
theorem wq{opsl:List Oper}{o:Oper}(M:Mem At b u w s L)[h:StQ P opsl o l L l'](k:wpList P opsl.toArray Q rest ⟨l'.toArray,ds⟩ w):wpList P opsl.toArray Q (o::rest) ⟨l.toArray,ds⟩ w:=h.st M k
theorem wS{y:Operand}(M:Mem At b u w s L)[hx:Nth l j (.pointer (some ⟨z,p,none⟩))][hy:EvI l y v][hS:StoI P L ty z p v L'][hd:PutI l dst undef l'](h: ∀ w',Mem At b u w' s L' →wpList P ops Q rest ⟨l'.toArray,ds⟩ w'):wpList P ops Q (⟨dst,.store ty (.tmp j) y,oty,pos,after,none⟩::rest) ⟨l.toArray,ds⟩ w:=w_ (hS.sto M hx (hy.ev ds) hd h)
theorem wV(M:Mem At b u w s L)[hT:ZeI P ty cs]{F:Nat→List Value}[hd: ∀ z,PutI l dst (.pointer (some ⟨z,0,none⟩)) (F z)](h: ∀ z w',Mem At b u w' s (own z cs ty::L)→wpList P ops Q rest ⟨(F z).toArray,ds⟩ w'):wpList P ops Q (⟨dst,.alloc ty,oty,pos,after,none⟩::rest) ⟨l.toArray,ds⟩ w:=w_ (q_var M h)
theorem wR(M:Mem At b u w s L){e k:Nat}[hy:Nth l j (.agg vs.toArray)][hT:RowI P ty e k][hl:LenI vs k]{F:Nat→List Value}[hd: ∀ q,PutI l dst (.slice (some ⟨q,0,none⟩) 1 1) (F q)](h: ∀ q w',Mem At b u w' s (own q vs e::L)→wpList P ops Q rest ⟨(F q).toArray,ds⟩ w'):wpList P ops Q (⟨dst,.buildSlice ty 1 #[(0,.tmp j)],oty,pos,after,none⟩::rest) ⟨l.toArray,ds⟩ w:=w_ (q_row M (by rw[hl.len];exact Nat.beq_refl k) h)
theorem wB(M:Mem At b u w s L)[hy:Nth l j (.agg vs.toArray)]{F:Nat→List Value}[hd: ∀ z,PutI l dst (.pointer (some ⟨z,0,none⟩)) (F z)](h: ∀ z w',Mem At b u w' s (own z vs ty::L)→wpList P ops Q rest ⟨(F z).toArray,ds⟩ w'):wpList P ops Q (⟨dst,.box ty (.tmp j),oty,pos,after,none⟩::rest) ⟨l.toArray,ds⟩ w:=w_ (q_box M (fun z w' _ _ M' =>h z w' M'))
theorem wC{c o:Nat}(hc:w.cell? ⟨c,o,none⟩=some v)[hx:Nth l j (.pointer (some ⟨c,o,none⟩))][hT:OneI P ty][hd:PutI l dst v l'](h:wpList P ops Q rest ⟨l'.toArray,ds⟩ w):wpList P ops Q (⟨dst,.load ty (.tmp j),oty,pos,after,none⟩::rest) ⟨l.toArray,ds⟩ w:=w_ (q_cellat hc h)
theorem wA(hr:w.rangeAt z p cs)[hx:Nth l j (.pointer (some ⟨z,p,none⟩))][hT:StI P ty m][hl:LenI cs m][hd:PutI l dst (.agg cs.toArray) l'](h:wpList P ops Q rest ⟨l'.toArray,ds⟩ w):wpList P ops Q (⟨dst,.load ty (.tmp j),oty,pos,after,none⟩::rest) ⟨l.toArray,ds⟩ w:=w_ (q_at hr (by rw[hl.len];exact Nat.beq_refl m) h)
end
def emS(s:ByteArray):Bool:=s.toList.isEmpty
def inS(l:List ByteArray)(s:ByteArray):Bool:=l.any (fun x=>sameS x s)
def pat0:Pat:=⟨ByteArray.empty,ByteArray.empty,cond0,0,0⟩
def typ0:Typ:=⟨ByteArray.empty,[]⟩
def typI(ts:List Typ)(n:ByteArray):Nat:=ts.findIdx (fun t=>sameS t.name n)
def patI(l:List Pat)(n:ByteArray):Nat:=l.findIdx (fun p=>sameS p.var n)
def typAt(ts:List Typ)(n:ByteArray):Typ:=ts.getD (typI ts n) typ0
def freeE(s:ByteArray):Int:=if nameE s=0 then(if keptB s=true then 4 else 0)else nameE s
def valZ(o:Opd):Bool:=o.vkind==0&&o.vint==0&&emS o.vtext
def opdZ(o:Opd):Bool:=o.kind==0&&valZ o&&emS o.var&&emS o.field
def opdBad(o:Opd):Bool:=(o.kind !=3&&!emS o.var)||(o.kind==1&&!emS o.field)||(o.kind !=1&&!valZ o)
section
variable (ts:List Typ) (known:List Pat) (own:Typ)
def sideT(o:Opd):Typ:=if o.kind=3 then typAt ts (known.getD (patI known o.var) pat0).type else own
def sideE(o:Opd):Int:=
 if ¬ (1≤o.kind∧o.kind≤3)then 3
 else if o.kind=3∧known.length≤patI known o.var then 6
 else if opdBad o=true then 4
 else if o.kind=1 then valE ⟨o.vkind,o.vint,o.vtext⟩
 else if fldAt (sideT ts known own o).fields o.field<(sideT ts known own o).fields.length then 0 else 6
def sideK(o:Opd):Int:=if o.kind=1 then o.vkind else((sideT ts known own o).fields.getD (fldAt (sideT ts known own o).fields o.field) default).kind
def testE(c:Cond):Int:=
 if c.subs.length≠0 then 4
 else if sideE ts known own c.left≠0 then sideE ts known own c.left
 else if sideE ts known own c.right≠0 then sideE ts known own c.right
 else if sideK ts known own c.left=sideK ts known own c.right then 0 else 13
def condL(g:Cond→Int×Int):List Cond→Int→Int×Int
 |[],n=>(n,0)
 |c::r,n=>if(g c).2≠0 then(0,(g c).2)else if 12<n+(g c).1 then(0,1)else condL g r (n+(g c).1)
def condForm(c:Cond):Bool:=!opdZ c.left||!opdZ c.right||(c.kind==3&&decide (c.subs.length≠1))||(c.kind !=3&&decide (c.subs.length<2))
def condR:Nat→Cond→Int×Int
 |0,c=>if 1≤c.kind∧c.kind≤7 then(0,14)else(0,3)
 |f+1,c=>
  if 1≤c.kind∧c.kind≤7 then
   (if 4≤c.kind then(1,testE ts known own c)else if condForm c=true then(0,4)else condL (condR f) c.subs 0)
  else(0,3)
end
def noC(c:Cond):Bool:=c.kind==0&&decide (c.subs.length=0)&&opdZ c.left&&opdZ c.right
def winE(part:Nat)(p:Pat):Int:=
 if(part=0∧ ¬ (0≤p.window∧p.window≤2))∨(part=1∧p.window≠0)∨(part=2∧p.window≠1)∨(p.window=0∧p.n≠0)then 4
 else if(p.window=1∧ ¬ (0≤p.n∧p.n≤1073741824))∨(p.window=2∧ ¬ (1≤p.n∧p.n≤120))then 2 else 0
def patE(ts:List Typ)(known:List Pat)(ahead:List ByteArray)(p:Pat)(part:Nat):Int:=
 if freeE p.var≠0 then freeE p.var
 else if inS ahead p.var=true then 7
 else if ts.length≤typI ts p.type then 6
 else if winE part p≠0 then winE part p
 else if noC p.wher=true then 0
 else(condR ts known (typAt ts p.type) 8 p.wher).2
def hasP(l:List Pat)(n:ByteArray):Bool:=decide (patI l n<l.length)
def linkE(x:Rul)(k:Lnk):Int:=
 if(!hasP x.whens k.left&&!hasP x.nots k.left)||(!hasP x.whens k.right&&!hasP x.nots k.right)then 6
 else if sameS k.left k.right||(!hasP x.whens k.left&&!hasP x.whens k.right)then 4
 else if k.opts.length<1∨6<k.opts.length then 1
 else firstN (fun i=>optE (k.opts.getD i ⟨0,0,0⟩).rel (k.opts.getD i ⟨0,0,0⟩).lo (k.opts.getD i ⟨0,0,0⟩).hi) k.opts.length
def sumE(t:Typ)(field:ByteArray):Int:=
 if emS field=true then 0 else if fldAt t.fields field<t.fields.length then(if(t.fields.getD (fldAt t.fields field) default).kind=1 then 0 else 13)else 6
def emitE(ts:List Typ)(x:Rul):Int:=
 if emS x.etype=true then(if x.evals.length=0 then 0 else 4)
 else if ts.length≤typI ts x.etype then 6
 else if x.evals.length≠(typAt ts x.etype).fields.length then 13
 else firstN (fun i=>if(x.evals.getD i opd0).kind=2 then 4
  else if sideE ts x.whens (typAt ts x.etype) (x.evals.getD i opd0)≠0 then sideE ts x.whens (typAt ts x.etype) (x.evals.getD i opd0)
  else if sideK ts x.whens (typAt ts x.etype) (x.evals.getD i opd0)=((typAt ts x.etype).fields.getD i default).kind then 0 else 13) x.evals.length
def vars(l:List Pat):List ByteArray:=l.map Pat.var
def man0:Many:=⟨0,ByteArray.empty,pat0⟩
def whenE(ts:List Typ)(x:Rul)(i:Nat):Int:=patE ts (x.whens.take i) (vars (x.whens.take i)) (x.whens.getD i pat0) 0
def notE(ts:List Typ)(x:Rul)(i:Nat):Int:=patE ts x.whens (vars x.whens++vars (x.nots.take i)) (x.nots.getD i pat0) 1
def manyE(ts:List Typ)(x:Rul)(i:Nat):Int:=
 if(emS (x.manies.getD i man0).field=true∧ ¬ (1≤(x.manies.getD i man0).count∧(x.manies.getD i man0).count≤120))∨ ¬ (0≤(x.manies.getD i man0).count∧(x.manies.getD i man0).count≤1125899906842624)then 2
 else if patE ts x.whens (vars x.whens++vars x.nots++vars ((x.manies.take i).map Many.pat)) (x.manies.getD i man0).pat 2≠0 then patE ts x.whens (vars x.whens++vars x.nots++vars ((x.manies.take i).map Many.pat)) (x.manies.getD i man0).pat 2
 else sumE (typAt ts (x.manies.getD i man0).pat.type) (x.manies.getD i man0).field
def lnk0:Lnk:=⟨ByteArray.empty,[],ByteArray.empty⟩
def sizeB(x:Rul):Bool:=decide (x.whens.length<1)||decide (3<x.whens.length)||decide (2<x.nots.length)||decide (2<x.manies.length)||decide (6<x.links.length)
def ruleE(ts:List Typ)(x:Rul):Int:=
 if freeE x.name≠0 then freeE x.name
 else if sizeB x=true then 1
 else if firstN (whenE ts x) x.whens.length≠0 then firstN (whenE ts x) x.whens.length
 else if firstN (notE ts x) x.nots.length≠0 then firstN (notE ts x) x.nots.length
 else if firstN (manyE ts x) x.manies.length≠0 then firstN (manyE ts x) x.manies.length
 else if firstN (fun i=>linkE x (x.links.getD i lnk0)) x.links.length≠0 then firstN (fun i=>linkE x (x.links.getD i lnk0)) x.links.length
 else emitE ts x
def speaks(x:Rul)(n:ByteArray):Bool:=x.whens.any (fun p=>sameS p.type n)||x.nots.any (fun p=>sameS p.type n)||x.manies.any (fun m=>sameS m.pat.type n)
def comesB(rs:List Rul):Nat→ByteArray→ByteArray→Bool
 |0,_,_=>false
 |k+1,to,fr=>rs.any (fun x=>!emS x.etype&&speaks x fr&&(sameS x.etype to||comesB rs k to x.etype))
def endB(b:Bok):Bool:=b.types.any (fun t=>comesB b.rules b.rules.length t.name t.name)
def btypE(b:Bok)(i:Nat):Int:=
 if typE (b.types.getD i typ0).name (b.types.getD i typ0).fields≠0 then typE (b.types.getD i typ0).name (b.types.getD i typ0).fields
 else if keptB (b.types.getD i typ0).name=true∨(b.types.getD i typ0).fields.any (fun f=>keptB f.name)=true then 4
 else if typI (b.types.take i) (b.types.getD i typ0).name<i then 7 else 0
def rul00:Rul:=⟨ByteArray.empty,[],[],[],[],ByteArray.empty,[]⟩
def brulE(b:Bok)(i:Nat):Int:=
 if ruleE b.types (b.rules.getD i rul00)≠0 then ruleE b.types (b.rules.getD i rul00)
 else if(b.rules.take i).any (fun y=>sameS y.name (b.rules.getD i rul00).name)=true then 7 else 0
def bookE(b:Bok):Int:=
 if 6<b.types.length∨5<b.rules.length then 1
 else if firstN (btypE b) b.types.length≠0 then firstN (btypE b) b.types.length
 else if firstN (brulE b) b.rules.length≠0 then firstN (brulE b) b.rules.length
 else if endB b=true then 15 else 0
def frG(w:List Pat):Mx:=fun r c=>if r=c then 0 else if r % 2=0∧c=r+1 then 0 else if r % 2=1∧c % 2=1∧r / 2<w.length∧c / 2<w.length∧(w.getD (c / 2) pat0).window=1 then(w.getD (c / 2) pat0).n else NOB
def atG(a b r:Nat):Nat:=if r=0 then 2*a else if r=1 then 2*a+1 else if r=2 then 2*b else 2*b+1
def celL(o:Mx)(a b r:Nat)(g:Mx)(c:Nat):Mx:=setB g (atG a b r) (atG a b c) (min (g (atG a b r) (atG a b c)) (o r c))
def rowL(o:Mx)(a b:Nat)(g:Mx)(r:Nat):Mx:=(List.range 4).foldl (celL o a b r) g
def lnkG(o:Mx)(a b:Nat)(g:Mx):Mx:=(List.range 4).foldl (rowL o a b) g
def stepF(l:List Pat)(s:Option Mx)(k:Lnk):Option Mx:=
 match s with
 |none=>none
 |some g=>if patI l k.left<l.length∧patI l k.right<l.length then(if codeO k.opts (listO k.opts)=0 then some (lnkG (at2 (listO k.opts)) (patI l k.left) (patI l k.right) g)else none)else some g
def linkF(x:Rul)(l:List Pat)(j:Nat):Option Mx:=(x.links.take j).foldl (stepF l) (some (frG x.whens))
theorem linkF_next{x:Rul}{l:List Pat}{j:Nat}(h:j<x.links.length):linkF x l (j+1)=stepF l (linkF x l j) x.links[j]:=by
 unfold linkF
 rw[←List.take_append_getElem h,List.foldl_append,List.foldl_cons,List.foldl_nil]
def npts(x:Rul)(more:List Pat):Nat:=2*(x.whens++more).length
def wholeF(x:Rul)(more:List Pat):Option Mx:=
 match linkF x (x.whens++more) x.links.length with
 |none=>none
 |some g=>if okb (npts x more) (shutF (npts x more) g)=true then some (shutF (npts x more) g)else none
def Small(n:Nat)(g:Mx):Prop:=RB n 0 g∧ ∀ x,x<n→g x x=0
theorem small_set{n:Nat}{g:Mx}(h:Small n g){i j:Nat}(hij:i≠j)(hi:i<n)(hj:j<n){v:Int}(hv:v=NOB∨(-2147483648≤v∧v≤2147483648)):Small n (setB g i j (min (g i j) v)):=by
 refine⟨fun a b ha hb=>?_,fun a ha=>?_⟩
 ·unfold setB
  split
  ·have:=h.1 i j hi hj
   unfold NOB at *
   omega
  ·exact h.1 a b ha hb
 ·unfold setB
  rw[if_neg (fun e=>hij (by rw[←e.1,←e.2]))]
  exact h.2 a ha
theorem atG_ne{a b r c:Nat}(hab:a≠b)(hr:r<4)(hc:c<4)(h:r≠c):atG a b r≠atG a b c:=by
 unfold atG
 (repeat' split)<;>omega
theorem atG_lt{a b r m:Nat}(ha:a<m)(hb:b<m):atG a b r<2*m:=by
 unfold atG
 (repeat' split)<;>omega
theorem setB_same{g:Mx}{i j:Nat}{v:Int}(h:v=g i j):setB g i j v=g:=by
 funext r c
 unfold setB
 split
 ·rename_i e;rw[h,e.1,e.2]
 ·rfl
theorem lnk_small{m:Nat}{g:Mx}(h:Small (2*m) g){o:List (List Int)}(ho:Good4 o){a b:Nat}(hab:a≠b)(ha:a<m)(hb:b<m):Small (2*m) (lnkG (at2 o) a b g):=
 fold_inv (rowL (at2 o) a b) (fun _ t=>Small (2*m) t) 4 g h fun r t hr T=>
  fold_inv (celL (at2 o) a b r) (fun _ t=>Small (2*m) t) 4 t T fun c t hc T=>by
   by_cases e:r=c
   ·subst e
    unfold celL
    rw[setB_same]
    ·exact T
    ·rw[ho.diag r hr,T.2 _ (atG_lt ha hb)];rfl
   ·exact small_set T (atG_ne hab hr hc e) (atG_lt ha hb) (atG_lt ha hb) (by have:=ho.rb r c hr hc;omega)
structure RulPl (x:Rul):Prop where
 w1:1≤x.whens.length
 w3:x.whens.length≤3
 n2:x.nots.length≤2
 m2:x.manies.length≤2
 l6:x.links.length≤6
 win: ∀ p∈x.whens,p.window=1→0≤p.n∧p.n≤1073741824
 many: ∀ m∈x.manies,0≤m.pat.n∧m.pat.n≤1073741824
 link: ∀ k∈x.links,sameS k.left k.right=false∧ ∀ o∈k.opts,optE o.rel o.lo o.hi=0
theorem same_refl_of{a b c:ByteArray}(h:sameS a b=true)(k:sameS a c=true):sameS b c=true:=by
 unfold sameS at *
 have h1:=beq_iff_eq.1 h
 have h2:=beq_iff_eq.1 k
 rw[←h1,h2]
 simp
theorem patI_at{l:List Pat}{s:ByteArray}(h:patI l s<l.length):sameS (l[patI l s]'h).var s=true:=List.findIdx_getElem (p:=fun p:Pat=>sameS p.var s) (xs:=l) (w:=h)
theorem patI_ne{l:List Pat}{a b:ByteArray}(h:sameS a b=false)(ha:patI l a<l.length)(hb:patI l b<l.length):patI l a≠patI l b:=fun e=>by
 have h1:=patI_at ha
 have h2:=patI_at hb
 have h3:sameS (l[patI l a]'ha).var b=true:=by
  have:(l[patI l a]'ha)=(l[patI l b]'hb):=by congr 1
  rw[this];exact h2
 rw[same_refl_of h1 h3]at h
 cases h
theorem fr_small{x:Rul}(h:RulPl x)(n:Nat):Small n (frG x.whens):=by
 refine⟨fun a b _ _=>?_,fun a _=>by unfold frG;rw[if_pos rfl]⟩
 unfold frG
 split
 ·right;omega
 ·split
  ·right;omega
  ·split
   ·rename_i e
    have hb:b / 2<x.whens.length:=e.2.2.2.1
    have hw:=e.2.2.2.2
    rw[show x.whens.getD (b / 2) pat0=x.whens[b / 2]by simp[List.getD,List.getElem?_eq_getElem hb]]at hw ⊢
    have:=h.win _ (List.getElem_mem hb) hw
    right;omega
   ·left;rfl
theorem link_small{x:Rul}(h:RulPl x)(l:List Pat): ∀ j,j≤x.links.length→ ∀ g,linkF x l j=some g→Small (2*l.length) g
 |0,_,g,hg=>by
  have:frG x.whens=g:=by injection hg
  subst this
  exact fr_small h _
 |j+1,hj,g,hg=>by
  have hlt:j<x.links.length:=by omega
  rw[linkF_next hlt]at hg
  have ih:=link_small h l j (by omega)
  obtain⟨h1,h2⟩:=h.link _ (List.getElem_mem hlt)
  unfold stepF at hg
  cases hm:linkF x l j with
  |none=>rw[hm]at hg;cases hg
  |some g0=>
   rw[hm]at hg
   simp only at hg
   split at hg
   ·rename_i hp
    split at hg
    ·rename_i hc
     injection hg with hg
     subst hg
     exact lnk_small (ih _ hm) ((listO_good h2).resolve_left (fun q=>q hc)).2 (patI_ne h1 hp.1 hp.2) hp.1 hp.2
    ·cases hg
   ·injection hg with hg
    subst hg
    exact ih _ hm
def latF(g:Mx)(w p:Nat):Int:=(List.range w).foldl (fun n i=>max n (g (2*i+1) p)) (g 1 p)
def plusF(b n:Int):Int:=if b=NOB then b else max (b+n) 0
def leastF(g:Mx)(w:Nat):Int:=(List.range w).foldl (fun n k=>min n (g (2*w+1) (2*k+1))) NOB
structure Pln where
 delay:Int
 whens:List Int
 nots:List Int
 manies:List Int
def pln0:Pln:=⟨0,[],[],[]⟩
def notD(x:Rul)(d:Int)(n:Pat):Int:=match wholeF x [n]with|none=>d|some g=>max d (leastF g x.whens.length)
def delayF(x:Rul)(k:Nat):Int:=(x.nots.take k).foldl (notD x) 0
def notW(x:Rul)(D:Int)(n:Pat):Int:=match wholeF x [n]with|none=>0|some g=>plusF (latF g x.whens.length (2*x.whens.length+1)) (D+1)
def planE(x:Rul):Pln×Int:=
 match wholeF x []with
 |none=>(pln0,16)
 |some f=>
  let D:=delayF x x.nots.length
  if D=NOB then(pln0,15)else(⟨D,(List.range x.whens.length).map (fun i=>plusF (latF f x.whens.length (2*i+1)) (D+1)),x.nots.map (notW x D),x.manies.map (fun m=>m.pat.n+D+1)⟩,0)
theorem firstN_allP{f:Nat→Int}{n:Nat}(h:firstN f n=0):AllZ f n:=by
 induction n with
 |zero=>exact allZ_zero f
 |succ n ih=>
  simp only[firstN]at h
  by_cases e:firstN f n=0
  ·rw[if_pos e]at h;exact allZ_succ (ih e) h
  ·rw[if_neg e]at h;exact absurd h e
theorem allZ_first{f:Nat→Int}{n:Nat}(h:AllZ f n):firstN f n=0:=firstN_zero h
theorem rule_parts{ts:List Typ}{x:Rul}(h:ruleE ts x=0):sizeB x=false∧AllZ (whenE ts x) x.whens.length∧AllZ (notE ts x) x.nots.length∧AllZ (manyE ts x) x.manies.length∧AllZ (fun i=>linkE x (x.links.getD i lnk0)) x.links.length:=by
 unfold ruleE at h
 by_cases h1:freeE x.name≠0
 ·rw[if_pos h1]at h;exact absurd h h1
 rw[if_neg h1]at h
 by_cases h2:sizeB x=true
 ·rw[if_pos h2]at h;exact absurd h (by decide)
 rw[if_neg h2]at h
 by_cases h3:firstN (whenE ts x) x.whens.length≠0
 ·rw[if_pos h3]at h;exact absurd h h3
 rw[if_neg h3]at h
 by_cases h4:firstN (notE ts x) x.nots.length≠0
 ·rw[if_pos h4]at h;exact absurd h h4
 rw[if_neg h4]at h
 by_cases h5:firstN (manyE ts x) x.manies.length≠0
 ·rw[if_pos h5]at h;exact absurd h h5
 rw[if_neg h5]at h
 by_cases h6:firstN (fun i=>linkE x (x.links.getD i lnk0)) x.links.length≠0
 ·rw[if_pos h6]at h;exact absurd h h6
 exact⟨by simpa using h2,firstN_allP (Classical.not_not.1 h3),firstN_allP (Classical.not_not.1 h4),firstN_allP (Classical.not_not.1 h5),firstN_allP (Classical.not_not.1 h6)⟩
theorem pat_win{ts:List Typ}{kn:List Pat}{ah:List ByteArray}{p:Pat}{part:Nat}(h:patE ts kn ah p part=0):winE part p=0:=by
 unfold patE at h
 by_cases h1:freeE p.var≠0
 ·rw[if_pos h1]at h;exact absurd h h1
 rw[if_neg h1]at h
 by_cases h2:inS ah p.var=true
 ·rw[if_pos h2]at h;exact absurd h (by decide)
 rw[if_neg h2]at h
 by_cases h3:ts.length≤typI ts p.type
 ·rw[if_pos h3]at h;exact absurd h (by decide)
 rw[if_neg h3]at h
 by_cases h4:winE part p≠0
 ·rw[if_pos h4]at h;exact absurd h h4
 exact Classical.not_not.1 h4
theorem win_time{part:Nat}{p:Pat}(h:winE part p=0)(hw:p.window=1):0≤p.n∧p.n≤1073741824:=by
 unfold winE at h
 split at h
 ·exact absurd h (by decide)
 split at h
 ·exact absurd h (by decide)
 omega
theorem win_many{p:Pat}(h:winE 2 p=0):0≤p.n∧p.n≤1073741824:=by
 refine win_time h ?_
 unfold winE at h
 split at h
 ·exact absurd h (by decide)
 omega
theorem rul_pl{ts:List Typ}{x:Rul}(h:ruleE ts x=0):RulPl x:=by
 obtain⟨h2,h3,h4,h5,h6⟩:=rule_parts h
 simp only[sizeB,Bool.or_eq_false_iff,decide_eq_false_iff_not]at h2
 refine⟨by omega,by omega,by omega,by omega,by omega,fun p hp hw=>?_,fun m hm=>?_,fun k hk=>?_⟩
 ·obtain⟨i,hi,rfl⟩:=List.mem_iff_getElem.1 hp
  have:=h3 i hi
  unfold whenE at this
  rw[show x.whens.getD i pat0=x.whens[i]by simp[List.getD,List.getElem?_eq_getElem hi]]at this
  exact win_time (pat_win this) hw
 ·obtain⟨i,hi,rfl⟩:=List.mem_iff_getElem.1 hm
  have h8:=h5 i hi
  unfold manyE at h8
  rw[show x.manies.getD i man0=x.manies[i]by simp[List.getD,List.getElem?_eq_getElem hi]]at h8
  split at h8
  ·exact absurd h8 (by decide)
  split at h8
  ·rename_i h9;exact absurd h8 h9
  ·rename_i h9;exact win_many (pat_win (Classical.not_not.1 h9))
 ·obtain⟨i,hi,rfl⟩:=List.mem_iff_getElem.1 hk
  have h8:=h6 i hi
  simp only at h8
  rw[show x.links.getD i lnk0=x.links[i]by simp[List.getD,List.getElem?_eq_getElem hi]]at h8
  generalize x.links[i]=k at h8
  unfold linkE at h8
  split at h8
  ·exact absurd h8 (by decide)
  split at h8
  ·exact absurd h8 (by decide)
  rename_i h9
  split at h8
  ·exact absurd h8 (by decide)
  simp only[Bool.or_eq_true,not_or,Bool.not_eq_true]at h9
  refine⟨h9.1,fun o ho=>?_⟩
  obtain⟨j,hj,rfl⟩:=List.mem_iff_getElem.1 ho
  have h5:=firstN_allP h8 j hj
  rw[show k.opts.getD j ⟨0,0,0⟩=k.opts[j]by simp[List.getD,List.getElem?_eq_getElem hj]]at h5
  exact h5
theorem book_pl{b:Bok}(h:bookE b=0):b.types.length≤6∧b.rules.length≤5∧ ∀ x∈b.rules,RulPl x:=by
 unfold bookE at h
 by_cases h1:6<b.types.length∨5<b.rules.length
 ·rw[if_pos h1]at h;exact absurd h (by decide)
 rw[if_neg h1]at h
 by_cases h2:firstN (btypE b) b.types.length≠0
 ·rw[if_pos h2]at h;exact absurd h h2
 rw[if_neg h2]at h
 by_cases h3:firstN (brulE b) b.rules.length≠0
 ·rw[if_pos h3]at h;exact absurd h h3
 refine⟨by omega,by omega,fun x hx=>?_⟩
 obtain⟨i,hi,rfl⟩:=List.mem_iff_getElem.1 hx
 have h4:=firstN_allP (Classical.not_not.1 h3) i hi
 unfold brulE at h4
 rw[show b.rules.getD i rul00=b.rules[i]by simp[List.getD,List.getElem?_eq_getElem hi]]at h4
 split at h4
 ·rename_i h5;exact absurd h4 h5
 ·rename_i h5;exact rul_pl (Classical.not_not.1 h5)
def raise1(nm:ByteArray)(o:Int)(p:ByteArray×Int):Int:=if sameS nm p.1=true then max o p.2 else o
def namesT(x:Rul)(p:Pln):List (ByteArray×Int):=(x.whens.map Pat.type).zip p.whens++((x.nots.map Pat.type).zip p.nots++(x.manies.map fun m=>m.pat.type).zip p.manies)
def raiseR(nm:ByteArray)(o:Int)(x:Rul)(p:Pln):Int:=(namesT x p).foldl (raise1 nm) o
end Go.Proofs.YtncmghnhfipklaaGreatDoor
