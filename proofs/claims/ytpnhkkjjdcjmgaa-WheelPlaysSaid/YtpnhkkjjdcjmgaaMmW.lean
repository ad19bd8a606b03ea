/-
  Steps of a walk over own memory in one word each: what a load yields, what a store leaves, found by classes.
-/
import Derived.Test.YtpnhkkjjdcjmgaaMmC
namespace Go.Proofs.Ytpnhkkjjdcjmgaa
open Go.RowKit
set_option linter.unusedVariables false
set_option linter.unusedSimpArgs false
section
variable {P:Program} {ops:Array Oper} {opsl:List Oper} {dst:Option Tmp} {op:Op} {oty:TypeId} {pos:String} {after:Array Edge} {l l' :List Value} {ds:List Deferred} {a:Act} {w:World} {rest:List Oper} {Q:Exit→Act→World→Prop}
theorem w_(h:OWP P ⟨dst,op,oty,pos,after,none⟩ a w (wpList P ops Q rest) Q):wpList P ops Q (⟨dst,op,oty,pos,after,none⟩::rest) a w:=by
 unfold wpList
 rw[if_pos (wanted_none rfl)]
 exact .inl (owp_out h)
theorem wg_{gi:Nat}{want:Bool}{t:Tmp}[ho:NthO opsl gi t][hv:Nth l t (.bool want)](h:OWP P ⟨dst,op,oty,pos,after,some (gi,want)⟩ ⟨l.toArray,ds⟩ w (wpList P opsl.toArray Q rest) Q):wpList P opsl.toArray Q (⟨dst,op,oty,pos,after,some (gi,want)⟩::rest) ⟨l.toArray,ds⟩ w:=by
 have hw:Region.wanted (⟨dst,op,oty,pos,after,some (gi,want)⟩:Oper) (yielded opsl.toArray l.toArray)=true:=by
  have h1:=hv.nth
  obtain⟨o',h2,h3⟩:=ho.at_
  simp only[Region.wanted,yielded,List.getElem?_toArray,h2,Option.bind_some,h3,h1]
  simp
 unfold wpList
 rw[if_pos hw]
 exact .inl (owp_out h)
end
class LenI (cs:List Value) (m:Nat):Prop where
 len:cs.length=m
instance :LenI [] 0:=⟨rfl⟩
instance {c:Value}{cs:List Value}{m:Nat}[h:LenI cs m]:LenI (c::cs) (m+1):=⟨by simp[h.len]⟩
class OneC (v:Value):Prop where
 one:v.oneCell' =true
instance {k:IntKind}{i:Int}:OneC (.int k i):=⟨rfl⟩
instance {s:ByteArray}:OneC (.string s):=⟨rfl⟩
instance {b:Bool}:OneC (.bool b):=⟨rfl⟩
instance {a:Option Addr}{n c:Nat}:OneC (.slice a n c):=⟨rfl⟩
instance {a:Option Addr}:OneC (.pointer a):=⟨rfl⟩
instance {z:Option Nat}:OneC (.map z):=⟨rfl⟩
instance {f:Fn}{a b:Array Value}:OneC (.func f a b):=⟨rfl⟩
class OnesC (vs:List Value):Prop where
 ones: ∀ v∈vs,v.oneCell' =true
instance :OnesC []:=⟨fun v h=>by cases h⟩
instance {v:Value}{vs:List Value}[h:OneC v][hs:OnesC vs]:OnesC (v::vs):=⟨fun x hx=>by
 rcases List.mem_cons.1 hx with rfl|hx
 ·exact h.one
 ·exact hs.ones x hx⟩
class PatchI (cs:List Value) (p:Nat) (vs:List Value) (cs' :outParam (List Value)):Prop where
 le:p+vs.length≤cs.length
 out:laid cs p vs=cs'
instance {cs:List Value}:PatchI cs 0 [] cs:=⟨by simp,by simp[laid]⟩
instance {c v:Value}{cs vs cs' :List Value}[h:PatchI cs 0 vs cs']:PatchI (c::cs) 0 (v::vs) (v::cs'):=⟨by have:=h.le;simp at this ⊢;omega,by have:=h.out;simpa[laid]using this⟩
instance {c:Value}{cs vs cs' :List Value}{p:Nat}[h:PatchI cs p vs cs']:PatchI (c::cs) (p+1) vs (c::cs'):=⟨by have:=h.le;simp at this ⊢;omega,by
 have:=h.out
 unfold laid at this ⊢
 rw[show p+1+vs.length=(p+vs.length)+1 by omega]
 simp[this]⟩
class SetE (L:List Ent) (i:Nat) (e:Ent) (L' :outParam (List Ent)):Prop where
 set_:L.set i e=L'
instance {d e:Ent}{L:List Ent}:SetE (d::L) 0 e (e::L):=⟨rfl⟩
instance {d e:Ent}{L L' :List Ent}{i:Nat}[h:SetE L i e L']:SetE (d::L) (i+1) e (d::L'):=⟨congrArg (d:: ·) h.set_⟩
class LdI (P:Program) (L:List Ent) (ty:TypeId) (z p:Nat) (v:outParam Value):Prop where
 ld: ∀ {At:PS→World→Prop} {b:Nat} {u w:World} {s:PS} {dst:Option Tmp} {oty:TypeId} {pos:String} {after:Array Edge} {g:Option (Nat×Bool)} {l l' :List Value} {ds:List Deferred} {Q:Exit→Act→World→Prop} {K:Act→World→Prop} {j:Nat},
  Mem At b u w s L→Nth l j (.pointer (some ⟨z,p,none⟩))→PutI l dst v l' →K ⟨l'.toArray,ds⟩ w→OWP P ⟨dst,.load ty (.tmp j),oty,pos,after,g⟩ ⟨l.toArray,ds⟩ w K Q
class PartJ (cs:List Value) (p m:Nat) (vs:outParam (List Value)):Prop where
 part:(cs.drop p).take m=vs
 le:p+m≤cs.length
instance {cs:List Value}:PartJ cs 0 0 []:=⟨rfl,by simp⟩
instance {c:Value}{cs vs:List Value}{m:Nat}[h:PartJ cs 0 m vs]:PartJ (c::cs) 0 (m+1) (c::vs):=⟨congrArg (c:: ·) h.part,by have:=h.le;simp at this ⊢;omega⟩
instance {c:Value}{cs vs:List Value}{p m:Nat}[h:PartJ cs p m vs]:PartJ (c::cs) (p+1) m vs:=⟨h.part,by have:=h.le;simp at this ⊢;omega⟩
theorem ble_of{a b:Nat}(h:a≤b):Nat.ble a b=true:=Nat.ble_eq_true_of_le h
instance {P:Program}{L:List Ent}{ty t:TypeId}{z p m i:Nat}{cs vs:List Value}[hz:Has L z i cs t][hT:StI P ty m][hp:PartJ cs p m vs]:LdI P L ty z p (.agg vs.toArray):=
 ⟨fun M hx hd h=>by haveI:=hx;haveI:=hd;exact q_part M (ble_of hp.le) hp.part h⟩
instance {P:Program}{L:List Ent}{ty t:TypeId}{z p i:Nat}{cs:List Value}{v:Value}[hz:Has L z i cs t][hT:OneI P ty][hv:Nth cs p v]:LdI P L ty z p v:=
 ⟨fun M hx hd h=>by haveI:=hx;haveI:=hd;exact q_get M hv.nth h⟩
theorem laid_set(cs:List Value)(o:Nat)(v:Value)(h:o<cs.length):laid cs o [v]=cs.set o v:=by
 unfold laid
 rw[List.set_eq_take_append_cons_drop,if_pos h]
 simp
class StoI (P:Program) (L:List Ent) (ty:TypeId) (z p:Nat) (v:Value) (L' :outParam (List Ent)):Prop where
 sto: ∀ {At:PS→World→Prop} {b:Nat} {u w:World} {s:PS} {dst:Option Tmp} {oty:TypeId} {pos:String} {after:Array Edge} {g:Option (Nat×Bool)} {l l' :List Value} {ds:List Deferred} {Q:Exit→Act→World→Prop} {K:Act→World→Prop} {j:Nat} {y:Operand},
  Mem At b u w s L→Nth l j (.pointer (some ⟨z,p,none⟩))→Act.eval ⟨l.toArray,ds⟩ y=v→PutI l dst undef l' →(∀ w',Mem At b u w' s L' →K ⟨l'.toArray,ds⟩ w')→OWP P ⟨dst,.store ty (.tmp j) y,oty,pos,after,g⟩ ⟨l.toArray,ds⟩ w K Q
instance {P:Program}{L L' :List Ent}{ty t:TypeId}{z p m i:Nat}{cs cs' vs:List Value}[hz:Has L z i cs t][hT:StI P ty m][hm:LenI vs m][h1:OnesC vs][hp:PatchI cs p vs cs'][hs:SetE L i (own z cs' t) L']:StoI P L ty z p (.agg vs.toArray) L' :=
 ⟨fun M hx hy hd h=>owp_of (op_inT M ty _ _ rfl z p vs (eval_tmp hx.nth) hy hz.at_ hT.st hm.len (by have:=hp.le;rw[hm.len]at this;exact this) h1.ones cs' hp.out (fun w' M' =>by rw[hd.put];exact h w' (hs.set_▸M')))⟩
instance {P:Program}{L L' :List Ent}{ty t:TypeId}{z p i:Nat}{cs cs' :List Value}{v:Value}[hz:Has L z i cs t][hT:OneI P ty][h1:OneC v][hp:PatchI cs p [v] cs'][hs:SetE L i (own z cs' t) L']:StoI P L ty z p v L' :=
 ⟨fun M hx hy hd h=>owp_of (op_setT M ty _ _ rfl z p v (eval_tmp hx.nth) hy hz.at_ hT.one (by have:=hp.le;simp at this;omega) h1.one (fun w' M' =>by
  have hl:p<cs.length:=by have:=hp.le;simp at this;omega
  rw[hd.put]
  exact h w' (by rw[←laid_set cs p v hl,hp.out,hs.set_]at M';exact M')))⟩
section
variable {P:Program} {ops:Array Oper} {opsl:List Oper} {dst:Option Tmp} {oty:TypeId} {pos:String} {after:Array Edge} {l l' :List Value} {ds:List Deferred} {rest:List Oper} {Q:Exit→Act→World→Prop}
variable {At:PS→World→Prop} {b:Nat} {u w:World} {s:PS} {L L' :List Ent} {ty j j' z p m:Nat} {v:Value} {cs vs:List Value}
theorem wl(M:Mem At b u w s L)[hx:Nth l j (.pointer (some ⟨z,p,none⟩))][hL:LdI P L ty z p v][hd:PutI l dst v l'](h:wpList P ops Q rest ⟨l'.toArray,ds⟩ w):wpList P ops Q (⟨dst,.load ty (.tmp j),oty,pos,after,none⟩::rest) ⟨l.toArray,ds⟩ w:=w_ (hL.ld M hx hd h)
theorem wlg(M:Mem At b u w s L){gi:Nat}{want:Bool}{t:Tmp}[ho:NthO opsl gi t][hv:Nth l t (.bool want)][hx:Nth l j (.pointer (some ⟨z,p,none⟩))][hL:LdI P L ty z p v][hd:PutI l dst v l'](h:wpList P opsl.toArray Q rest ⟨l'.toArray,ds⟩ w):wpList P opsl.toArray Q (⟨dst,.load ty (.tmp j),oty,pos,after,some (gi,want)⟩::rest) ⟨l.toArray,ds⟩ w:=wg_ (hL.ld M hx hd h)
theorem ws(M:Mem At b u w s L)[hx:Nth l j (.pointer (some ⟨z,p,none⟩))][hy:Nth l j' v][hS:StoI P L ty z p v L'][hd:PutI l dst undef l'](h: ∀ w',Mem At b u w' s L' →wpList P ops Q rest ⟨l'.toArray,ds⟩ w'):wpList P ops Q (⟨dst,.store ty (.tmp j) (.tmp j'),oty,pos,after,none⟩::rest) ⟨l.toArray,ds⟩ w:=w_ (hS.sto M hx (eval_tmp hy.nth) hd h)
theorem wsc(M:Mem At b u w s L)[hx:Nth l j (.pointer (some ⟨z,p,none⟩))][hS:StoI P L ty z p v L'][hd:PutI l dst undef l'](h: ∀ w',Mem At b u w' s L' →wpList P ops Q rest ⟨l'.toArray,ds⟩ w'):wpList P ops Q (⟨dst,.store ty (.tmp j) (.const v),oty,pos,after,none⟩::rest) ⟨l.toArray,ds⟩ w:=w_ (hS.sto M hx rfl hd h)
class EvI (l:List Value) (y:Operand) (v:outParam Value):Prop where
 ev: ∀ ds,Act.eval ⟨l.toArray,ds⟩ y=v
instance {j:Nat}{v:Value}{l:List Value}[h:Nth l j v]:EvI l (.tmp j) v:=⟨fun _=>eval_tmp h.nth⟩
instance {v:Value}{l:List Value}:EvI l (.const v) v:=⟨fun _=>rfl⟩
class StQ (P:Program) (opsl:List Oper) (o:Oper) (l:List Value) (L:List Ent) (l' :outParam (List Value)):Prop where
 st: ∀ {At:PS→World→Prop} {b:Nat} {u w:World} {s:PS} {ds:List Deferred} {Q:Exit→Act→World→Prop} {rest:List Oper},
  Mem At b u w s L→wpList P opsl.toArray Q rest ⟨l'.toArray,ds⟩ w→wpList P opsl.toArray Q (o::rest) ⟨l.toArray,ds⟩ w
instance {opsl:List Oper}[hx:Nth l j (.pointer (some ⟨z,p,none⟩))][hL:LdI P L ty z p v][hd:PutI l dst v l']:StQ P opsl ⟨dst,.load ty (.tmp j),oty,pos,after,none⟩ l L l' :=
 ⟨fun M h=>by haveI:=hx;haveI:=hL;haveI:=hd;exact wl M h⟩
instance {opsl:List Oper}{gi:Nat}{want:Bool}{t:Tmp}[ho:NthO opsl gi t][hv:Nth l t (.bool want)][hx:Nth l j (.pointer (some ⟨z,p,none⟩))][hL:LdI P L ty z p v][hd:PutI l dst v l']:StQ P opsl ⟨dst,.load ty (.tmp j),oty,pos,after,some (gi,want)⟩ l L l' :=
 ⟨fun M h=>by haveI:=ho;haveI:=hv;haveI:=hx;haveI:=hL;haveI:=hd;exact wlg M h⟩
instance {opsl:List Oper}{op:Op}{gi:Nat}{t:Tmp}[ho:NthO opsl gi t][hv:Nth l t (.bool false)][hd:PutI l dst undef l']:StQ P opsl ⟨dst,op,oty,pos,after,some (gi,true)⟩ l L l' :=
 ⟨fun M h=>by haveI:=ho;haveI:=hv;haveI:=hd;exact o_skipT h⟩
instance {opsl:List Oper}{op:Op}{gi:Nat}{t:Tmp}[ho:NthO opsl gi t][hv:Nth l t (.bool true)][hd:PutI l dst undef l']:StQ P opsl ⟨dst,op,oty,pos,after,some (gi,false)⟩ l L l' :=
 ⟨fun M h=>by haveI:=ho;haveI:=hv;haveI:=hd;exact o_skipF h⟩
theorem wq{opsl:List Oper}{o:Oper}(M:Mem At b u w s L)[h:StQ P opsl o l L l'](k:wpList P opsl.toArray Q rest ⟨l'.toArray,ds⟩ w):wpList P opsl.toArray Q (o::rest) ⟨l.toArray,ds⟩ w:=h.st M k
theorem wS{y:Operand}(M:Mem At b u w s L)[hx:Nth l j (.pointer (some ⟨z,p,none⟩))][hy:EvI l y v][hS:StoI P L ty z p v L'][hd:PutI l dst undef l'](h: ∀ w',Mem At b u w' s L' →wpList P ops Q rest ⟨l'.toArray,ds⟩ w'):wpList P ops Q (⟨dst,.store ty (.tmp j) y,oty,pos,after,none⟩::rest) ⟨l.toArray,ds⟩ w:=w_ (hS.sto M hx (hy.ev ds) hd h)
theorem wV(M:Mem At b u w s L)[hT:ZeI P ty cs]{F:Nat→List Value}[hd: ∀ z,PutI l dst (.pointer (some ⟨z,0,none⟩)) (F z)](h: ∀ z w',Mem At b u w' s (own z cs ty::L)→wpList P ops Q rest ⟨(F z).toArray,ds⟩ w'):wpList P ops Q (⟨dst,.alloc ty,oty,pos,after,none⟩::rest) ⟨l.toArray,ds⟩ w:=w_ (q_var M h)
theorem wR(M:Mem At b u w s L){e k:Nat}[hy:Nth l j (.agg vs.toArray)][hT:RowI P ty e k][hl:LenI vs k]{F:Nat→List Value}[hd: ∀ q,PutI l dst (.slice (some ⟨q,0,none⟩) 1 1) (F q)](h: ∀ q w',Mem At b u w' s (own q vs e::L)→wpList P ops Q rest ⟨(F q).toArray,ds⟩ w'):wpList P ops Q (⟨dst,.buildSlice ty 1 #[(0,.tmp j)],oty,pos,after,none⟩::rest) ⟨l.toArray,ds⟩ w:=w_ (q_row M (by rw[hl.len];exact Nat.beq_refl k) h)
theorem wB(M:Mem At b u w s L)[hy:Nth l j (.agg vs.toArray)]{F:Nat→List Value}[hd: ∀ z,PutI l dst (.pointer (some ⟨z,0,none⟩)) (F z)](h: ∀ z w',Mem At b u w' s (own z vs ty::L)→wpList P ops Q rest ⟨(F z).toArray,ds⟩ w'):wpList P ops Q (⟨dst,.box ty (.tmp j),oty,pos,after,none⟩::rest) ⟨l.toArray,ds⟩ w:=w_ (q_box M (fun z w' _ _ M' =>h z w' M'))
theorem wC{c o:Nat}(hc:w.cell? ⟨c,o,none⟩=some v)[hx:Nth l j (.pointer (some ⟨c,o,none⟩))][hT:OneI P ty][hd:PutI l dst v l'](h:wpList P ops Q rest ⟨l'.toArray,ds⟩ w):wpList P ops Q (⟨dst,.load ty (.tmp j),oty,pos,after,none⟩::rest) ⟨l.toArray,ds⟩ w:=w_ (q_cellat hc h)
theorem wCg{c o:Nat}(hc:w.cell? ⟨c,o,none⟩=some v){gi:Nat}{want:Bool}{t:Tmp}[ho:NthO opsl gi t][hv:Nth l t (.bool want)][hx:Nth l j (.pointer (some ⟨c,o,none⟩))][hT:OneI P ty][hd:PutI l dst v l'](h:wpList P opsl.toArray Q rest ⟨l'.toArray,ds⟩ w):wpList P opsl.toArray Q (⟨dst,.load ty (.tmp j),oty,pos,after,some (gi,want)⟩::rest) ⟨l.toArray,ds⟩ w:=wg_ (q_cellat hc h)
theorem wA(hr:w.rangeAt z p cs)[hx:Nth l j (.pointer (some ⟨z,p,none⟩))][hT:StI P ty m][hl:LenI cs m][hd:PutI l dst (.agg cs.toArray) l'](h:wpList P ops Q rest ⟨l'.toArray,ds⟩ w):wpList P ops Q (⟨dst,.load ty (.tmp j),oty,pos,after,none⟩::rest) ⟨l.toArray,ds⟩ w:=w_ (q_at hr (by rw[hl.len];exact Nat.beq_refl m) h)
end
end Go.Proofs.Ytpnhkkjjdcjmgaa
