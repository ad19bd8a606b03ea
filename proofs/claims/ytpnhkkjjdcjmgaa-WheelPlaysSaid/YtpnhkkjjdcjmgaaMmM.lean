/-
  Maps by texts, as parts of a function's own memory.
-/
import Derived.Test.YtpnhkkjjdcjmgaaMmW
import Derived.Maps.Own
import Derived.Maps.Views
namespace Go.Proofs.Ytpnhkkjjdcjmgaa
open Go.RowKit Go.ChangeMaps
set_option linter.unusedVariables false
set_option linter.unusedSimpArgs false
def RV(v:Value):Option (DataW Value×List MemPlace):=some (.held v,[])
abbrev MapF:=ByteArray→Option Value
def noneF:MapF:=fun _=>none
def putTx(f:MapF)(s:ByteArray)(v:Value):MapF:=fun x=>if x=s then some v else f x
def MapOf(P:Program)(k:TypeId)(w:World)(z n:Nat)(f:MapF):Prop:=
 ∃ D:DataW Value,w.ownsMap P k RV z n D∧Go.Maps.IsMap D∧ ∀ s:ByteArray,s.size≤maxLen→ ∀ zd,D.atKey (.string s.data.toList) zd=(match f s with|none=>zd|some v=> .held v)
section
variable {P:Program} {k t e:TypeId} {w w' :World} {z n:Nat} {f:MapF}
theorem MapOf.lt(h:MapOf P k w z n f):z<w.heap.size:=by
 obtain⟨D,h1,_⟩:=h
 exact h1.lt
theorem MapOf.same(h:MapOf P k w z n f)(hb:w'.heap[z]?=w.heap[z]?):MapOf P k w' z n f:=by
 obtain⟨D,⟨es,c,h1,h2,h3,h4⟩,h5⟩:=h
 exact⟨D,⟨es,c,hb.trans h1,h2,h3,h4⟩,h5⟩
theorem MapOf.made:MapOf P k (w.alloc (.map #[] 0)) w.heap.size 0 noneF:=
 ⟨.map [],World.ownsMap_made w P k RV,Go.Maps.isMap_empty,fun s _ zd=>rfl⟩
theorem MapOf.mono(h:MapOf P k w z n f){m:Nat}(hm:n≤m):MapOf P k w z m f:=by
 obtain⟨D,h1,h2⟩:=h
 exact⟨D,h1.mono hm,h2⟩
theorem MapOf.look(h:MapOf P k w z n f)(hk:P.underlying k=some .string)(ht:P.underlying t=some (.map k e))(c:Bool){v0:Value}(hz:(zeroValue e).run P w= .ok v0 w)(s:ByteArray)(hs:s.size≤maxLen):
  (Instr.lookup t (.map (some z)) (.string s) c).run P w= .ok (if c then .tuple #[(f s).getD v0,.bool (f s).isSome]else(f s).getD v0) w:=by
 obtain⟨D,⟨es,cl,h1,h2,h3,rfl⟩,h5,h6⟩:=h
 have hat:=h6 s hs
 rcases Go.Maps.fit_look c (Go.Maps.string_keyed hk) ht hz h1 h2 (Go.WideMaps.keyOf_string_mk hk hs)with⟨hrun, -,h7⟩|⟨e0,y, -, -,hrun,hy,h7, -⟩
 ·have hf:f s=none:=by
   have a:=(hat (.held undef)).symm.trans (h7 (.held undef))
   have b:=(hat (.map [])).symm.trans (h7 (.map []))
   cases hq:f s with
   |none=>rfl
   |some v=>rw[hq]at b;cases b
  rw[hrun,hf]
  cases c<;>rfl
 ·have hy' :y=(.held e0.val,[]):=by
   have:=hy
   unfold RV at this
   injection this with this
   exact this.symm
  have hf:f s=some e0.val:=by
   have b:=(hat (.map [])).symm.trans (h7 (.map []))
   rw[hy']at b
   cases hq:f s with
   |none=>rw[hq]at b;cases b
   |some v=>rw[hq]at b;injection b with b;rw[b]
  rw[hrun,hf]
  cases c<;>rfl
theorem data_inj{a b:ByteArray}(h:a.data.toList=b.data.toList):a=b:=by
 cases a;cases b
 simp only[ByteArray.mk.injEq]
 exact Array.toList_inj.1 h
theorem MapOf.upd(h:MapOf P k w z n f)(hk:P.underlying k=some .string)(ht:P.underlying t=some (.map k e))(hn:n<maxLen)(s:ByteArray)(hs:s.size≤maxLen)(v:Value):
  ∃ w',(Instr.mapUpdate t (.map (some z)) (.string s) v).run P w= .ok () w' ∧MapOf P k w' z (n+1) (putTx f s v)∧w.grownBy w' (some z):=by
 obtain⟨D,h1,h2,h3⟩:=h
 obtain⟨w',hrun,ho,hg⟩:=h1.update (Go.Maps.string_keyed hk) ht hn (Go.WideMaps.keyOf_string_mk hk hs) (val:=v) (d:= .held v) (ps:=[]) rfl
 refine⟨w',hrun,⟨_,ho,h2.put _ _,fun x hx zd=>?_⟩,hg⟩
 unfold putTx
 by_cases he:x=s
 ·subst he
  rw[if_pos rfl]
  exact Go.Maps.atKey_put_same h2 (by trivial) _ _
 ·rw[if_neg he]
  rw[Go.Maps.atKey_put_other (fun e=>he (data_inj (by injection e)))]
  exact h3 x hx zd
end
def mp(P:Program)(k:TypeId)(z n:Nat)(f:MapF):Ent:=⟨fun y=>some z=some y,fun _ w=>MapOf P k w z n f⟩
theorem mp_firm(P:Program)(k:TypeId)(z n:Nat)(f:MapF):(mp P k z n f).firm:=fun F G w w' _ _ hz hlt h=>MapOf.same h (hz z rfl (hlt z rfl))
section
variable {P:Program} {o:Oper} {a:Act} {Q:Exit→Act→World→Prop} {K:Act→World→Prop}
variable {At:PS→World→Prop} {b:Nat} {u w:World} {s:PS} {L:List Ent}
theorem op_map(M:Mem At b u w s L)(k:TypeId){t:Nat}(ho:o.op= .makeMap t none)
  (h: ∀ z w',Mem At b u w' s (mp P k z 0 noneF::L)→K (a.put o.dst (.map (some z))) w'):o.wp P a w K Q:=by
 have hlow: ∀ y,(mp P k w.heap.size 0 noneF).blk y→w.heap.size≤y∧y<(w.alloc (.map #[] 0)).heap.size:=fun y hy=>by
  have e:w.heap.size=y:=by injection hy
  subst e
  simp
 unfold Oper.wp execOp
 simp only[ho,Option.map_none]
 exact h w.heap.size _ (M.push (Joins.below_alloc1 w _) (mp_firm _ _ _ _ _) hlow (fun G _=>MapOf.made))
theorem Mem.remap{k:TypeId}{z n m i:Nat}{f f' :MapF}{w' :World}(M:Mem At b u w s L)(hi:L[i]?=some (mp P k z n f))(hb:But z w w')(ho:MapOf P k w' z m f'):Mem At b u w' s (L.set i (mp P k z m f')):=by
 have hlow:=M.low _ (Mem.of_get hi) z rfl
 have hbl:b<w.heap.size:=Nat.lt_of_lt_of_le M.lt M.size
 have hne:b≠z:=by have:=M.lt;omega
 have h1:w'.heap[b]?=w.heap[b]?:=hb.rest b hbl hne
 have hsz:=hb.size
 refine M.setAt hi (M.stay _ _ _ h1 M.at_) ?_ hsz (fun k hk _ hk2=>hb.rest k hk (fun e=>hk2 (by rw[e];rfl))) (mp_firm _ _ _ _ _) (fun y hy=>?_) (fun y hy=> .inr hy) (fun G _ _=>ho)
 ·refine⟨M.but.below.trans (hb.below.mono (by have:=M.lt;omega)),fun k hk hkb=>?_⟩
  rw[hb.rest k (Nat.lt_of_lt_of_le hk M.size) (by omega)]
  exact M.but.rest k hk hkb
 ·have e:z=y:=by injection hy
  subst e
  exact⟨hlow.1,Nat.lt_of_lt_of_le hlow.2 hsz⟩
theorem Mem.map_{k:TypeId}{z n i:Nat}{f:MapF}(M:Mem At b u w s L)(hi:L[i]?=some (mp P k z n f)):MapOf P k w z n f:=M.say _ (Mem.of_get hi)
theorem But.of_grown{z:Nat}{w w' :World}(h:w.grownBy w' (some z))(hz:z<w.heap.size):But z w w' :=
 ⟨(Below.refl z w).grown h (Nat.le_of_lt hz) (fun g hg=>by cases hg;exact Nat.le_refl _),fun k hk hkz=>h.block k hk (fun e=>hkz (by cases e;rfl))⟩
end
section
variable {P:Program} {dst:Option Tmp} {oty:TypeId} {pos:String} {after:Array Edge} {g:Option (Nat×Bool)} {l l' :List Value} {ds:List Deferred} {Q:Exit→Act→World→Prop} {K:Act→World→Prop}
variable {At:PS→World→Prop} {b:Nat} {u w:World} {s:PS} {L:List Ent} {t j j' z n:Nat}
class MapI (P:Program) (t:TypeId) (k:outParam TypeId) (v0:outParam Value):Prop where
 key:P.underlying k=some .string
 map_: ∃ e,P.underlying t=some (.map k e)∧(P.info? e).map (·.zero)=some (some v0)
theorem zero_run{e:TypeId}{v0:Value}(h:(P.info? e).map (·.zero)=some (some v0))(w:World):(zeroValue e).run P w= .ok v0 w:=by
 cases hq:P.info? e with
 |none=>simp[hq]at h
 |some i=>simp[hq]at h;simp[zeroValue,typeInfo,hq,h]
theorem q_map(M:Mem At b u w s L){k:TypeId}{v0:Value}[hT:MapI P t k v0]{F:Nat→List Value}[hd: ∀ z,PutI l dst (.map (some z)) (F z)](h: ∀ z w',Mem At b u w' s (mp P k z 0 noneF::L)→K ⟨(F z).toArray,ds⟩ w'):OWP P ⟨dst,.makeMap t none,oty,pos,after,g⟩ ⟨l.toArray,ds⟩ w K Q:=
 owp_of (op_map M k rfl (fun z w' M' =>by rw[(hd z).put];exact h z w' M'))
theorem q_look{k:TypeId}{v0:Value}{f:MapF}{x:ByteArray}[hm:Nth l j (.map (some z))][hx:Nth l j' (.string x)][hT:MapI P t k v0](ho:MapOf P k w z n f)(hs:x.size≤maxLen)[hd:PutI l dst ((f x).getD v0) l'](h:K ⟨l'.toArray,ds⟩ w):OWP P ⟨dst,.lookup t (.tmp j) (.tmp j') false,oty,pos,after,g⟩ ⟨l.toArray,ds⟩ w K Q:=by
 obtain⟨e,h1,h2⟩:=hT.map_
 have hrun:=ho.look hT.key h1 false (zero_run h2 w) x hs
 refine owp_of ?_
 unfold Oper.wp execOp
 have hk:K (Act.put ⟨l.toArray,ds⟩ dst ((f x).getD v0)) w:=by rw[hd.put];exact h
 simp only[eval_tmp hm.nth,eval_tmp hx.nth,Sem.run_bind,Sem.run_pure,hrun,Bool.false_eq_true,if_false,Result.andThen_ok]
 exact hk
theorem q_looks{k:TypeId}{v0:Value}{f:MapF}{x:ByteArray}[hm:Nth l j (.map (some z))][hx:Nth l j' (.string x)][hT:MapI P t k v0](ho:MapOf P k w z n f)(hs:x.size≤maxLen)[hd:PutI l dst (.tuple #[(f x).getD v0,.bool (f x).isSome]) l'](h:K ⟨l'.toArray,ds⟩ w):OWP P ⟨dst,.lookup t (.tmp j) (.tmp j') true,oty,pos,after,g⟩ ⟨l.toArray,ds⟩ w K Q:=by
 obtain⟨e,h1,h2⟩:=hT.map_
 have hrun:=ho.look hT.key h1 true (zero_run h2 w) x hs
 refine owp_of ?_
 unfold Oper.wp execOp
 have hk:K (Act.put ⟨l.toArray,ds⟩ dst (.tuple #[(f x).getD v0,.bool (f x).isSome])) w:=by rw[hd.put];exact h
 simp only[eval_tmp hm.nth,eval_tmp hx.nth,Sem.run_bind,Sem.run_pure,hrun,if_true,Result.andThen_ok]
 exact hk
theorem q_mset{k:TypeId}{v0 v:Value}{f:MapF}{x:ByteArray}[hm:Nth l j (.map (some z))][hx:Nth l j' (.string x)][hT:MapI P t k v0]{y:Operand}(hy:Act.eval ⟨l.toArray,ds⟩ y=v)(ho:MapOf P k w z n f)(hn:n<maxLen)(hs:x.size≤maxLen)[hd:PutI l dst undef l']
  (h: ∀ w',MapOf P k w' z (n+1) (putTx f x v)→But z w w' →K ⟨l'.toArray,ds⟩ w'):OWP P ⟨dst,.mapUpdate t (.tmp j) (.tmp j') y,oty,pos,after,g⟩ ⟨l.toArray,ds⟩ w K Q:=by
 obtain⟨e,h1,h2⟩:=hT.map_
 obtain⟨w',hrun,ho',hg⟩:=ho.upd hT.key h1 hn x hs v
 refine owp_of ?_
 unfold Oper.wp execOp
 have hk:K (Act.put ⟨l.toArray,ds⟩ dst undef) w' :=by rw[hd.put];exact h w' ho' (But.of_grown hg ho.lt)
 simp only[eval_tmp hm.nth,eval_tmp hx.nth,hy,Sem.run_bind,Sem.run_pure,hrun,Result.andThen_ok]
 exact hk
end
end Go.Proofs.Ytpnhkkjjdcjmgaa
