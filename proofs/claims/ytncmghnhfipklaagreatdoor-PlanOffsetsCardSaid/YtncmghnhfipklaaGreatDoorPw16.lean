/-
  Maps by texts, as parts of a function's own memory.
-/
import Derived.Test.YtncmghnhfipklaaGreatDoorPw10
import Derived.Maps.Own
import Derived.Maps.Views
import Derived.Test.YtncmghnhfipklaaGreatDoorPw13
namespace Go.Proofs.YtncmghnhfipklaaGreatDoor
open Go.RowKit Go.ChangeMaps
set_option linter.unusedVariables false
set_option linter.unusedSimpArgs false
def RV(v:Value):Option (DataW Value×List MemPlace):=some (.held v,[])
abbrev MapF:=ByteArray→Option Value
def noneF:MapF:=fun _=>none
def putF(f:MapF)(s:ByteArray)(v:Value):MapF:=fun x=>if x=s then some v else f x
def MapOf(P:Program)(k:TypeId)(w:World)(z n:Nat)(f:MapF):Prop:=
 ∃ D:DataW Value,w.ownsMap P k RV z n D∧Go.Maps.IsMap D∧ ∀ s:ByteArray,s.size≤maxLen→ ∀ zd,D.atKey (.string s.data.toList) zd=(match f s with|none=>zd|some v=> .held v)
section
variable {P:Program} {k t e:TypeId} {w w' :World} {z n:Nat} {f:MapF}
theorem MapOf.lt(h:MapOf P k w z n f):z<w.heap.size:=by
 obtain⟨D,h1,_⟩:=h
 exact h1.lt
theorem MapOf.same(h:MapOf P k w z n f)(hb:w'.heap[z]?=w.heap[z]?):MapOf P k w' z n f:=by
 obtain⟨D,⟨es,c,h1,h2,h3,h4⟩,h5⟩:=h
 exact⟨D,⟨es,c,hb.trans h1,h2,h3,h4⟩,h5⟩
theorem MapOf.made:MapOf P k (w.alloc (.map #[] 0)) w.heap.size 0 noneF:=
 ⟨.map [],World.ownsMap_made w P k RV,Go.Maps.isMap_empty,fun s _ zd=>rfl⟩
theorem MapOf.mono(h:MapOf P k w z n f){m:Nat}(hm:n≤m):MapOf P k w z m f:=by
 obtain⟨D,h1,h2⟩:=h
 exact⟨D,h1.mono hm,h2⟩
theorem MapOf.look(h:MapOf P k w z n f)(hk:P.underlying k=some .string)(ht:P.underlying t=some (.map k e))(c:Bool){v0:Value}(hz:(zeroValue e).run P w= .ok v0 w)(s:ByteArray)(hs:s.size≤maxLen):
  (Instr.lookup t (.map (some z)) (.string s) c).run P w= .ok (if c then .tuple #[(f s).getD v0,.bool (f s).isSome]else(f s).getD v0) w:=by
 obtain⟨D,⟨es,cl,h1,h2,h3,rfl⟩,h5,h6⟩:=h
 have hat:=h6 s hs
 rcases Go.Maps.fit_look c (Go.Maps.string_keyed hk) ht hz h1 h2 (Go.WideMaps.keyOf_string_mk hk hs)with⟨hrun, -,h7⟩|⟨e0,y, -, -,hrun,hy,h7, -⟩
 ·have hf:f s=none:=by
   have a:=(hat (.held undef)).symm.trans (h7 (.held undef))
   have b:=(hat (.map [])).symm.trans (h7 (.map []))
   cases hq:f s with
   |none=>rfl
   |some v=>rw[hq]at b;cases b
  rw[hrun,hf]
  cases c<;>rfl
 ·have hy' :y=(.held e0.val,[]):=by
   have:=hy
   unfold RV at this
   injection this with this
   exact this.symm
  have hf:f s=some e0.val:=by
   have b:=(hat (.map [])).symm.trans (h7 (.map []))
   rw[hy']at b
   cases hq:f s with
   |none=>rw[hq]at b;cases b
   |some v=>rw[hq]at b;injection b with b;rw[b]
  rw[hrun,hf]
  cases c<;>rfl
theorem data_inj{a b:ByteArray}(h:a.data.toList=b.data.toList):a=b:=by
 cases a;cases b
 simp only[ByteArray.mk.injEq]
 exact Array.toList_inj.1 h
theorem MapOf.upd(h:MapOf P k w z n f)(hk:P.underlying k=some .string)(ht:P.underlying t=some (.map k e))(hn:n<maxLen)(s:ByteArray)(hs:s.size≤maxLen)(v:Value):
  ∃ w',(Instr.mapUpdate t (.map (some z)) (.string s) v).run P w= .ok () w' ∧MapOf P k w' z (n+1) (putF f s v)∧w.grownBy w' (some z):=by
 obtain⟨D,h1,h2,h3⟩:=h
 obtain⟨w',hrun,ho,hg⟩:=h1.update (Go.Maps.string_keyed hk) ht hn (Go.WideMaps.keyOf_string_mk hk hs) (val:=v) (d:= .held v) (ps:=[]) rfl
 refine⟨w',hrun,⟨_,ho,h2.put _ _,fun x hx zd=>?_⟩,hg⟩
 unfold putF
 by_cases he:x=s
 ·subst he
  rw[if_pos rfl]
  exact Go.Maps.atKey_put_same h2 (by trivial) _ _
 ·rw[if_neg he]
  rw[Go.Maps.atKey_put_other (fun e=>he (data_inj (by injection e)))]
  exact h3 x hx zd
end
def mp(P:Program)(k:TypeId)(z n:Nat)(f:MapF):Ent:=⟨fun y=>some z=some y,fun _ w=>MapOf P k w z n f⟩
theorem mp_firm(P:Program)(k:TypeId)(z n:Nat)(f:MapF):(mp P k z n f).firm:=fun F G w w' _ _ hz hlt h=>MapOf.same h (hz z rfl (hlt z rfl))
section
variable {P:Program} {o:Oper} {a:Act} {Q:Exit→Act→World→Prop} {K:Act→World→Prop}
variable {At:PS→World→Prop} {b:Nat} {u w:World} {s:PS} {L:List Ent}
theorem op_map(M:Mem At b u w s L)(k:TypeId){t:Nat}(ho:o.op= .makeMap t none)
  (h: ∀ z w',Mem At b u w' s (mp P k z 0 noneF::L)→K (a.put o.dst (.map (some z))) w'):o.wp P a w K Q:=by
 have hlow: ∀ y,(mp P k w.heap.size 0 noneF).blk y→w.heap.size≤y∧y<(w.alloc (.map #[] 0)).heap.size:=fun y hy=>by
  have e:w.heap.size=y:=by injection hy
  subst e
  simp
 unfold Oper.wp execOp
 simp only[ho,Option.map_none]
 exact h w.heap.size _ (M.push (Joins.below_alloc1 w _) (mp_firm _ _ _ _ _) hlow (fun G _=>MapOf.made))
theorem Mem.remap{k:TypeId}{z n m i:Nat}{f f' :MapF}{w' :World}(M:Mem At b u w s L)(hi:L[i]?=some (mp P k z n f))(hb:But z w w')(ho:MapOf P k w' z m f'):Mem At b u w' s (L.set i (mp P k z m f')):=by
 have hlow:=M.low _ (Mem.of_get hi) z rfl
 have hbl:b<w.heap.size:=Nat.lt_of_lt_of_le M.lt M.size
 have hne:b≠z:=by have:=M.lt;omega
 have h1:w'.heap[b]?=w.heap[b]?:=hb.rest b hbl hne
 have hsz:=hb.size
 refine M.setAt hi (M.stay _ _ _ h1 M.at_) ?_ hsz (fun k hk _ hk2=>hb.rest k hk (fun e=>hk2 (by rw[e];rfl))) (mp_firm _ _ _ _ _) (fun y hy=>?_) (fun y hy=> .inr hy) (fun G _ _=>ho)
 ·refine⟨M.but.below.trans (hb.below.mono (by have:=M.lt;omega)),fun k hk hkb=>?_⟩
  rw[hb.rest k (Nat.lt_of_lt_of_le hk M.size) (by omega)]
  exact M.but.rest k hk hkb
 ·have e:z=y:=by injection hy
  subst e
  exact⟨hlow.1,Nat.lt_of_lt_of_le hlow.2 hsz⟩
theorem Mem.map_{k:TypeId}{z n i:Nat}{f:MapF}(M:Mem At b u w s L)(hi:L[i]?=some (mp P k z n f)):MapOf P k w z n f:=M.say _ (Mem.of_get hi)
theorem But.of_grown{z:Nat}{w w' :World}(h:w.grownBy w' (some z))(hz:z<w.heap.size):But z w w' :=
 ⟨(Below.refl z w).grown h (Nat.le_of_lt hz) (fun g hg=>by cases hg;exact Nat.le_refl _),fun k hk hkz=>h.block k hk (fun e=>hkz (by cases e;rfl))⟩
end
section
variable {P:Program} {dst:Option Tmp} {oty:TypeId} {pos:String} {after:Array Edge} {g:Option (Nat×Bool)} {l l' :List Value} {ds:List Deferred} {Q:Exit→Act→World→Prop} {K:Act→World→Prop}
variable {At:PS→World→Prop} {b:Nat} {u w:World} {s:PS} {L:List Ent} {t j j' z n:Nat}
class MapI (P:Program) (t:TypeId) (k:outParam TypeId) (v0:outParam Value):Prop where
 key:P.underlying k=some .string
 map_: ∃ e,P.underlying t=some (.map k e)∧(P.info? e).map (·.zero)=some (some v0)
theorem zero_run{e:TypeId}{v0:Value}(h:(P.info? e).map (·.zero)=some (some v0))(w:World):(zeroValue e).run P w= .ok v0 w:=by
 cases hq:P.info? e with
 |none=>simp[hq]at h
 |some i=>simp[hq]at h;simp[zeroValue,typeInfo,hq,h]
theorem q_map(M:Mem At b u w s L){k:TypeId}{v0:Value}[hT:MapI P t k v0]{F:Nat→List Value}[hd: ∀ z,PutI l dst (.map (some z)) (F z)](h: ∀ z w',Mem At b u w' s (mp P k z 0 noneF::L)→K ⟨(F z).toArray,ds⟩ w'):OWP P ⟨dst,.makeMap t none,oty,pos,after,g⟩ ⟨l.toArray,ds⟩ w K Q:=
 owp_of (op_map M k rfl (fun z w' M' =>by rw[(hd z).put];exact h z w' M'))
theorem q_look{k:TypeId}{v0:Value}{f:MapF}{x:ByteArray}[hm:Nth l j (.map (some z))][hx:Nth l j' (.string x)][hT:MapI P t k v0](ho:MapOf P k w z n f)(hs:x.size≤maxLen)[hd:PutI l dst ((f x).getD v0) l'](h:K ⟨l'.toArray,ds⟩ w):OWP P ⟨dst,.lookup t (.tmp j) (.tmp j') false,oty,pos,after,g⟩ ⟨l.toArray,ds⟩ w K Q:=by
 obtain⟨e,h1,h2⟩:=hT.map_
 have hrun:=ho.look hT.key h1 false (zero_run h2 w) x hs
 refine owp_of ?_
 unfold Oper.wp execOp
 have hk:K (Act.put ⟨l.toArray,ds⟩ dst ((f x).getD v0)) w:=by rw[hd.put];exact h
 simp only[eval_tmp hm.nth,eval_tmp hx.nth,Sem.run_bind,Sem.run_pure,hrun,Bool.false_eq_true,if_false,Result.andThen_ok]
 exact hk
theorem q_looks{k:TypeId}{v0:Value}{f:MapF}{x:ByteArray}[hm:Nth l j (.map (some z))][hx:Nth l j' (.string x)][hT:MapI P t k v0](ho:MapOf P k w z n f)(hs:x.size≤maxLen)[hd:PutI l dst (.tuple #[(f x).getD v0,.bool (f x).isSome]) l'](h:K ⟨l'.toArray,ds⟩ w):OWP P ⟨dst,.lookup t (.tmp j) (.tmp j') true,oty,pos,after,g⟩ ⟨l.toArray,ds⟩ w K Q:=by
 obtain⟨e,h1,h2⟩:=hT.map_
 have hrun:=ho.look hT.key h1 true (zero_run h2 w) x hs
 refine owp_of ?_
 unfold Oper.wp execOp
 have hk:K (Act.put ⟨l.toArray,ds⟩ dst (.tuple #[(f x).getD v0,.bool (f x).isSome])) w:=by rw[hd.put];exact h
 simp only[eval_tmp hm.nth,eval_tmp hx.nth,Sem.run_bind,Sem.run_pure,hrun,if_true,Result.andThen_ok]
 exact hk
theorem q_mset{k:TypeId}{v0 v:Value}{f:MapF}{x:ByteArray}[hm:Nth l j (.map (some z))][hx:Nth l j' (.string x)][hT:MapI P t k v0]{y:Operand}(hy:Act.eval ⟨l.toArray,ds⟩ y=v)(ho:MapOf P k w z n f)(hn:n<maxLen)(hs:x.size≤maxLen)[hd:PutI l dst undef l']
  (h: ∀ w',MapOf P k w' z (n+1) (putF f x v)→But z w w' →K ⟨l'.toArray,ds⟩ w'):OWP P ⟨dst,.mapUpdate t (.tmp j) (.tmp j') y,oty,pos,after,g⟩ ⟨l.toArray,ds⟩ w K Q:=by
 obtain⟨e,h1,h2⟩:=hT.map_
 obtain⟨w',hrun,ho',hg⟩:=ho.upd hT.key h1 hn x hs v
 refine owp_of ?_
 unfold Oper.wp execOp
 have hk:K (Act.put ⟨l.toArray,ds⟩ dst undef) w' :=by rw[hd.put];exact h w' ho' (But.of_grown hg ho.lt)
 simp only[eval_tmp hm.nth,eval_tmp hx.nth,hy,Sem.run_bind,Sem.run_pure,hrun,Result.andThen_ok]
 exact hk
end
instance :MapI Tryz.prog 91 9 (.bool false):=⟨Tryz.underlying9,4,Tryz.underlying91,by kernel_rfl⟩
instance :MapI Tryz.prog 88 9 (.agg #[.string ByteArray.empty,.slice none 0 0]):=⟨Tryz.underlying9,51,Tryz.underlying88,by kernel_rfl⟩
end Go.Proofs.YtncmghnhfipklaaGreatDoor
/-
  The walks of the program's Check, first part: names, types. Printed by pga.py.
-/
namespace Go.Proofs.YtncmghnhfipklaaGreatDoor
open Go.RowKit
set_option linter.unusedVariables false
set_option linter.unusedSimpArgs false
structure Env (F:Nat→Prop) (w:World):Prop where
 kept:SlF F w 1 wordF (some ⟨0,0,none⟩) 17 17 keptL
 rels:SlF F w 1 wordF (some ⟨1,0,none⟩) 14 14 relsL
theorem Env.same{F G:Nat→Prop}{w w' :World}(h:Env F w)(hs:Same F G w w'):Env G w' :=⟨h.kept.same (plainF_firm _) hs,h.rels.same (plainF_firm _) hs⟩
theorem Env.below{F:Nat→Prop}{w w' :World}(h:Env F w)(hb:Below w.heap.size w w'):Env F w' :=h.same (Same.below hb)
theorem Env.lt{F:Nat→Prop}{w:World}(h:Env F w):0<w.heap.size:=by
 obtain⟨h1,h2,h3,h4,h5⟩:=h.kept
 obtain⟨b,off,row,e, -,hlt, -⟩:=h5 0 (by decide)
 injection e with e
 injection e with e1 e2
 rw[e1]
 exact hlt
section
variable {At:PS→World→Prop} {b:Nat} {u w:World} {s:PS} {L:List Ent} {P:Program} {l:List Value}
theorem q_ret2{fn:Func}{R:Ending→World→Prop}{j t1:Tmp}{ty:TypeId}{z:Nat}{cs:List Value}{t:TypeId}{i m:Nat}{r1:Value}(M:Mem At b u w s L)(hres:fn.results= #[.cell j ty,.tmp t1])[hp:Nth l j (.pointer (some ⟨z,0,none⟩))][h1:Nth l t1 r1]
  [hz:Has L z i cs t][hT:StI P ty m](hl:Nat.beq cs.length m=true)(hk: ∃ d,P.underlying ty=some d∧(match d with| .struct _| .array _ _=>true|_=>false)=true)(hR:R (.returned (.tuple #[.agg cs.toArray,r1])) w):bodyPost P fn R .ret ⟨l.toArray,[]⟩ w:=by
 obtain⟨d,hu,hd⟩:=hk
 have hO:=M.own_ (Mem.of_get hz.at_)
 have hp' :(l.toArray)[j]?.getD undef= .pointer (some ⟨z,0,none⟩):=by simp[hp.nth]
 have h1' :(l.toArray)[t1]?.getD undef=r1:=by simp[h1.nth]
 refine bodyPost_ret ?_ rfl hR
 have hi:(P.info? ty).map (·.size)=some cs.toArray.size:=by rw[List.size_toArray,Nat.eq_of_beq_eq_true hl];exact hT.st.1
 have hL:=run_loadVar_row w z t ty cs.toArray (0,0) d hO hu (by cases d<;>simp_all) hi
 simp only[List.getElem?_toArray]at hp' h1'
 simp[results,hres,hp',h1',asAddr,hL]
end
def TypAs(F:Nat→Prop)(w:World)(t:Typ)(cs:List Value):Prop:= ∃ a n c,cs=[.string t.name,.slice a n c]∧SlF F w 2 (plainF fldC) a n c t.fields
def TypdPost(F:Nat→Prop)(ts:List Typ)(nm:ByteArray)(w0 w:World):Ending→World→Prop:=fun e w' =>
 ∃ tn a n c,e= .returned (.tuple #[.agg #[.string tn,.slice a n c],.int .i64 (if typI ts nm<ts.length then 0 else 6)])∧Below w.heap.size w w' ∧(typI ts nm<ts.length→tn=(typAt ts nm).name∧SlF F w0 2 (plainF fldC) a n c (typAt ts nm).fields)
theorem SlF.rowAtS{α:Type}{F:Nat→Prop}{k:Nat}{R:(Nat→Prop)→World→List Value→α→Prop}{ao:Option Addr}{n cap:Nat}{xs:List α}{w:World}{P:Program}{t e:Nat}(hX:SlF F w k R ao n cap xs)(ht:P.underlying t=some (.slice e))(hs:SizeIs P e k){i:Nat}(hi:i<xs.length):
  ∃ c off row,(∀ wx,(Instr.indexAt t (.slice ao n cap) (.int .i64 i)).run P wx= .ok (.pointer (some ⟨c,off,none⟩)) wx)∧R F w row xs[i]∧ ∀ wx G,Same F G w wx→wx.rangeAt c off row:=by
 obtain⟨h1,h2,h3,h5,h4⟩:=hX
 obtain⟨b,off,row,rfl,hF,hlt,hr,hR⟩:=h4 i hi
 refine⟨b,off+i*k,row,fun wx=>?_,hR,fun wx G hsm=>(rowAt_same hr (hsm.2 b hF hlt).2).range⟩
 have hin:(i:Int)<n:=by omega
 have hsw:=hs wx
 simp[Instr.indexAt,run_underlying ht,asIntOf,hsw,Addr.add]
 rw[if_pos (by omega)]
 by_cases e:i*k=0
 ·rw[if_pos e,e];simp
 ·rw[if_neg e]
section
variable {g:Nat} {F:Nat→Prop} {ao:Option Addr} {n cap:Nat} {w0:World} {ts:List Typ}
set_option maxHeartbeats 2000000 in
theorem cname_any(s:ByteArray)(w0:World)(hs:s.size≤maxLen)(E:Env F w0):
  Calls Tryz.prog 37 #[.string s] w0 fun e w' =>e= .returned (.int .i64 (freeE s))∧Below w0.heap.size w0 w' :=by
 have M:=Mem.begin E.lt ⟨0,0⟩
 have HN:Hid (∀ wx,Calls Tryz.prog 35 #[.string s] wx fun e w' =>e= .returned (.int .i64 (nameE s))∧Below wx.heap.size wx w'):=fun wx=>(name_any s wx hs).mono (by rintro e w' ⟨rfl,rfl⟩;exact⟨rfl,Below.refl _ _⟩)
 have HK:Hid (∀ wx,Below w0.heap.size w0 wx→Calls Tryz.prog 19 #[.string s] wx fun e w' =>e= .returned (.bool (keptB s))∧Below wx.heap.size wx w'):=fun wx hb=>(kept_any F s wx (E.below hb).kept (E.below hb).rels).mono (by rintro e w' ⟨rfl,rfl⟩;exact⟨rfl,Below.refl _ _⟩)
 by_cases h0:nameE s=0
 ·have HV:Hid (freeE s=if keptB s=true then 4 else 0):=by show _=_;unfold freeE;rw[if_pos h0]
  rw[h0]at HN
  rw[HV.out]
  clear HV E
  generalize keptB s=kb at HK ⊢
  go_enter Tryz.func37,Tryz.ntmps37
  cases kb<;>(go_wp2_with (first|(go_at_call 35;with_reducible refine(HN.out _).mono ?_;rintro e w5 ⟨rfl,hb5⟩;replace M:=M.below hb5;clear hb5)|(go_at_call 19;with_reducible refine(HK.out _ M.new).mono ?_;rintro e w5 ⟨rfl,hb5⟩;replace M:=M.below hb5;clear hb5));go_ret;exact⟨rfl,M.new⟩)
 ·have HV:Hid (freeE s=nameE s):=by show _=_;unfold freeE;rw[if_neg h0]
  have hb:(nameE s !=0)=true:=by simpa using h0
  rw[HV.out]
  clear HV E h0 HK
  generalize nameE s=ne at HN hb ⊢
  go_enter Tryz.func37,Tryz.ntmps37
  go_wp2_with (go_at_call 35;with_reducible refine(HN.out _).mono ?_;rintro e w5 ⟨rfl,hb5⟩;replace M:=M.below hb5;clear hb5)
  go_ret
  exact⟨rfl,M.new⟩
set_option maxRecDepth 8000 in
set_option maxHeartbeats 4000000 in
theorem typed_any{w1:World}(hsm:Same F F w0 w1)(hg:g<w1.heap.size)(hX:SlF F w0 2 typF ao n cap ts)(zs:Nat)(hz:zs<w1.heap.size)(h0:w1.cell? ⟨zs,0,none⟩=some (.slice ao n cap))(nm:ByteArray):
  Calls Tryz.prog 63 #[.pointer (some ⟨zs,0,none⟩),.string nm] w1 (TypdPost F ts nm w0 w1):=by
 have NL:=Lib.hid hX.len
 have hle:=hX.le
 have M:=Mem.begin hg ⟨0,0⟩
 have HX:=Lib.hid hX
 have HSM:=Lib.hid (fun wx (hb:Below w1.heap.size w1 wx)=>hsm.trans (Same.below hb))
 have HS0:Hid (∀ wx,Below w1.heap.size w1 wx→wx.cell? ⟨zs,0,none⟩=some (.slice ao n cap)):=fun wx hb=>by rw[(bcell hb).1 _ _ hz];exact h0
 clear hX hg hz h0 hsm
 go_enter Tryz.func63,Tryz.ntmps63
 go_wp2_with (with_reducible (first|(refine wV M ?_;clear M;intro zr w M)|refine wC (HS0.out _ M.new) ?_))
 go_loopg [13] n (fun f i wr=> ∃ k:Nat,k+f=n∧i= .int .i64 k∧Mem (StaysB g w1) g w1 wr ⟨0,0⟩ (own zr [.string ByteArray.empty,.slice none 0 0] 51::[])∧Hid (NoB ts (fun t=>sameS t.name nm) k))
 case atStart=>exact⟨0,by omega,rfl,M,noB_zero _ _⟩
 case round=>
  clear M
  obtain⟨k,hk,rfl,M,HB⟩:=hrel
  by_cases hlt:k<n
  ·have hkl:k<ts.length:=by have:=NL.out;omega
   obtain⟨ca,oa,rowa,hixa,hrra,hwa⟩:=SlF.rowAtS (P:=Tryz.prog) HX.out Tryz.underlying22 size_typ (i:=k) hkl
   obtain⟨p1,q1,s1,ea,u1⟩:=hrra
   subst ea
   have HR:=Lib.hid (fun wx hb=>hwa wx F (HSM.out wx hb))
   have HP:Hid (∀ b,sameS ts[k].name nm=b→(ts[k].name.toList==nm.toList)=b):=fun b h=>h
   have HS:Hid (sameS ts[k].name nm=true→typI ts nm<ts.length∧ts[k].name=(typAt ts nm).name∧SlF F w0 2 (plainF fldC) p1 q1 s1 (typAt ts nm).fields):=fun h=>by
    have e:typI ts nm=k:=noB_at HB.out hkl h
    have e2:typAt ts nm=ts[k]:=by unfold typAt;rw[e,List.getD_eq_getElem?_getD,List.getElem?_eq_getElem hkl];rfl
    rw[e,e2]
    exact⟨hkl,rfl,u1⟩
   have HT:Hid (sameS ts[k].name nm=false→NoB ts (fun t=>sameS t.name nm) (k+1)):=fun h=>noB_succ HB.out hkl h
   clear hwa u1 HB
   unfold typC at HR
   generalize ts[k].name=tn at HR HP HS HT
   cases hsm:sameS tn nm with
   |true=>
    have hq:=HP.out _ hsm
    have HV:=Lib.hid (HS.out hsm)
    clear HP HS HT hsm
    go_wp2_with (with_reducible (first|(refine wV M ?_;clear M;intro zy w M)|refine wq M ?_|(refine wS M ?_;clear M;intro w M)|refine wA (HR.out _ M.new) ?_))
    refine q_ret2 M Tryz.results63 (by rfl) ⟨_,Tryz.underlying51,rfl⟩ ?_
    exact⟨tn,p1,q1,s1,by rw[if_pos HV.out.1],M.new,fun _=>HV.out.2⟩
   |false=>
    have hq:=HP.out _ hsm
    have HV:=Lib.hid (HT.out hsm)
    clear HP HS HT hsm
    go_wp2_with (with_reducible (first|(refine wV M ?_;clear M;intro zy w M)|refine wq M ?_|(refine wS M ?_;clear M;intro w M)|refine wA (HR.out _ M.new) ?_))
    go_roundg (n - (k+1))
    case measure=>omega
    case rel=>exact⟨k+1,by omega,by go_num,M.drop,HV⟩
  ·have HV:Hid (¬ typI ts nm<ts.length):=by
    have e:k=ts.length:=by have:=NL.out;omega
    have h:typI ts nm=ts.length:=noB_none (e▸HB.out)
    show ¬ _
    omega
   go_wp2_with (with_reducible (refine wS M ?_;clear M;intro w M))
   refine q_ret2 M Tryz.results63 (by rfl) ⟨_,Tryz.underlying51,rfl⟩ ?_
   exact⟨_,_,_,_,by rw[if_neg HV.out],M.new,fun h=>absurd h HV.out⟩
end
end Go.Proofs.YtncmghnhfipklaaGreatDoor
