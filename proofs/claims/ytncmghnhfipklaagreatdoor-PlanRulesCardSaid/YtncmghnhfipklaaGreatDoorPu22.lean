/-
  The walks of the program's Check, first part: names, types. Printed by pga.py.
-/
import Derived.Test.YtncmghnhfipklaaGreatDoorPu19
import Derived.Test.YtncmghnhfipklaaGreatDoorPu21
namespace Go.Proofs.YtncmghnhfipklaaGreatDoor
open Go.RowKit
set_option linter.unusedVariables false
set_option linter.unusedSimpArgs false
structure Env (F:Nat→Prop) (w:World):Prop where
 kept:SlF F w 1 wordF (some ⟨0,0,none⟩) 17 17 keptL
 rels:SlF F w 1 wordF (some ⟨1,0,none⟩) 14 14 relsL
theorem Env.same{F G:Nat→Prop}{w w' :World}(h:Env F w)(hs:Same F G w w'):Env G w' :=⟨h.kept.same (plainF_firm _) hs,h.rels.same (plainF_firm _) hs⟩
theorem Env.below{F:Nat→Prop}{w w' :World}(h:Env F w)(hb:Below w.heap.size w w'):Env F w' :=h.same (Same.below hb)
theorem Env.lt{F:Nat→Prop}{w:World}(h:Env F w):0<w.heap.size:=by
 obtain⟨h1,h2,h3,h4,h5⟩:=h.kept
 obtain⟨b,off,row,e, -,hlt, -⟩:=h5 0 (by decide)
 injection e with e
 injection e with e1 e2
 rw[e1]
 exact hlt
section
variable {At:PS→World→Prop} {b:Nat} {u w:World} {s:PS} {L:List Ent} {P:Program} {l:List Value}
theorem q_ret2{fn:Func}{R:Ending→World→Prop}{j t1:Tmp}{ty:TypeId}{z:Nat}{cs:List Value}{t:TypeId}{i m:Nat}{r1:Value}(M:Mem At b u w s L)(hres:fn.results= #[.cell j ty,.tmp t1])[hp:Nth l j (.pointer (some ⟨z,0,none⟩))][h1:Nth l t1 r1]
  [hz:Has L z i cs t][hT:StI P ty m](hl:Nat.beq cs.length m=true)(hk: ∃ d,P.underlying ty=some d∧(match d with| .struct _| .array _ _=>true|_=>false)=true)(hR:R (.returned (.tuple #[.agg cs.toArray,r1])) w):bodyPost P fn R .ret ⟨l.toArray,[]⟩ w:=by
 obtain⟨d,hu,hd⟩:=hk
 have hO:=M.own_ (Mem.of_get hz.at_)
 have hp' :(l.toArray)[j]?.getD undef= .pointer (some ⟨z,0,none⟩):=by simp[hp.nth]
 have h1' :(l.toArray)[t1]?.getD undef=r1:=by simp[h1.nth]
 refine bodyPost_ret ?_ rfl hR
 have hi:(P.info? ty).map (·.size)=some cs.toArray.size:=by rw[List.size_toArray,Nat.eq_of_beq_eq_true hl];exact hT.st.1
 have hL:=run_loadVar_row w z t ty cs.toArray (0,0) d hO hu (by cases d<;>simp_all) hi
 simp only[List.getElem?_toArray]at hp' h1'
 simp[results,hres,hp',h1',asAddr,hL]
end
def TypAs(F:Nat→Prop)(w:World)(t:Typ)(cs:List Value):Prop:= ∃ a n c,cs=[.string t.name,.slice a n c]∧SlF F w 2 (plainF fldC) a n c t.fields
def TypdPost(F:Nat→Prop)(ts:List Typ)(nm:ByteArray)(w0 w:World):Ending→World→Prop:=fun e w' =>
 ∃ tn a n c,e= .returned (.tuple #[.agg #[.string tn,.slice a n c],.int .i64 (if typI ts nm<ts.length then 0 else 6)])∧Below w.heap.size w w' ∧(typI ts nm<ts.length→tn=(typAt ts nm).name∧SlF F w0 2 (plainF fldC) a n c (typAt ts nm).fields)
theorem SlF.rowAtS{α:Type}{F:Nat→Prop}{k:Nat}{R:(Nat→Prop)→World→List Value→α→Prop}{ao:Option Addr}{n cap:Nat}{xs:List α}{w:World}{P:Program}{t e:Nat}(hX:SlF F w k R ao n cap xs)(ht:P.underlying t=some (.slice e))(hs:SizeIs P e k){i:Nat}(hi:i<xs.length):
  ∃ c off row,(∀ wx,(Instr.indexAt t (.slice ao n cap) (.int .i64 i)).run P wx= .ok (.pointer (some ⟨c,off,none⟩)) wx)∧R F w row xs[i]∧ ∀ wx G,Same F G w wx→wx.rangeAt c off row:=by
 obtain⟨h1,h2,h3,h5,h4⟩:=hX
 obtain⟨b,off,row,rfl,hF,hlt,hr,hR⟩:=h4 i hi
 refine⟨b,off+i*k,row,fun wx=>?_,hR,fun wx G hsm=>(rowAt_same hr (hsm.2 b hF hlt).2).range⟩
 have hin:(i:Int)<n:=by omega
 have hsw:=hs wx
 simp[Instr.indexAt,run_underlying ht,asIntOf,hsw,Addr.add]
 rw[if_pos (by omega)]
 by_cases e:i*k=0
 ·rw[if_pos e,e];simp
 ·rw[if_neg e]
section
variable {g:Nat} {F:Nat→Prop} {ao:Option Addr} {n cap:Nat} {w0:World} {ts:List Typ}
set_option maxHeartbeats 2000000 in
theorem cname_any(s:ByteArray)(w0:World)(hs:s.size≤maxLen)(E:Env F w0):
  Calls Tryz.prog 37 #[.string s] w0 fun e w' =>e= .returned (.int .i64 (freeE s))∧Below w0.heap.size w0 w' :=by
 have M:=Mem.begin E.lt ⟨0,0⟩
 have HN:Hid (∀ wx,Calls Tryz.prog 35 #[.string s] wx fun e w' =>e= .returned (.int .i64 (nameE s))∧Below wx.heap.size wx w'):=fun wx=>(name_any s wx hs).mono (by rintro e w' ⟨rfl,rfl⟩;exact⟨rfl,Below.refl _ _⟩)
 have HK:Hid (∀ wx,Below w0.heap.size w0 wx→Calls Tryz.prog 19 #[.string s] wx fun e w' =>e= .returned (.bool (keptB s))∧Below wx.heap.size wx w'):=fun wx hb=>(kept_any F s wx (E.below hb).kept (E.below hb).rels).mono (by rintro e w' ⟨rfl,rfl⟩;exact⟨rfl,Below.refl _ _⟩)
 by_cases h0:nameE s=0
 ·have HV:Hid (freeE s=if keptB s=true then 4 else 0):=by show _=_;unfold freeE;rw[if_pos h0]
  rw[h0]at HN
  rw[HV.out]
  clear HV E
  generalize keptB s=kb at HK ⊢
  go_enter Tryz.func37,Tryz.ntmps37
  cases kb<;>(go_wp2_with (first|(go_at_call 35;with_reducible refine(HN.out _).mono ?_;rintro e w5 ⟨rfl,hb5⟩;replace M:=M.below hb5;clear hb5)|(go_at_call 19;with_reducible refine(HK.out _ M.new).mono ?_;rintro e w5 ⟨rfl,hb5⟩;replace M:=M.below hb5;clear hb5));go_ret;exact⟨rfl,M.new⟩)
 ·have HV:Hid (freeE s=nameE s):=by show _=_;unfold freeE;rw[if_neg h0]
  have hb:(nameE s !=0)=true:=by simpa using h0
  rw[HV.out]
  clear HV E h0 HK
  generalize nameE s=ne at HN hb ⊢
  go_enter Tryz.func37,Tryz.ntmps37
  go_wp2_with (go_at_call 35;with_reducible refine(HN.out _).mono ?_;rintro e w5 ⟨rfl,hb5⟩;replace M:=M.below hb5;clear hb5)
  go_ret
  exact⟨rfl,M.new⟩
set_option maxRecDepth 8000 in
set_option maxHeartbeats 4000000 in
theorem typed_any{w1:World}(hsm:Same F F w0 w1)(hg:g<w1.heap.size)(hX:SlF F w0 2 typF ao n cap ts)(zs:Nat)(hz:zs<w1.heap.size)(h0:w1.cell? ⟨zs,0,none⟩=some (.slice ao n cap))(nm:ByteArray):
  Calls Tryz.prog 63 #[.pointer (some ⟨zs,0,none⟩),.string nm] w1 (TypdPost F ts nm w0 w1):=by
 have NL:=Lib.hid hX.len
 have hle:=hX.le
 have M:=Mem.begin hg ⟨0,0⟩
 have HX:=Lib.hid hX
 have HSM:=Lib.hid (fun wx (hb:Below w1.heap.size w1 wx)=>hsm.trans (Same.below hb))
 have HS0:Hid (∀ wx,Below w1.heap.size w1 wx→wx.cell? ⟨zs,0,none⟩=some (.slice ao n cap)):=fun wx hb=>by rw[(bcell hb).1 _ _ hz];exact h0
 clear hX hg hz h0 hsm
 go_enter Tryz.func63,Tryz.ntmps63
 go_wp2_with (with_reducible (first|(refine wV M ?_;clear M;intro zr w M)|refine wC (HS0.out _ M.new) ?_))
 go_loopg [13] n (fun f i wr=> ∃ k:Nat,k+f=n∧i= .int .i64 k∧Mem (StaysB g w1) g w1 wr ⟨0,0⟩ (own zr [.string ByteArray.empty,.slice none 0 0] 51::[])∧Hid (NoB ts (fun t=>sameS t.name nm) k))
 case atStart=>exact⟨0,by omega,rfl,M,noB_zero _ _⟩
 case round=>
  clear M
  obtain⟨k,hk,rfl,M,HB⟩:=hrel
  by_cases hlt:k<n
  ·have hkl:k<ts.length:=by have:=NL.out;omega
   obtain⟨ca,oa,rowa,hixa,hrra,hwa⟩:=SlF.rowAtS (P:=Tryz.prog) HX.out Tryz.underlying22 size_typ (i:=k) hkl
   obtain⟨p1,q1,s1,ea,u1⟩:=hrra
   subst ea
   have HR:=Lib.hid (fun wx hb=>hwa wx F (HSM.out wx hb))
   have HP:Hid (∀ b,sameS ts[k].name nm=b→(ts[k].name.toList==nm.toList)=b):=fun b h=>h
   have HS:Hid (sameS ts[k].name nm=true→typI ts nm<ts.length∧ts[k].name=(typAt ts nm).name∧SlF F w0 2 (plainF fldC) p1 q1 s1 (typAt ts nm).fields):=fun h=>by
    have e:typI ts nm=k:=noB_at HB.out hkl h
    have e2:typAt ts nm=ts[k]:=by unfold typAt;rw[e,List.getD_eq_getElem?_getD,List.getElem?_eq_getElem hkl];rfl
    rw[e,e2]
    exact⟨hkl,rfl,u1⟩
   have HT:Hid (sameS ts[k].name nm=false→NoB ts (fun t=>sameS t.name nm) (k+1)):=fun h=>noB_succ HB.out hkl h
   clear hwa u1 HB
   unfold typC at HR
   generalize ts[k].name=tn at HR HP HS HT
   cases hsm:sameS tn nm with
   |true=>
    have hq:=HP.out _ hsm
    have HV:=Lib.hid (HS.out hsm)
    clear HP HS HT hsm
    go_wp2_with (with_reducible (first|(refine wV M ?_;clear M;intro zy w M)|refine wq M ?_|(refine wS M ?_;clear M;intro w M)|refine wA (HR.out _ M.new) ?_))
    refine q_ret2 M Tryz.results63 (by rfl) ⟨_,Tryz.underlying51,rfl⟩ ?_
    exact⟨tn,p1,q1,s1,by rw[if_pos HV.out.1],M.new,fun _=>HV.out.2⟩
   |false=>
    have hq:=HP.out _ hsm
    have HV:=Lib.hid (HT.out hsm)
    clear HP HS HT hsm
    go_wp2_with (with_reducible (first|(refine wV M ?_;clear M;intro zy w M)|refine wq M ?_|(refine wS M ?_;clear M;intro w M)|refine wA (HR.out _ M.new) ?_))
    go_roundg (n - (k+1))
    case measure=>omega
    case rel=>exact⟨k+1,by omega,by go_num,M.drop,HV⟩
  ·have HV:Hid (¬ typI ts nm<ts.length):=by
    have e:k=ts.length:=by have:=NL.out;omega
    have h:typI ts nm=ts.length:=noB_none (e▸HB.out)
    show ¬ _
    omega
   go_wp2_with (with_reducible (refine wS M ?_;clear M;intro w M))
   refine q_ret2 M Tryz.results63 (by rfl) ⟨_,Tryz.underlying51,rfl⟩ ?_
   exact⟨_,_,_,_,by rw[if_neg HV.out],M.new,fun h=>absurd h HV.out⟩
end
end Go.Proofs.YtncmghnhfipklaaGreatDoor
/-
  The walks of the program's Check, second part: the sides of a comparison. Printed by pgb.py.
-/
namespace Go.Proofs.YtncmghnhfipklaaGreatDoor
open Go.RowKit
set_option linter.unusedVariables false
set_option linter.unusedSimpArgs false
structure Scope (F:Nat→Prop) (w:World) (zs zk nk:Nat) (f:MapF) (ts:List Typ) (known:List Pat) (ao:Option Addr) (n cap:Nat):Prop where
 lt:zs<w.heap.size
 c0:w.cell? ⟨zs,0,none⟩=some (.slice ao n cap)
 c1:w.cell? ⟨zs,1,none⟩=some (.map (some zk))
 types:SlF F w 2 typF ao n cap ts
 map_:MapOf Tryz.prog 9 w zk nk f
 has: ∀ s:ByteArray,s.size≤maxLen→patI known s<known.length→ ∃ cs,f s=some (.agg cs.toArray)∧TypAs F w (typAt ts (known.getD (patI known s) pat0).type) cs
 hasnt: ∀ s:ByteArray,s.size≤maxLen→ ¬ patI known s<known.length→f s=none
 there: ∀ p∈known,typI ts p.type<ts.length
theorem TypAs.same{F G:Nat→Prop}{w w' :World}{t:Typ}{cs:List Value}(h:TypAs F w t cs)(hs:Same F G w w'):TypAs G w' t cs:=by
 obtain⟨a,n,c,h1,h2⟩:=h
 exact⟨a,n,c,h1,h2.same (plainF_firm _) hs⟩
theorem Scope.below{F:Nat→Prop}{w w' :World}{zs zk nk:Nat}{f:MapF}{ts:List Typ}{known:List Pat}{ao:Option Addr}{n cap:Nat}(h:Scope F w zs zk nk f ts known ao n cap)(hb:Below w.heap.size w w'):Scope F w' zs zk nk f ts known ao n cap where
 lt:=Nat.lt_of_lt_of_le h.lt hb.size
 c0:=by rw[(bcell hb).1 _ _ h.lt];exact h.c0
 c1:=by rw[(bcell hb).1 _ _ h.lt];exact h.c1
 types:=h.types.below typF_firm hb
 map_:=h.map_.same (hb.block _ h.map_.lt)
 has:=fun s hs hp=>by
  obtain⟨cs,h1,h2⟩:=h.has s hs hp
  exact⟨cs,h1,h2.same (Same.below hb)⟩
 hasnt:=h.hasnt
 there:=h.there
def TypGood(t:Typ):Prop:=typOk t∧typE t.name t.fields=0
structure LookTo (f:MapF) (x:ByteArray) (v:Value) (ok:Bool):Prop where
 val:(f x).getD (.agg #[.string ByteArray.empty,.slice none 0 0])=v
 ok:(f x).isSome=ok
section
variable {P:Program} {dst:Option Tmp} {oty:TypeId} {pos:String} {after:Array Edge} {g:Option (Nat×Bool)} {l l' :List Value} {ds:List Deferred} {Q:Exit→Act→World→Prop} {K:Act→World→Prop} {w:World} {t j j' z n:Nat}
theorem q_looked{k:TypeId}{v:Value}{ok:Bool}{f:MapF}{x:ByteArray}[hm:Nth l j (.map (some z))][hx:Nth l j' (.string x)][hT:MapI P t k (.agg #[.string ByteArray.empty,.slice none 0 0])](ho:MapOf P k w z n f)(hs:x.size≤maxLen)(hl:LookTo f x v ok)[hd:PutI l dst (.tuple #[v,.bool ok]) l'](h:K ⟨l'.toArray,ds⟩ w):OWP P ⟨dst,.lookup t (.tmp j) (.tmp j') true,oty,pos,after,g⟩ ⟨l.toArray,ds⟩ w K Q:=by
 obtain⟨e1,e2⟩:=hl
 subst e1 e2
 exact q_looks ho hs h
end
section
variable {g:Nat} {F H:Nat→Prop} {ao:Option Addr} {n cap:Nat} {oo:Option Addr} {k ocap:Nat} {w0:World} {ts:List Typ} {known:List Pat} {own:Typ} {zs zk nk:Nat} {f:MapF}
set_option maxRecDepth 8000 in
set_option maxHeartbeats 4000000 in
theorem side_bad(hg:g<w0.heap.size)(o:Opd)(hk: ¬ (1≤o.kind∧o.kind≤3)):
  Calls Tryz.prog 70 #[.pointer (some ⟨zs,0,none⟩),.agg (opdC o).toArray,.agg #[.string own.name,.slice oo k ocap]] w0 (SidePost ts known own o w0):=by
 have M:=Mem.begin hg ⟨0,0⟩
 have HV:Hid (sideE ts known own o=3):=by show _=_;unfold sideE;rw[if_pos hk]
 have k1:(o.kind==1)=false:=by simp;omega
 have k2:(o.kind==2)=false:=by simp;omega
 have k3:(o.kind==3)=false:=by simp;omega
 unfold opdC
 clear hg hk
 go_enter Tryz.func70,Tryz.ntmps70
 go_wp2_with (with_reducible (first|(refine wB (L:=[]) M ?_;clear M;intro za w1 M)|(refine wB M ?_;clear M;intro zb w2 M)|refine wq M ?_|(refine wS M ?_;clear M;intro w M)|(refine wV M ?_;clear M;intro z w M)))
 go_ret2
 exact side_out M.new HV.out (fun h=>absurd h (by decide))
set_option maxRecDepth 8000 in
set_option maxHeartbeats 4000000 in
theorem side_one(hg:g<w0.heap.size)(o:Opd)(hk:o.kind=1)(hs:o.vtext.size≤maxLen):
  Calls Tryz.prog 70 #[.pointer (some ⟨zs,0,none⟩),.agg (opdC o).toArray,.agg #[.string own.name,.slice oo k ocap]] w0 (SidePost ts known own o w0):=by
 have M:=Mem.begin hg ⟨0,0⟩
 have HVF:=Lib.hid (fun wx=>valCheck_any o.vkind o.vint o.vtext wx hs)
 have HV:Hid (sideE ts known own o=if opdBad o=true then 4 else valE ⟨o.vkind,o.vint,o.vtext⟩):=by
  show _=_
  unfold sideE
  rw[if_neg (by omega),if_neg (by omega),hk,if_pos rfl]
 have HK:Hid (sideK ts known own o=o.vkind):=by show _=_;unfold sideK;rw[if_pos hk]
 have HB:Hid (opdBad o=(!emS o.var||!emS o.field)):=by show _=_;unfold opdBad;rw[hk];simp
 unfold opdC
 rw[hk]
 clear hg hk hs
 go_enter Tryz.func70,Tryz.ntmps70
 go_wp2_with (with_reducible (first|(refine wB (L:=[]) M ?_;clear M;intro za w1 M)|(refine wB M ?_;clear M;intro zb w2 M)|refine wq M ?_|(refine wS M ?_;clear M;intro w M)|(refine wV M ?_;clear M;intro z w M)))
 ·(refine wp_region_any (by kernel_rfl) ?_;(try(change wpAny _ _ _ _ _ _ _ (World.drew _)));replace M:=M.drew;generalize World.drew _=w at M ⊢;have S:=St.o;((refine tk 0 (v:=?_) rfl (by kernel_rfl) rfl ?_ ?_;rotate_left;focus(intro w;go_simp;try with_reducible rfl));(try go_simp);(refine tk 1 (v:=?_) rfl (by kernel_rfl) rfl ?_ ?_;rotate_left;focus(intro w;go_simp;try with_reducible rfl));(try go_simp);(refine tk 3 (v:=?_) rfl (by kernel_rfl) rfl ?_ ?_;rotate_left;focus(intro w;go_simp;try with_reducible rfl));(try go_simp);replace S:=S.add 11;refine rd2 2 4 (by kernel_rfl) rfl rfl ?_ rfl rfl ?_<;>intro K hK);all_goals(first|(refine o_dst (some 51) ?_;(refine q_get M (by exact rfl) ?_);(all_goals(refine hK _ _ ?_;clear hK K;replace S:=S.add 4)))|(refine o_dst (some 53) ?_;(refine q_prt M (by rfl) ?_);(all_goals(refine hK _ _ ?_;clear hK K;replace S:=S.add 16))));all_goals(first|(replace S:St 15:=S;refine rd1 4 (by kernel_rfl) rfl rfl ?_<;>intro K hK)|(replace S:St 27:=S;refine rd2 2 5 (by kernel_rfl) rfl rfl ?_ rfl rfl ?_<;>intro K hK));all_goals(first|(refine o_dst (some 53) ?_;(refine q_prt M (by rfl) ?_);(all_goals(refine hK _ _ ?_;clear hK K;replace S:=S.add 16)))|(refine o_dst (some 51) ?_;(refine q_get M (by exact rfl) ?_);(all_goals(refine hK _ _ ?_;clear hK K;replace S:=S.add 4)))|(refine o_dst (some 54) ?_;(refine owp_of ?_;go_simp;(go_at_call 93;with_reducible refine(HVF.out _).mono ?_;rintro e w5 ⟨rfl,hb5⟩;replace M:=M.below hb5;clear hb5);(try go_simp));(all_goals(refine hK _ _ ?_;clear hK K;replace S:=S.add 32))));all_goals(first|(replace S:St 31:=S;refine rd1 5 (by kernel_rfl) rfl rfl ?_<;>intro K hK)|(replace S:St 59:=S;refine rd1 2 (by kernel_rfl) rfl rfl ?_<;>intro K hK));all_goals(first|(refine o_dst (some 54) ?_;(refine owp_of ?_;go_simp;(go_at_call 93;with_reducible refine(HVF.out _).mono ?_;rintro e w5 ⟨rfl,hb5⟩;replace M:=M.below hb5;clear hb5);(try go_simp));(all_goals(refine hK _ _ ?_;clear hK K;replace S:=S.add 32)))|(refine o_dst (some 51) ?_;(refine q_get M (by exact rfl) ?_);(all_goals(refine hK _ _ ?_;clear hK K;replace S:=S.add 4))));all_goals(clear S;((refine tk 6 (v:=?_) rfl (by kernel_rfl) rfl ?_ ?_;rotate_left;focus(intro w;go_simp;try with_reducible rfl));(try go_simp);(refine tk 7 (v:=?_) rfl (by kernel_rfl) rfl ?_ ?_;rotate_left;focus(intro w;go_simp;try with_reducible rfl));(try go_simp);refine wpAny_done (by kernel_rfl) ?_ _)))
  all_goals go_wp2
  all_goals go_ret2
  all_goals exact side_out M.new (by rw[HV.out,HB.out];simp[emS, *]) (fun _=>HK.out.symm)
 all_goals
  go_ret2
  exact side_out M.new (by rw[HV.out,HB.out];simp[emS, *]) (fun h=>absurd h (by decide))
set_option maxRecDepth 8000 in
set_option maxHeartbeats 4000000 in
theorem side_own(hg:g<w0.heap.size)(o:Opd)(hk:o.kind=2)(hO:SlF H w0 2 (plainF fldC) oo k ocap own.fields)(hown:TypGood own):
  Calls Tryz.prog 70 #[.pointer (some ⟨zs,0,none⟩),.agg (opdC o).toArray,.agg #[.string own.name,.slice oo k ocap]] w0 (SidePost ts known own o w0):=by
 have M:=Mem.begin hg ⟨0,0⟩
 have HFD:Hid (∀ wx,Below w0.heap.size w0 wx→Calls Tryz.prog 67 #[.agg #[.string own.name,.slice oo k ocap],.string o.field] wx fun e w' =>e= .returned (.tuple #[.int .i64 (fieldX own.name own.fields o.field),.int .i64 (fieldK own.name own.fields o.field),.int .i64 (fieldE own.name own.fields o.field)])∧Below wx.heap.size wx w'):=fun wx hbx=>
  field_any own.name oo k ocap own.fields o.field wx hown.1.1 (fld_R (hO.below (plainF_firm _) hbx) hown.1.2)
 have hT:sideT ts known own o=own:=by unfold sideT;rw[if_neg (by omega)]
 have HV:=side_look (ts:=ts) (known:=known) (own:=own) (o:=o) (by omega) (by omega) (fun h=>by omega)
 rw[hT]at HV
 have HB:Hid (opdBad o=(!emS o.var||!valZ o)):=by show _=_;unfold opdBad;rw[hk];simp
 have HK:Hid (fieldE own.name own.fields o.field=0→fieldK own.name own.fields o.field=sideK ts known own o):=fun h=>by
  unfold fieldK sideK
  rw[if_pos h,if_neg (by omega),hT]
 have HE:Hid (sideE ts known own o=if opdBad o=true then 4 else fieldE own.name own.fields o.field):=by
  show _=_
  rw[HV]
  unfold fieldE
  rw[if_pos hown.2]
 generalize fieldX own.name own.fields o.field=fx at HFD
 generalize fieldK own.name own.fields o.field=fk at HFD HK
 generalize fieldE own.name own.fields o.field=fe at HFD HK HE
 unfold opdC
 rw[hk]
 clear hg hk hO hown hT HV
 go_enter Tryz.func70,Tryz.ntmps70
 go_wp2_with (first|(with_reducible (first|(refine wB (L:=[]) M ?_;clear M;intro za w1 M)|(refine wB M ?_;clear M;intro zb w2 M)|refine wq M ?_|(refine wS M ?_;clear M;intro w M)|(refine wV M ?_;clear M;intro z w M)))|(go_at_call 67;with_reducible refine(HFD.out _ M.new).mono ?_;rintro e w5 ⟨rfl,hb5⟩;replace M:=M.below hb5;clear hb5))
 ·go_ret2
  exact side_out M.new (by rw[HE.out,HB.out];simp[emS,valZ, *]) HK.out
 all_goals
  go_ret2
  exact side_out M.new (by rw[HE.out,HB.out];simp[emS,valZ, *]) (fun h=>absurd h (by decide))
set_option maxRecDepth 8000 in
set_option maxHeartbeats 4000000 in
theorem side_other(hg:g<w0.heap.size)(o:Opd)(hk:o.kind=3)(hv:o.var.size≤maxLen)(hS:Scope F w0 zs zk nk f ts known ao n cap)(hts: ∀ t∈ts,TypGood t):
  Calls Tryz.prog 70 #[.pointer (some ⟨zs,0,none⟩),.agg (opdC o).toArray,.agg #[.string own.name,.slice oo k ocap]] w0 (SidePost ts known own o w0):=by
 have M:=Mem.begin hg ⟨0,0⟩
 have HS1:Hid (∀ wx,Below w0.heap.size w0 wx→wx.cell? ⟨zs,1,none⟩=some (.map (some zk))):=fun wx hb=>(hS.below hb).c1
 have HMP:Hid (∀ wx,Below w0.heap.size w0 wx→MapOf Tryz.prog 9 wx zk nk f):=fun wx hb=>(hS.below hb).map_
 by_cases hf:patI known o.var<known.length
 ·obtain⟨cs,hfv,ca,cn,cc,rfl,hfl⟩:=hS.has o.var hv hf
  have hge:known.getD (patI known o.var) pat0=known[patI known o.var]:=by rw[List.getD_eq_getElem?_getD,List.getElem?_eq_getElem hf];rfl
  rw[hge]at hfv hfl
  have hti:typI ts known[patI known o.var].type<ts.length:=hS.there _ (List.getElem_mem hf)
  have htt:typAt ts known[patI known o.var].type=ts[typI ts known[patI known o.var].type]:=by unfold typAt;rw[List.getD_eq_getElem?_getD,List.getElem?_eq_getElem hti];rfl
  have hgo:TypGood (typAt ts known[patI known o.var].type):=by rw[htt];exact hts _ (List.getElem_mem hti)
  have hT:sideT ts known own o=typAt ts known[patI known o.var].type:=by unfold sideT;rw[if_pos hk,hge]
  have HV:=side_look (ts:=ts) (known:=known) (own:=own) (o:=o) (by omega) (by omega) (fun h=>hf)
  rw[hT]at HV
  have HB:Hid (opdBad o=!valZ o):=by show _=_;unfold opdBad;rw[hk];simp
  generalize typAt ts known[patI known o.var].type=tt at hfv hfl hgo hT HV
  have HFD:Hid (∀ wx,Below w0.heap.size w0 wx→Calls Tryz.prog 67 #[.agg #[.string tt.name,.slice ca cn cc],.string o.field] wx fun e w' =>e= .returned (.tuple #[.int .i64 (fieldX tt.name tt.fields o.field),.int .i64 (fieldK tt.name tt.fields o.field),.int .i64 (fieldE tt.name tt.fields o.field)])∧Below wx.heap.size wx w'):=fun wx hbx=>
   field_any tt.name ca cn cc tt.fields o.field wx hgo.1.1 (fld_R (hfl.below (plainF_firm _) hbx) hgo.1.2)
  have HK:Hid (fieldE tt.name tt.fields o.field=0→fieldK tt.name tt.fields o.field=sideK ts known own o):=fun h=>by
   unfold fieldK sideK
   rw[if_pos h,if_neg (by omega),hT]
  have HE:Hid (sideE ts known own o=if opdBad o=true then 4 else fieldE tt.name tt.fields o.field):=by
   show _=_
   rw[HV]
   unfold fieldE
   rw[if_pos hgo.2]
  generalize fieldX tt.name tt.fields o.field=fx at HFD
  generalize fieldK tt.name tt.fields o.field=fk at HFD HK
  generalize fieldE tt.name tt.fields o.field=fe at HFD HK HE
  have e1:(f o.var).getD (.agg #[.string ByteArray.empty,.slice none 0 0])= .agg [.string tt.name,.slice ca cn cc].toArray:=by rw[hfv];rfl
  have e2:(f o.var).isSome=true:=by rw[hfv];rfl
  have HLK:Hid (LookTo f o.var (.agg [.string tt.name,.slice ca cn cc].toArray) true):=⟨e1,e2⟩
  have hv:=Lib.hid hv
  unfold opdC
  rw[hk]
  clear hg hk hS hts hf hgo hT HV hfl hge hti htt hfv e1 e2
  go_enter Tryz.func70,Tryz.ntmps70
  go_wp2_with (with_reducible (first|(refine wB (L:=[]) M ?_;clear M;intro za w1 M)|(refine wB M ?_;clear M;intro zb w2 M)|refine wq M ?_|(refine wS M ?_;clear M;intro w M)|(refine wV M ?_;clear M;intro z w M)))
  (refine wp_region_any (by kernel_rfl) ?_;(try(change wpAny _ _ _ _ _ _ _ (World.drew _)));replace M:=M.drew;generalize World.drew _=w at M ⊢;have S:=St.o;((refine tk 0 (v:=?_) rfl (by kernel_rfl) rfl ?_ ?_;rotate_left;focus(intro w;go_simp;try with_reducible rfl));(try go_simp);(refine tk 1 (v:=?_) rfl (by kernel_rfl) rfl ?_ ?_;rotate_left;focus(intro w;go_simp;try with_reducible rfl));(try go_simp);(refine tk 2 (v:=?_) rfl (by kernel_rfl) rfl ?_ ?_;rotate_left;focus(intro w;go_simp;try with_reducible rfl));(try go_simp);(refine tk 4 (v:=?_) rfl (by kernel_rfl) rfl ?_ ?_;rotate_left;focus(intro w;go_simp;try with_reducible rfl));(try go_simp);replace S:=S.add 23;refine rd2 3 5 (by kernel_rfl) rfl rfl ?_ rfl rfl ?_<;>intro K hK);all_goals(first|(refine o_dst (some 33) ?_;(refine q_cellat (HS1.out _ M.new) ?_);(all_goals(refine hK _ _ ?_;clear hK K;replace S:=S.add 8)))|(refine o_dst (some 35) ?_;(refine q_get M (by exact rfl) ?_);(all_goals(refine hK _ _ ?_;clear hK K;replace S:=S.add 32))));all_goals(first|(replace S:St 31:=S;refine rd1 5 (by kernel_rfl) rfl rfl ?_<;>intro K hK)|(replace S:St 55:=S;refine rd1 3 (by kernel_rfl) rfl rfl ?_<;>intro K hK));all_goals(first|(refine o_dst (some 35) ?_;(refine q_get M (by exact rfl) ?_);(all_goals(refine hK _ _ ?_;clear hK K;replace S:=S.add 32)))|(refine o_dst (some 33) ?_;(refine q_cellat (HS1.out _ M.new) ?_);(all_goals(refine hK _ _ ?_;clear hK K;replace S:=S.add 8))));all_goals(refine rd1 6 (by kernel_rfl) rfl rfl ?_<;>intro K hK);all_goals(refine o_dst (some 36) ?_;(refine q_looked (HMP.out _ M.new) hv.out HLK.out ?_);(all_goals(refine hK _ _ ?_;clear hK K;replace S:=S.add 64)));all_goals((refine tk 7 (v:=?_) rfl (by kernel_rfl) rfl ?_ ?_;rotate_left;focus(intro w;go_simp;try with_reducible rfl));(try go_simp);(refine tk 8 (v:=?_) rfl (by kernel_rfl) rfl ?_ ?_;rotate_left;focus(intro w;go_simp;try with_reducible rfl));(try go_simp);(refine tk 9 (v:=?_) rfl (by kernel_rfl) rfl ?_ ?_;rotate_left;focus(intro w;go_simp;try with_reducible rfl));(try go_simp);replace S:=S.add 896;refine rd1 10 (by kernel_rfl) rfl rfl ?_<;>intro K hK);all_goals(refine o_dst none ?_;((refine q_put M (by rfl) (by rfl) (by rfl) ?_);clear M;intro w M;simp only[List.set_cons_zero,List.set_cons_succ]at M);(all_goals(refine hK _ _ ?_;clear hK K;replace S:=S.add 1024)));all_goals(clear S;((refine tk 11 (v:=?_) rfl (by kernel_rfl) rfl ?_ ?_;rotate_left;focus(intro w;go_simp;try with_reducible rfl));(try go_simp);refine wpAny_done (by kernel_rfl) ?_ _)))
  all_goals(go_wp2_with (first|(with_reducible refine wq M ?_)|(go_at_call 67;with_reducible refine(HFD.out _ M.new).mono ?_;rintro e w5 ⟨rfl,hb5⟩;replace M:=M.below hb5;clear hb5)))
  all_goals go_ret2
  all_goals first|exact side_out M.new (by rw[HE.out,HB.out];simp[emS,valZ, *]) HK.out|exact side_out M.new (by rw[HE.out,HB.out];simp[emS,valZ, *]) (fun h=>absurd h (by decide))
 ·have e1:(f o.var).getD (.agg #[.string ByteArray.empty,.slice none 0 0])= .agg [.string ByteArray.empty,.slice none 0 0].toArray:=by rw[hS.hasnt o.var hv hf];rfl
  have e2:(f o.var).isSome=false:=by rw[hS.hasnt o.var hv hf];rfl
  have HLK:Hid (LookTo f o.var (.agg [.string ByteArray.empty,.slice none 0 0].toArray) false):=⟨e1,e2⟩
  have HV:Hid (sideE ts known own o=6):=by show _=_;unfold sideE;rw[if_neg (by omega),if_pos ⟨hk,by omega⟩]
  have hv:=Lib.hid hv
  unfold opdC
  rw[hk]
  clear hg hk hS hts hf e1 e2
  go_enter Tryz.func70,Tryz.ntmps70
  go_wp2_with (with_reducible (first|(refine wB (L:=[]) M ?_;clear M;intro za w1 M)|(refine wB M ?_;clear M;intro zb w2 M)|refine wq M ?_|(refine wS M ?_;clear M;intro w M)|(refine wV M ?_;clear M;intro z w M)))
  (refine wp_region_any (by kernel_rfl) ?_;(try(change wpAny _ _ _ _ _ _ _ (World.drew _)));replace M:=M.drew;generalize World.drew _=w at M ⊢;have S:=St.o;((refine tk 0 (v:=?_) rfl (by kernel_rfl) rfl ?_ ?_;rotate_left;focus(intro w;go_simp;try with_reducible rfl));(try go_simp);(refine tk 1 (v:=?_) rfl (by kernel_rfl) rfl ?_ ?_;rotate_left;focus(intro w;go_simp;try with_reducible rfl));(try go_simp);(refine tk 2 (v:=?_) rfl (by kernel_rfl) rfl ?_ ?_;rotate_left;focus(intro w;go_simp;try with_reducible rfl));(try go_simp);(refine tk 4 (v:=?_) rfl (by kernel_rfl) rfl ?_ ?_;rotate_left;focus(intro w;go_simp;try with_reducible rfl));(try go_simp);replace S:=S.add 23;refine rd2 3 5 (by kernel_rfl) rfl rfl ?_ rfl rfl ?_<;>intro K hK);all_goals(first|(refine o_dst (some 33) ?_;(refine q_cellat (HS1.out _ M.new) ?_);(all_goals(refine hK _ _ ?_;clear hK K;replace S:=S.add 8)))|(refine o_dst (some 35) ?_;(refine q_get M (by exact rfl) ?_);(all_goals(refine hK _ _ ?_;clear hK K;replace S:=S.add 32))));all_goals(first|(replace S:St 31:=S;refine rd1 5 (by kernel_rfl) rfl rfl ?_<;>intro K hK)|(replace S:St 55:=S;refine rd1 3 (by kernel_rfl) rfl rfl ?_<;>intro K hK));all_goals(first|(refine o_dst (some 35) ?_;(refine q_get M (by exact rfl) ?_);(all_goals(refine hK _ _ ?_;clear hK K;replace S:=S.add 32)))|(refine o_dst (some 33) ?_;(refine q_cellat (HS1.out _ M.new) ?_);(all_goals(refine hK _ _ ?_;clear hK K;replace S:=S.add 8))));all_goals(refine rd1 6 (by kernel_rfl) rfl rfl ?_<;>intro K hK);all_goals(refine o_dst (some 36) ?_;(refine q_looked (HMP.out _ M.new) hv.out HLK.out ?_);(all_goals(refine hK _ _ ?_;clear hK K;replace S:=S.add 64)));all_goals((refine tk 7 (v:=?_) rfl (by kernel_rfl) rfl ?_ ?_;rotate_left;focus(intro w;go_simp;try with_reducible rfl));(try go_simp);(refine tk 8 (v:=?_) rfl (by kernel_rfl) rfl ?_ ?_;rotate_left;focus(intro w;go_simp;try with_reducible rfl));(try go_simp);(refine tk 9 (v:=?_) rfl (by kernel_rfl) rfl ?_ ?_;rotate_left;focus(intro w;go_simp;try with_reducible rfl));(try go_simp);replace S:=S.add 896;refine rd1 10 (by kernel_rfl) rfl rfl ?_<;>intro K hK);all_goals(refine o_dst none ?_;((refine q_put M (by rfl) (by rfl) (by rfl) ?_);clear M;intro w M;simp only[List.set_cons_zero,List.set_cons_succ]at M);(all_goals(refine hK _ _ ?_;clear hK K;replace S:=S.add 1024)));all_goals(clear S;((refine tk 11 (v:=?_) rfl (by kernel_rfl) rfl ?_ ?_;rotate_left;focus(intro w;go_simp;try with_reducible rfl));(try go_simp);refine wpAny_done (by kernel_rfl) ?_ _)))
  all_goals(go_wp2_with (first|(with_reducible (first|refine wq M ?_|(refine wS M ?_;clear M;intro w M)|(refine wV M ?_;clear M;intro z w M)|(refine wR M ?_;clear M;intro q w M)))|((with_reducible refine o_list rfl fun K hK=>?_);refine q_in M (by rfl) (by rfl) (by rfl) ?_;clear M;intro w M;refine hK _ _ ?_;clear hK K)))
  all_goals go_ret2
  all_goals exact side_out M.new HV.out (fun h=>absurd h (by decide))
theorem side_any(hg:g<w0.heap.size)(o:Opd)(hs:o.vtext.size≤maxLen)(hv:o.var.size≤maxLen)(hS:Scope F w0 zs zk nk f ts known ao n cap)(hts: ∀ t∈ts,TypGood t)(hO:SlF H w0 2 (plainF fldC) oo k ocap own.fields)(hown:TypGood own):
  Calls Tryz.prog 70 #[.pointer (some ⟨zs,0,none⟩),.agg (opdC o).toArray,.agg #[.string own.name,.slice oo k ocap]] w0 (SidePost ts known own o w0):=by
 by_cases hk:1≤o.kind∧o.kind≤3
 ·by_cases h1:o.kind=1
  ·exact side_one hg o h1 hs
  ·by_cases h2:o.kind=2
   ·exact side_own hg o h2 hO hown
   ·exact side_other hg o (by omega) hv hS hts
 ·exact side_bad hg o hk
end
end Go.Proofs.YtncmghnhfipklaaGreatDoor
