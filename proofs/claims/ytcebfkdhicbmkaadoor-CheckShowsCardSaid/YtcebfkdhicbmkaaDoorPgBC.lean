/-
  The walks of the program's Check, second part: the sides of a comparison. Printed by pgb.py.
-/
import Derived.Test.YtcebfkdhicbmkaaDoorPgA
namespace Go.Proofs.YtcebfkdhicbmkaaDoor
open Go.RowKit
set_option linter.unusedVariables false
set_option linter.unusedSimpArgs false
structure Scope (F:Nat→Prop) (w:World) (zs zk nk:Nat) (f:MapF) (ts:List Typ) (known:List Pat) (ao:Option Addr) (n cap:Nat):Prop where
 lt:zs<w.heap.size
 c0:w.cell? ⟨zs,0,none⟩=some (.slice ao n cap)
 c1:w.cell? ⟨zs,1,none⟩=some (.map (some zk))
 types:SlF F w 2 typF ao n cap ts
 map_:MapOf Tryd.prog 9 w zk nk f
 has: ∀ s:ByteArray,s.size≤maxLen→patI known s<known.length→ ∃ cs,f s=some (.agg cs.toArray)∧TypAs F w (typAt ts (known.getD (patI known s) pat0).type) cs
 hasnt: ∀ s:ByteArray,s.size≤maxLen→ ¬ patI known s<known.length→f s=none
 there: ∀ p∈known,typI ts p.type<ts.length
theorem TypAs.same{F G:Nat→Prop}{w w' :World}{t:Typ}{cs:List Value}(h:TypAs F w t cs)(hs:Same F G w w'):TypAs G w' t cs:=by
 obtain⟨a,n,c,h1,h2⟩:=h
 exact⟨a,n,c,h1,h2.same (plainF_firm _) hs⟩
theorem Scope.below{F:Nat→Prop}{w w' :World}{zs zk nk:Nat}{f:MapF}{ts:List Typ}{known:List Pat}{ao:Option Addr}{n cap:Nat}(h:Scope F w zs zk nk f ts known ao n cap)(hb:Below w.heap.size w w'):Scope F w' zs zk nk f ts known ao n cap where
 lt:=Nat.lt_of_lt_of_le h.lt hb.size
 c0:=by rw[(bcell hb).1 _ _ h.lt];exact h.c0
 c1:=by rw[(bcell hb).1 _ _ h.lt];exact h.c1
 types:=h.types.below typF_firm hb
 map_:=h.map_.same (hb.block _ h.map_.lt)
 has:=fun s hs hp=>by
  obtain⟨cs,h1,h2⟩:=h.has s hs hp
  exact⟨cs,h1,h2.same (Same.below hb)⟩
 hasnt:=h.hasnt
 there:=h.there
def TypGood(t:Typ):Prop:=typOk t∧typE t.name t.fields=0
structure LookTo (f:MapF) (x:ByteArray) (v:Value) (ok:Bool):Prop where
 val:(f x).getD (.agg #[.string ByteArray.empty,.slice none 0 0])=v
 ok:(f x).isSome=ok
section
variable {P:Program} {dst:Option Tmp} {oty:TypeId} {pos:String} {after:Array Edge} {g:Option (Nat×Bool)} {l l' :List Value} {ds:List Deferred} {Q:Exit→Act→World→Prop} {K:Act→World→Prop} {w:World} {t j j' z n:Nat}
theorem q_looked{k:TypeId}{v:Value}{ok:Bool}{f:MapF}{x:ByteArray}[hm:Nth l j (.map (some z))][hx:Nth l j' (.string x)][hT:MapI P t k (.agg #[.string ByteArray.empty,.slice none 0 0])](ho:MapOf P k w z n f)(hs:x.size≤maxLen)(hl:LookTo f x v ok)[hd:PutI l dst (.tuple #[v,.bool ok]) l'](h:K ⟨l'.toArray,ds⟩ w):OWP P ⟨dst,.lookup t (.tmp j) (.tmp j') true,oty,pos,after,g⟩ ⟨l.toArray,ds⟩ w K Q:=by
 obtain⟨e1,e2⟩:=hl
 subst e1 e2
 exact q_looks ho hs h
end
section
variable {g:Nat} {F H:Nat→Prop} {ao:Option Addr} {n cap:Nat} {oo:Option Addr} {k ocap:Nat} {w0:World} {ts:List Typ} {known:List Pat} {own:Typ} {zs zk nk:Nat} {f:MapF}
set_option maxRecDepth 8000 in
set_option maxHeartbeats 4000000 in
theorem side_bad(hg:g<w0.heap.size)(o:Opd)(hk: ¬ (1≤o.kind∧o.kind≤3)):
  Calls Tryd.prog 62 #[.pointer (some ⟨zs,0,none⟩),.agg (opdC o).toArray,.agg #[.string own.name,.slice oo k ocap]] w0 (SidePost ts known own o w0):=by
 have M:=Mem.begin hg ⟨0,0⟩
 have HV:Hid (sideE ts known own o=3):=by show _=_;unfold sideE;rw[if_pos hk]
 have k1:(o.kind==1)=false:=by simp;omega
 have k2:(o.kind==2)=false:=by simp;omega
 have k3:(o.kind==3)=false:=by simp;omega
 unfold opdC
 clear hg hk
 go_enter Tryd.func62,Tryd.ntmps62
 go_wp2_with (with_reducible (first|(refine wB (L:=[]) M ?_;clear M;intro za w1 M)|(refine wB M ?_;clear M;intro zb w2 M)|refine wq M ?_|(refine wS M ?_;clear M;intro w M)|(refine wV M ?_;clear M;intro z w M)))
 go_ret2
 exact side_out M.new HV.out (fun h=>absurd h (by decide))
set_option maxRecDepth 8000 in
set_option maxHeartbeats 4000000 in
theorem side_one(hg:g<w0.heap.size)(o:Opd)(hk:o.kind=1)(hs:o.vtext.size≤maxLen):
  Calls Tryd.prog 62 #[.pointer (some ⟨zs,0,none⟩),.agg (opdC o).toArray,.agg #[.string own.name,.slice oo k ocap]] w0 (SidePost ts known own o w0):=by
 have M:=Mem.begin hg ⟨0,0⟩
 have HVF:=Lib.hid (fun wx=>valCheck_any o.vkind o.vint o.vtext wx hs)
 have HV:Hid (sideE ts known own o=if opdBad o=true then 4 else valE ⟨o.vkind,o.vint,o.vtext⟩):=by
  show _=_
  unfold sideE
  rw[if_neg (by omega),if_neg (by omega),hk,if_pos rfl]
 have HK:Hid (sideK ts known own o=o.vkind):=by show _=_;unfold sideK;rw[if_pos hk]
 have HB:Hid (opdBad o=(!emS o.var||!emS o.field)):=by show _=_;unfold opdBad;rw[hk];simp
 unfold opdC
 rw[hk]
 clear hg hk hs
 go_enter Tryd.func62,Tryd.ntmps62
 go_wp2_with (with_reducible (first|(refine wB (L:=[]) M ?_;clear M;intro za w1 M)|(refine wB M ?_;clear M;intro zb w2 M)|refine wq M ?_|(refine wS M ?_;clear M;intro w M)|(refine wV M ?_;clear M;intro z w M)))
 ·(refine wp_region_any (by kernel_rfl) ?_;(try(change wpAny _ _ _ _ _ _ _ (World.drew _)));replace M:=M.drew;generalize World.drew _=w at M ⊢;have S:=St.o;((refine tk 0 (v:=?_) rfl (by kernel_rfl) rfl ?_ ?_;rotate_left;focus(intro w;go_simp;try with_reducible rfl));(try go_simp);(refine tk 1 (v:=?_) rfl (by kernel_rfl) rfl ?_ ?_;rotate_left;focus(intro w;go_simp;try with_reducible rfl));(try go_simp);(refine tk 3 (v:=?_) rfl (by kernel_rfl) rfl ?_ ?_;rotate_left;focus(intro w;go_simp;try with_reducible rfl));(try go_simp);replace S:=S.add 11;refine rd2 2 4 (by kernel_rfl) rfl rfl ?_ rfl rfl ?_<;>intro K hK);all_goals(first|(refine o_dst (some 51) ?_;(refine q_get M (by exact rfl) ?_);(all_goals(refine hK _ _ ?_;clear hK K;replace S:=S.add 4)))|(refine o_dst (some 53) ?_;(refine q_prt M (by rfl) ?_);(all_goals(refine hK _ _ ?_;clear hK K;replace S:=S.add 16))));all_goals(first|(replace S:St 15:=S;refine rd1 4 (by kernel_rfl) rfl rfl ?_<;>intro K hK)|(replace S:St 27:=S;refine rd2 2 5 (by kernel_rfl) rfl rfl ?_ rfl rfl ?_<;>intro K hK));all_goals(first|(refine o_dst (some 53) ?_;(refine q_prt M (by rfl) ?_);(all_goals(refine hK _ _ ?_;clear hK K;replace S:=S.add 16)))|(refine o_dst (some 51) ?_;(refine q_get M (by exact rfl) ?_);(all_goals(refine hK _ _ ?_;clear hK K;replace S:=S.add 4)))|(refine o_dst (some 54) ?_;(refine owp_of ?_;go_simp;(go_at_call 77;with_reducible refine(HVF.out _).mono ?_;rintro e w5 ⟨rfl,hb5⟩;replace M:=M.below hb5;clear hb5);(try go_simp));(all_goals(refine hK _ _ ?_;clear hK K;replace S:=S.add 32))));all_goals(first|(replace S:St 31:=S;refine rd1 5 (by kernel_rfl) rfl rfl ?_<;>intro K hK)|(replace S:St 59:=S;refine rd1 2 (by kernel_rfl) rfl rfl ?_<;>intro K hK));all_goals(first|(refine o_dst (some 54) ?_;(refine owp_of ?_;go_simp;(go_at_call 77;with_reducible refine(HVF.out _).mono ?_;rintro e w5 ⟨rfl,hb5⟩;replace M:=M.below hb5;clear hb5);(try go_simp));(all_goals(refine hK _ _ ?_;clear hK K;replace S:=S.add 32)))|(refine o_dst (some 51) ?_;(refine q_get M (by exact rfl) ?_);(all_goals(refine hK _ _ ?_;clear hK K;replace S:=S.add 4))));all_goals(clear S;((refine tk 6 (v:=?_) rfl (by kernel_rfl) rfl ?_ ?_;rotate_left;focus(intro w;go_simp;try with_reducible rfl));(try go_simp);(refine tk 7 (v:=?_) rfl (by kernel_rfl) rfl ?_ ?_;rotate_left;focus(intro w;go_simp;try with_reducible rfl));(try go_simp);refine wpAny_done (by kernel_rfl) ?_ _)))
  all_goals go_wp2
  all_goals go_ret2
  all_goals exact side_out M.new (by rw[HV.out,HB.out];simp[emS, *]) (fun _=>HK.out.symm)
 all_goals
  go_ret2
  exact side_out M.new (by rw[HV.out,HB.out];simp[emS, *]) (fun h=>absurd h (by decide))
set_option maxRecDepth 8000 in
set_option maxHeartbeats 4000000 in
theorem side_own(hg:g<w0.heap.size)(o:Opd)(hk:o.kind=2)(hO:SlF H w0 2 (plainF fldC) oo k ocap own.fields)(hown:TypGood own):
  Calls Tryd.prog 62 #[.pointer (some ⟨zs,0,none⟩),.agg (opdC o).toArray,.agg #[.string own.name,.slice oo k ocap]] w0 (SidePost ts known own o w0):=by
 have M:=Mem.begin hg ⟨0,0⟩
 have HFD:Hid (∀ wx,Below w0.heap.size w0 wx→Calls Tryd.prog 59 #[.agg #[.string own.name,.slice oo k ocap],.string o.field] wx fun e w' =>e= .returned (.tuple #[.int .i64 (fieldX own.name own.fields o.field),.int .i64 (fieldK own.name own.fields o.field),.int .i64 (fieldE own.name own.fields o.field)])∧Below wx.heap.size wx w'):=fun wx hbx=>
  field_any own.name oo k ocap own.fields o.field wx hown.1.1 (fld_R (hO.below (plainF_firm _) hbx) hown.1.2)
 have hT:sideT ts known own o=own:=by unfold sideT;rw[if_neg (by omega)]
 have HV:=side_look (ts:=ts) (known:=known) (own:=own) (o:=o) (by omega) (by omega) (fun h=>by omega)
 rw[hT]at HV
 have HB:Hid (opdBad o=(!emS o.var||!valZ o)):=by show _=_;unfold opdBad;rw[hk];simp
 have HK:Hid (fieldE own.name own.fields o.field=0→fieldK own.name own.fields o.field=sideK ts known own o):=fun h=>by
  unfold fieldK sideK
  rw[if_pos h,if_neg (by omega),hT]
 have HE:Hid (sideE ts known own o=if opdBad o=true then 4 else fieldE own.name own.fields o.field):=by
  show _=_
  rw[HV]
  unfold fieldE
  rw[if_pos hown.2]
 generalize fieldX own.name own.fields o.field=fx at HFD
 generalize fieldK own.name own.fields o.field=fk at HFD HK
 generalize fieldE own.name own.fields o.field=fe at HFD HK HE
 unfold opdC
 rw[hk]
 clear hg hk hO hown hT HV
 go_enter Tryd.func62,Tryd.ntmps62
 go_wp2_with (first|(with_reducible (first|(refine wB (L:=[]) M ?_;clear M;intro za w1 M)|(refine wB M ?_;clear M;intro zb w2 M)|refine wq M ?_|(refine wS M ?_;clear M;intro w M)|(refine wV M ?_;clear M;intro z w M)))|(go_at_call 59;with_reducible refine(HFD.out _ M.new).mono ?_;rintro e w5 ⟨rfl,hb5⟩;replace M:=M.below hb5;clear hb5))
 ·go_ret2
  exact side_out M.new (by rw[HE.out,HB.out];simp[emS,valZ, *]) HK.out
 all_goals
  go_ret2
  exact side_out M.new (by rw[HE.out,HB.out];simp[emS,valZ, *]) (fun h=>absurd h (by decide))
set_option maxRecDepth 8000 in
set_option maxHeartbeats 4000000 in
theorem side_other(hg:g<w0.heap.size)(o:Opd)(hk:o.kind=3)(hv:o.var.size≤maxLen)(hS:Scope F w0 zs zk nk f ts known ao n cap)(hts: ∀ t∈ts,TypGood t):
  Calls Tryd.prog 62 #[.pointer (some ⟨zs,0,none⟩),.agg (opdC o).toArray,.agg #[.string own.name,.slice oo k ocap]] w0 (SidePost ts known own o w0):=by
 have M:=Mem.begin hg ⟨0,0⟩
 have HS1:Hid (∀ wx,Below w0.heap.size w0 wx→wx.cell? ⟨zs,1,none⟩=some (.map (some zk))):=fun wx hb=>(hS.below hb).c1
 have HMP:Hid (∀ wx,Below w0.heap.size w0 wx→MapOf Tryd.prog 9 wx zk nk f):=fun wx hb=>(hS.below hb).map_
 by_cases hf:patI known o.var<known.length
 ·obtain⟨cs,hfv,ca,cn,cc,rfl,hfl⟩:=hS.has o.var hv hf
  have hge:known.getD (patI known o.var) pat0=known[patI known o.var]:=by rw[List.getD_eq_getElem?_getD,List.getElem?_eq_getElem hf];rfl
  rw[hge]at hfv hfl
  have hti:typI ts known[patI known o.var].type<ts.length:=hS.there _ (List.getElem_mem hf)
  have htt:typAt ts known[patI known o.var].type=ts[typI ts known[patI known o.var].type]:=by unfold typAt;rw[List.getD_eq_getElem?_getD,List.getElem?_eq_getElem hti];rfl
  have hgo:TypGood (typAt ts known[patI known o.var].type):=by rw[htt];exact hts _ (List.getElem_mem hti)
  have hT:sideT ts known own o=typAt ts known[patI known o.var].type:=by unfold sideT;rw[if_pos hk,hge]
  have HV:=side_look (ts:=ts) (known:=known) (own:=own) (o:=o) (by omega) (by omega) (fun h=>hf)
  rw[hT]at HV
  have HB:Hid (opdBad o=!valZ o):=by show _=_;unfold opdBad;rw[hk];simp
  generalize typAt ts known[patI known o.var].type=tt at hfv hfl hgo hT HV
  have HFD:Hid (∀ wx,Below w0.heap.size w0 wx→Calls Tryd.prog 59 #[.agg #[.string tt.name,.slice ca cn cc],.string o.field] wx fun e w' =>e= .returned (.tuple #[.int .i64 (fieldX tt.name tt.fields o.field),.int .i64 (fieldK tt.name tt.fields o.field),.int .i64 (fieldE tt.name tt.fields o.field)])∧Below wx.heap.size wx w'):=fun wx hbx=>
   field_any tt.name ca cn cc tt.fields o.field wx hgo.1.1 (fld_R (hfl.below (plainF_firm _) hbx) hgo.1.2)
  have HK:Hid (fieldE tt.name tt.fields o.field=0→fieldK tt.name tt.fields o.field=sideK ts known own o):=fun h=>by
   unfold fieldK sideK
   rw[if_pos h,if_neg (by omega),hT]
  have HE:Hid (sideE ts known own o=if opdBad o=true then 4 else fieldE tt.name tt.fields o.field):=by
   show _=_
   rw[HV]
   unfold fieldE
   rw[if_pos hgo.2]
  generalize fieldX tt.name tt.fields o.field=fx at HFD
  generalize fieldK tt.name tt.fields o.field=fk at HFD HK
  generalize fieldE tt.name tt.fields o.field=fe at HFD HK HE
  have e1:(f o.var).getD (.agg #[.string ByteArray.empty,.slice none 0 0])= .agg [.string tt.name,.slice ca cn cc].toArray:=by rw[hfv];rfl
  have e2:(f o.var).isSome=true:=by rw[hfv];rfl
  have HLK:Hid (LookTo f o.var (.agg [.string tt.name,.slice ca cn cc].toArray) true):=⟨e1,e2⟩
  have hv:=Lib.hid hv
  unfold opdC
  rw[hk]
  clear hg hk hS hts hf hgo hT HV hfl hge hti htt hfv e1 e2
  go_enter Tryd.func62,Tryd.ntmps62
  go_wp2_with (with_reducible (first|(refine wB (L:=[]) M ?_;clear M;intro za w1 M)|(refine wB M ?_;clear M;intro zb w2 M)|refine wq M ?_|(refine wS M ?_;clear M;intro w M)|(refine wV M ?_;clear M;intro z w M)))
  (refine wp_region_any (by kernel_rfl) ?_;(try(change wpAny _ _ _ _ _ _ _ (World.drew _)));replace M:=M.drew;generalize World.drew _=w at M ⊢;have S:=St.o;((refine tk 0 (v:=?_) rfl (by kernel_rfl) rfl ?_ ?_;rotate_left;focus(intro w;go_simp;try with_reducible rfl));(try go_simp);(refine tk 1 (v:=?_) rfl (by kernel_rfl) rfl ?_ ?_;rotate_left;focus(intro w;go_simp;try with_reducible rfl));(try go_simp);(refine tk 2 (v:=?_) rfl (by kernel_rfl) rfl ?_ ?_;rotate_left;focus(intro w;go_simp;try with_reducible rfl));(try go_simp);(refine tk 4 (v:=?_) rfl (by kernel_rfl) rfl ?_ ?_;rotate_left;focus(intro w;go_simp;try with_reducible rfl));(try go_simp);replace S:=S.add 23;refine rd2 3 5 (by kernel_rfl) rfl rfl ?_ rfl rfl ?_<;>intro K hK);all_goals(first|(refine o_dst (some 33) ?_;(refine q_cellat (HS1.out _ M.new) ?_);(all_goals(refine hK _ _ ?_;clear hK K;replace S:=S.add 8)))|(refine o_dst (some 35) ?_;(refine q_get M (by exact rfl) ?_);(all_goals(refine hK _ _ ?_;clear hK K;replace S:=S.add 32))));all_goals(first|(replace S:St 31:=S;refine rd1 5 (by kernel_rfl) rfl rfl ?_<;>intro K hK)|(replace S:St 55:=S;refine rd1 3 (by kernel_rfl) rfl rfl ?_<;>intro K hK));all_goals(first|(refine o_dst (some 35) ?_;(refine q_get M (by exact rfl) ?_);(all_goals(refine hK _ _ ?_;clear hK K;replace S:=S.add 32)))|(refine o_dst (some 33) ?_;(refine q_cellat (HS1.out _ M.new) ?_);(all_goals(refine hK _ _ ?_;clear hK K;replace S:=S.add 8))));all_goals(refine rd1 6 (by kernel_rfl) rfl rfl ?_<;>intro K hK);all_goals(refine o_dst (some 36) ?_;(refine q_looked (HMP.out _ M.new) hv.out HLK.out ?_);(all_goals(refine hK _ _ ?_;clear hK K;replace S:=S.add 64)));all_goals((refine tk 7 (v:=?_) rfl (by kernel_rfl) rfl ?_ ?_;rotate_left;focus(intro w;go_simp;try with_reducible rfl));(try go_simp);(refine tk 8 (v:=?_) rfl (by kernel_rfl) rfl ?_ ?_;rotate_left;focus(intro w;go_simp;try with_reducible rfl));(try go_simp);(refine tk 9 (v:=?_) rfl (by kernel_rfl) rfl ?_ ?_;rotate_left;focus(intro w;go_simp;try with_reducible rfl));(try go_simp);replace S:=S.add 896;refine rd1 10 (by kernel_rfl) rfl rfl ?_<;>intro K hK);all_goals(refine o_dst none ?_;((refine q_put M (by rfl) (by rfl) (by rfl) ?_);clear M;intro w M;simp only[List.set_cons_zero,List.set_cons_succ]at M);(all_goals(refine hK _ _ ?_;clear hK K;replace S:=S.add 1024)));all_goals(clear S;((refine tk 11 (v:=?_) rfl (by kernel_rfl) rfl ?_ ?_;rotate_left;focus(intro w;go_simp;try with_reducible rfl));(try go_simp);refine wpAny_done (by kernel_rfl) ?_ _)))
  all_goals(go_wp2_with (first|(with_reducible refine wq M ?_)|(go_at_call 59;with_reducible refine(HFD.out _ M.new).mono ?_;rintro e w5 ⟨rfl,hb5⟩;replace M:=M.below hb5;clear hb5)))
  all_goals go_ret2
  all_goals first|exact side_out M.new (by rw[HE.out,HB.out];simp[emS,valZ, *]) HK.out|exact side_out M.new (by rw[HE.out,HB.out];simp[emS,valZ, *]) (fun h=>absurd h (by decide))
 ·have e1:(f o.var).getD (.agg #[.string ByteArray.empty,.slice none 0 0])= .agg [.string ByteArray.empty,.slice none 0 0].toArray:=by rw[hS.hasnt o.var hv hf];rfl
  have e2:(f o.var).isSome=false:=by rw[hS.hasnt o.var hv hf];rfl
  have HLK:Hid (LookTo f o.var (.agg [.string ByteArray.empty,.slice none 0 0].toArray) false):=⟨e1,e2⟩
  have HV:Hid (sideE ts known own o=6):=by show _=_;unfold sideE;rw[if_neg (by omega),if_pos ⟨hk,by omega⟩]
  have hv:=Lib.hid hv
  unfold opdC
  rw[hk]
  clear hg hk hS hts hf e1 e2
  go_enter Tryd.func62,Tryd.ntmps62
  go_wp2_with (with_reducible (first|(refine wB (L:=[]) M ?_;clear M;intro za w1 M)|(refine wB M ?_;clear M;intro zb w2 M)|refine wq M ?_|(refine wS M ?_;clear M;intro w M)|(refine wV M ?_;clear M;intro z w M)))
  (refine wp_region_any (by kernel_rfl) ?_;(try(change wpAny _ _ _ _ _ _ _ (World.drew _)));replace M:=M.drew;generalize World.drew _=w at M ⊢;have S:=St.o;((refine tk 0 (v:=?_) rfl (by kernel_rfl) rfl ?_ ?_;rotate_left;focus(intro w;go_simp;try with_reducible rfl));(try go_simp);(refine tk 1 (v:=?_) rfl (by kernel_rfl) rfl ?_ ?_;rotate_left;focus(intro w;go_simp;try with_reducible rfl));(try go_simp);(refine tk 2 (v:=?_) rfl (by kernel_rfl) rfl ?_ ?_;rotate_left;focus(intro w;go_simp;try with_reducible rfl));(try go_simp);(refine tk 4 (v:=?_) rfl (by kernel_rfl) rfl ?_ ?_;rotate_left;focus(intro w;go_simp;try with_reducible rfl));(try go_simp);replace S:=S.add 23;refine rd2 3 5 (by kernel_rfl) rfl rfl ?_ rfl rfl ?_<;>intro K hK);all_goals(first|(refine o_dst (some 33) ?_;(refine q_cellat (HS1.out _ M.new) ?_);(all_goals(refine hK _ _ ?_;clear hK K;replace S:=S.add 8)))|(refine o_dst (some 35) ?_;(refine q_get M (by exact rfl) ?_);(all_goals(refine hK _ _ ?_;clear hK K;replace S:=S.add 32))));all_goals(first|(replace S:St 31:=S;refine rd1 5 (by kernel_rfl) rfl rfl ?_<;>intro K hK)|(replace S:St 55:=S;refine rd1 3 (by kernel_rfl) rfl rfl ?_<;>intro K hK));all_goals(first|(refine o_dst (some 35) ?_;(refine q_get M (by exact rfl) ?_);(all_goals(refine hK _ _ ?_;clear hK K;replace S:=S.add 32)))|(refine o_dst (some 33) ?_;(refine q_cellat (HS1.out _ M.new) ?_);(all_goals(refine hK _ _ ?_;clear hK K;replace S:=S.add 8))));all_goals(refine rd1 6 (by kernel_rfl) rfl rfl ?_<;>intro K hK);all_goals(refine o_dst (some 36) ?_;(refine q_looked (HMP.out _ M.new) hv.out HLK.out ?_);(all_goals(refine hK _ _ ?_;clear hK K;replace S:=S.add 64)));all_goals((refine tk 7 (v:=?_) rfl (by kernel_rfl) rfl ?_ ?_;rotate_left;focus(intro w;go_simp;try with_reducible rfl));(try go_simp);(refine tk 8 (v:=?_) rfl (by kernel_rfl) rfl ?_ ?_;rotate_left;focus(intro w;go_simp;try with_reducible rfl));(try go_simp);(refine tk 9 (v:=?_) rfl (by kernel_rfl) rfl ?_ ?_;rotate_left;focus(intro w;go_simp;try with_reducible rfl));(try go_simp);replace S:=S.add 896;refine rd1 10 (by kernel_rfl) rfl rfl ?_<;>intro K hK);all_goals(refine o_dst none ?_;((refine q_put M (by rfl) (by rfl) (by rfl) ?_);clear M;intro w M;simp only[List.set_cons_zero,List.set_cons_succ]at M);(all_goals(refine hK _ _ ?_;clear hK K;replace S:=S.add 1024)));all_goals(clear S;((refine tk 11 (v:=?_) rfl (by kernel_rfl) rfl ?_ ?_;rotate_left;focus(intro w;go_simp;try with_reducible rfl));(try go_simp);refine wpAny_done (by kernel_rfl) ?_ _)))
  all_goals(go_wp2_with (first|(with_reducible (first|refine wq M ?_|(refine wS M ?_;clear M;intro w M)|(refine wV M ?_;clear M;intro z w M)|(refine wR M ?_;clear M;intro q w M)))|((with_reducible refine o_list rfl fun K hK=>?_);refine q_in M (by rfl) (by rfl) (by rfl) ?_;clear M;intro w M;refine hK _ _ ?_;clear hK K)))
  all_goals go_ret2
  all_goals exact side_out M.new HV.out (fun h=>absurd h (by decide))
theorem side_any(hg:g<w0.heap.size)(o:Opd)(hs:o.vtext.size≤maxLen)(hv:o.var.size≤maxLen)(hS:Scope F w0 zs zk nk f ts known ao n cap)(hts: ∀ t∈ts,TypGood t)(hO:SlF H w0 2 (plainF fldC) oo k ocap own.fields)(hown:TypGood own):
  Calls Tryd.prog 62 #[.pointer (some ⟨zs,0,none⟩),.agg (opdC o).toArray,.agg #[.string own.name,.slice oo k ocap]] w0 (SidePost ts known own o w0):=by
 by_cases hk:1≤o.kind∧o.kind≤3
 ·by_cases h1:o.kind=1
  ·exact side_one hg o h1 hs
  ·by_cases h2:o.kind=2
   ·exact side_own hg o h2 hO hown
   ·exact side_other hg o (by omega) hv hS hts
 ·exact side_bad hg o hk
end
end Go.Proofs.YtcebfkdhicbmkaaDoor
/-
  The walks of the program's Check, third part: conditions. Printed by pgc.py.
-/
namespace Go.Proofs.YtcebfkdhicbmkaaDoor
open Go.RowKit
set_option linter.unusedVariables false
set_option linter.unusedSimpArgs false
def OpdFit(o:Opd):Prop:=o.vtext.size≤maxLen∧o.var.size≤maxLen
inductive CondFit:Cond→Prop where
 |mk {k:Int} {subs:List Cond} {l r:Opd} (hl:OpdFit l) (hr:OpdFit r) (hs: ∀ s∈subs,CondFit s):CondFit (.mk k subs l r)
theorem CondFit.left{c:Cond}(h:CondFit c):OpdFit c.left:=by cases h;assumption
theorem CondFit.right{c:Cond}(h:CondFit c):OpdFit c.right:=by cases h;assumption
theorem CondFit.subs{c:Cond}(h:CondFit c): ∀ s∈c.subs,CondFit s:=by cases h;assumption
theorem CondFit.ok{c:Cond}(h:CondFit c):CondOk c:=by
 induction h with
 |mk hl hr hs ih=>exact .mk hl.1 hr.1 ih
section
variable {g:Nat} {F H S:Nat→Prop} {ao:Option Addr} {n cap:Nat} {oo:Option Addr} {k ocap:Nat} {so:Option Addr} {sn scap:Nat} {w0:World} {ts:List Typ} {known:List Pat} {own:Typ} {zs zk nk:Nat} {f:MapF}
set_option maxRecDepth 8000 in
set_option maxHeartbeats 4000000 in
theorem test_any(hg:g<w0.heap.size)(hS:Scope F w0 zs zk nk f ts known ao n cap)(hts: ∀ t∈ts,TypGood t)(hO:SlF H w0 2 (plainF fldC) oo k ocap own.fields)(hown:TypGood own)(c:Cond)(hS2:SlF S w0 14 CondF so sn scap c.subs)(hok:CondFit c):
  Calls Tryd.prog 75 #[.pointer (some ⟨zs,0,none⟩),.agg (cnd14 c.kind so sn scap c.left c.right).toArray,.agg #[.string own.name,.slice oo k ocap]] w0 fun e w' =>e= .returned (.int .i64 (testE ts known own c))∧Below w0.heap.size w0 w' :=by
 have M:=Mem.begin hg ⟨0,0⟩
 have hle:=hS2.le
 have NL:=Lib.hid hS2.len
 have HSL:Hid (∀ wx,Below w0.heap.size w0 wx→Calls Tryd.prog 62 #[.pointer (some ⟨zs,0,none⟩),.agg (opdC c.left).toArray,.agg #[.string own.name,.slice oo k ocap]] wx (SidePost ts known own c.left wx)):=fun wx hbx=>
  side_any (Nat.lt_of_lt_of_le hg hbx.size) c.left hok.left.1 hok.left.2 (hS.below hbx) hts (hO.below (plainF_firm _) hbx) hown
 have HSR:Hid (∀ wx,Below w0.heap.size w0 wx→Calls Tryd.prog 62 #[.pointer (some ⟨zs,0,none⟩),.agg (opdC c.right).toArray,.agg #[.string own.name,.slice oo k ocap]] wx (SidePost ts known own c.right wx)):=fun wx hbx=>
  side_any (Nat.lt_of_lt_of_le hg hbx.size) c.right hok.right.1 hok.right.2 (hS.below hbx) hts (hO.below (plainF_firm _) hbx) hown
 unfold cnd14
 unfold opdC SidePost at HSL HSR
 clear hg hS hts hO hown hS2 hok
 by_cases hs:c.subs.length=0
 ·have hsn:sn=0:=by have:=NL.out;omega
  subst hsn
  by_cases h1:sideE ts known own c.left=0
  ·by_cases h2:sideE ts known own c.right=0
   ·have HV:=Lib.hid (testE_both hs h1 h2)
    simp only[h1,true_implies]at HSL
    simp only[h2,true_implies]at HSR
    generalize sideK ts known own c.left=kl at HV HSL
    generalize sideK ts known own c.right=kr at HV HSR
    clear hs h1 h2
    by_cases hkk:kl=kr
    ·subst hkk
     rw[if_pos rfl]at HV
     go_enter Tryd.func75,Tryd.ntmps75
     go_wp2_with (first|(with_reducible (first|(refine wB (L:=[]) M ?_;clear M;intro za w1 M)|(refine wB M ?_;clear M;intro zb w2 M)|refine wq M ?_))|(go_at_call 62;with_reducible refine(HSL.out _ M.new).mono ?_;rintro e w5 ⟨kk,rfl,hb5,hkk⟩;(replace hkk:=hkk.symm;subst hkk);replace M:=M.below hb5;clear hb5)|(go_at_call 62;with_reducible refine(HSR.out _ M.new).mono ?_;rintro e w5 ⟨kk,rfl,hb5,hkk⟩;(replace hkk:=hkk.symm;subst hkk);replace M:=M.below hb5;clear hb5))
     go_ret
     rw[HV.out]
     exact⟨rfl,M.new⟩
    ·have hkb:(kl !=kr)=true:=by simpa using hkk
     rw[if_neg hkk]at HV
     clear hkk
     go_enter Tryd.func75,Tryd.ntmps75
     go_wp2_with (first|(with_reducible (first|(refine wB (L:=[]) M ?_;clear M;intro za w1 M)|(refine wB M ?_;clear M;intro zb w2 M)|refine wq M ?_))|(go_at_call 62;with_reducible refine(HSL.out _ M.new).mono ?_;rintro e w5 ⟨kk,rfl,hb5,hkk⟩;(replace hkk:=hkk.symm;subst hkk);replace M:=M.below hb5;clear hb5)|(go_at_call 62;with_reducible refine(HSR.out _ M.new).mono ?_;rintro e w5 ⟨kk,rfl,hb5,hkk⟩;(replace hkk:=hkk.symm;subst hkk);replace M:=M.below hb5;clear hb5))
     go_ret
     rw[HV.out]
     exact⟨rfl,M.new⟩
   ·have HV:=Lib.hid (testE_right hs h1 h2)
    simp only[h1,true_implies]at HSL
    have hb:(sideE ts known own c.right !=0)=true:=by simpa using h2
    generalize sideE ts known own c.right=er at HV HSR hb
    clear hs h1 h2
    go_enter Tryd.func75,Tryd.ntmps75
    go_wp2_with (first|(with_reducible (first|(refine wB (L:=[]) M ?_;clear M;intro za w1 M)|(refine wB M ?_;clear M;intro zb w2 M)|refine wq M ?_))|(go_at_call 62;with_reducible refine(HSL.out _ M.new).mono ?_;rintro e w5 ⟨kk,rfl,hb5,hkk⟩;(replace hkk:=hkk.symm;subst hkk);replace M:=M.below hb5;clear hb5)|(go_at_call 62;with_reducible refine(HSR.out _ M.new).mono ?_;rintro e w5 ⟨kk,rfl,hb5,hkk⟩;(clear hkk);replace M:=M.below hb5;clear hb5))
    go_ret
    rw[HV.out]
    exact⟨rfl,M.new⟩
  ·have HV:=Lib.hid (testE_left hs h1)
   have hb:(sideE ts known own c.left !=0)=true:=by simpa using h1
   generalize sideE ts known own c.left=el at HV HSL hb
   clear hs h1
   go_enter Tryd.func75,Tryd.ntmps75
   go_wp2_with (first|(with_reducible (first|(refine wB (L:=[]) M ?_;clear M;intro za w1 M)|(refine wB M ?_;clear M;intro zb w2 M)|refine wq M ?_))|(go_at_call 62;with_reducible refine(HSL.out _ M.new).mono ?_;rintro e w5 ⟨kk,rfl,hb5,hkk⟩;(clear hkk);replace M:=M.below hb5;clear hb5))
   go_ret
   rw[HV.out]
   exact⟨rfl,M.new⟩
 ·have HV:=Lib.hid (testE_subs (ts:=ts) (known:=known) (own:=own) hs)
  have hsn:(0:Int)<sn:=by have:=NL.out;omega
  clear hs HSL HSR
  go_enter Tryd.func75,Tryd.ntmps75
  go_wp2_with (with_reducible (first|(refine wB (L:=[]) M ?_;clear M;intro za w1 M)|(refine wB M ?_;clear M;intro zb w2 M)|refine wq M ?_))
  go_ret
  rw[HV.out]
  exact⟨rfl,M.new⟩
set_option maxRecDepth 8000 in
set_option maxHeartbeats 4000000 in
theorem cond_deep(hg:g<w0.heap.size)(c:Cond)(d:Int)(hd:8<d)(hk:1≤c.kind∧c.kind≤7):
  Calls Tryd.prog 58 #[.pointer (some ⟨zs,0,none⟩),.agg (cnd14 c.kind so sn scap c.left c.right).toArray,.agg #[.string own.name,.slice oo k ocap],.int .i64 d] w0 (CndPostR (condR ts known own 0 c) w0):=by
 have M:=Mem.begin hg ⟨0,0⟩
 have HV:Hid (condR ts known own 0 c=(0,14)):=by show _=_;unfold condR;rw[if_pos hk]
 rw[HV.out]
 have k1:decide (c.kind<1)=false:=by simp;omega
 have k2:decide (7<c.kind)=false:=by simp;omega
 unfold cnd14
 clear hg hk
 go_enter Tryd.func58,Tryd.ntmps58
 go_wp2_with (with_reducible (first|(refine wB (L:=[]) M ?_;clear M;intro za w1 M)|(refine wB M ?_;clear M;intro zb w2 M)|refine wq M ?_))
 go_ret2
 exact cnd_out M.new rfl (fun h=>absurd h (by decide))
set_option maxRecDepth 8000 in
set_option maxHeartbeats 4000000 in
theorem cond_kind(hg:g<w0.heap.size)(c:Cond)(d:Int)(q:Nat)(hk: ¬ (1≤c.kind∧c.kind≤7)):
  Calls Tryd.prog 58 #[.pointer (some ⟨zs,0,none⟩),.agg (cnd14 c.kind so sn scap c.left c.right).toArray,.agg #[.string own.name,.slice oo k ocap],.int .i64 d] w0 (CndPostR (condR ts known own q c) w0):=by
 have M:=Mem.begin hg ⟨0,0⟩
 have HV:Hid (condR ts known own q c=(0,3)):=by show _=_;cases q<;>(unfold condR;rw[if_neg hk])
 rw[HV.out]
 unfold cnd14
 by_cases h1:c.kind<1
 ·have k1:decide (c.kind<1)=true:=by simpa using h1
  clear hg hk h1
  go_enter Tryd.func58,Tryd.ntmps58
  go_wp2_with (with_reducible (first|(refine wB (L:=[]) M ?_;clear M;intro za w1 M)|(refine wB M ?_;clear M;intro zb w2 M)|refine wq M ?_))
  go_ret2
  exact cnd_out M.new rfl (fun h=>absurd h (by decide))
 ·have k1:decide (c.kind<1)=false:=by simpa using h1
  have k2:decide (7<c.kind)=true:=by simp;omega
  clear hg hk h1
  go_enter Tryd.func58,Tryd.ntmps58
  go_wp2_with (with_reducible (first|(refine wB (L:=[]) M ?_;clear M;intro za w1 M)|(refine wB M ?_;clear M;intro zb w2 M)|refine wq M ?_))
  go_ret2
  exact cnd_out M.new rfl (fun h=>absurd h (by decide))
set_option maxRecDepth 8000 in
set_option maxHeartbeats 4000000 in
theorem cond_test(hg:g<w0.heap.size)(hS:Scope F w0 zs zk nk f ts known ao n cap)(hts: ∀ t∈ts,TypGood t)(hO:SlF H w0 2 (plainF fldC) oo k ocap own.fields)(hown:TypGood own)(c:Cond)(hS2:SlF S w0 14 CondF so sn scap c.subs)(hok:CondFit c)(d:Int)(q:Nat)(hd:1≤d∧d≤8)(hk:4≤c.kind∧c.kind≤7):
  Calls Tryd.prog 58 #[.pointer (some ⟨zs,0,none⟩),.agg (cnd14 c.kind so sn scap c.left c.right).toArray,.agg #[.string own.name,.slice oo k ocap],.int .i64 d] w0 (CndPostR (condR ts known own (q+1) c) w0):=by
 have M:=Mem.begin hg ⟨0,0⟩
 rw[condR_test hk]
 have hle:=hS2.le
 have HTS:Hid (∀ wx,Below w0.heap.size w0 wx→Calls Tryd.prog 75 #[.pointer (some ⟨zs,0,none⟩),.agg (cnd14 c.kind so sn scap c.left c.right).toArray,.agg #[.string own.name,.slice oo k ocap]] wx fun e w' =>e= .returned (.int .i64 (testE ts known own c))∧Below wx.heap.size wx w'):=fun wx hbx=>
  test_any (Nat.lt_of_lt_of_le hg hbx.size) (hS.below hbx) hts (hO.below (plainF_firm _) hbx) hown c (hS2.below condF_firm hbx) hok
 have k1:decide (c.kind<1)=false:=by simp;omega
 have k2:decide (7<c.kind)=false:=by simp;omega
 have k3:decide (4≤c.kind)=true:=by simp;omega
 have k4:decide (8<d)=false:=by simp;omega
 unfold cnd14 at HTS ⊢
 generalize testE ts known own c=te at HTS ⊢
 clear hg hS hts hO hown hS2 hok hk hd
 go_enter Tryd.func58,Tryd.ntmps58
 go_wp2_with (first|(with_reducible (first|(refine wB (L:=[]) M ?_;clear M;intro za w1 M)|(refine wB M ?_;clear M;intro zb w2 M)|refine wq M ?_))|(go_at_call 75;with_reducible refine(HTS.out _ M.new).mono ?_;rintro e w5 ⟨rfl,hb5⟩;replace M:=M.below hb5;clear hb5))
 go_ret2
 exact cnd_out M.new rfl (fun _=>rfl)
set_option maxRecDepth 8000 in
set_option maxHeartbeats 8000000 in
theorem cond_tree(hg:g<w0.heap.size)(c:Cond)(hS2:SlF S w0 14 CondF so sn scap c.subs)(d:Int)(q0:Nat)(hd:1≤d∧d≤8)(hk:1≤c.kind∧c.kind≤3)
  (hI: ∀ (j:Nat) (h:j<c.subs.length) (so:Option Addr) (sn scap:Nat) (wx:World),Below w0.heap.size w0 wx→SlF S wx 14 CondF so sn scap c.subs[j].subs→Calls Tryd.prog 58 #[.pointer (some ⟨zs,0,none⟩),.agg (cnd14 c.subs[j].kind so sn scap c.subs[j].left c.subs[j].right).toArray,.agg #[.string own.name,.slice oo k ocap],.int .i64 (d+1)] wx (CndPostR (condR ts known own q0 c.subs[j]) wx)):
  Calls Tryd.prog 58 #[.pointer (some ⟨zs,0,none⟩),.agg (cnd14 c.kind so sn scap c.left c.right).toArray,.agg #[.string own.name,.slice oo k ocap],.int .i64 d] w0 (CndPostR (condR ts known own (q0+1) c) w0):=by
 have M:=Mem.begin hg ⟨0,0⟩
 rw[condR_tree hk]
 have hle:=hS2.le
 have NL:=Lib.hid hS2.len
 have hw:IntKind.i64.wrap (d+1)=d+1:=IntWalk.i64_in _ (by omega)
 have k1:decide (c.kind<1)=false:=by simp;omega
 have k2:decide (7<c.kind)=false:=by simp;omega
 have k3:decide (4≤c.kind)=false:=by simp;omega
 have k4:decide (8<d)=false:=by simp;omega
 have HF:Hid (condForm c=(!opdZ c.left||!opdZ c.right||(c.kind==3&&decide ((sn:Int)≠1))||(c.kind !=3&&decide ((sn:Int)<2)))):=by
  show _=_
  unfold condForm
  rw[←NL.out]
  have e1:decide (sn≠1)=decide ((sn:Int)≠1):=by rw[decide_eq_decide];omega
  have e2:decide (sn<2)=decide ((sn:Int)<2):=by rw[decide_eq_decide];omega
  rw[e1,e2]
 have HS:=Lib.hid hS2
 have HI:=Lib.hid hI
 have HB:=Lib.hid (condR_bound (ts:=ts) (known:=known) (own:=own) q0)
 generalize condR ts known own q0=q at HI HB ⊢
 clear hg hS2 hI hd
 by_cases hf:condForm c=true
 ·rw[if_pos hf]
  rw[HF.out]at hf
  have HFT:=Lib.hid hf
  unfold cnd14
  clear hf HF HI HB hk
  generalize c.kind=ck at k1 k2 k3 HFT
  by_cases h3:ck=3
  ·subst h3
   go_enter Tryd.func58,Tryd.ntmps58
   go_wp2_with (with_reducible (first|(refine wB (L:=[]) M ?_;clear M;intro za w1 M)|(refine wB M ?_;clear M;intro zb w2 M)|refine wq M ?_))
   all_goals first
    |(go_ret2;exact cnd_out M.new rfl (fun h=>absurd h (by decide)))
    |(exfalso;have:=HFT.out;simp[opdZ,valZ,emS, *]at this;done)
    |(exfalso;have:=HFT.out;simp[opdZ,valZ,emS, *]at this;omega)
  ·have h3a:(ck==3)=false:=by simpa using h3
   have h3b:(ck !=3)=true:=by simpa using h3
   clear h3
   go_enter Tryd.func58,Tryd.ntmps58
   go_wp2_with (with_reducible (first|(refine wB (L:=[]) M ?_;clear M;intro za w1 M)|(refine wB M ?_;clear M;intro zb w2 M)|refine wq M ?_))
   all_goals first
    |(go_ret2;exact cnd_out M.new rfl (fun h=>absurd h (by decide)))
    |(exfalso;have:=HFT.out;simp[opdZ,valZ,emS, *]at this;done)
    |(exfalso;have:=HFT.out;simp[opdZ,valZ,emS, *]at this;omega)
 ·rw[if_neg hf]
  rw[HF.out]at hf
  have hz:opdZ c.left=true∧opdZ c.right=true:=by
   constructor
   ·cases hq:opdZ c.left with
    |true=>rfl
    |false=>exact absurd (by simp[hq]) hf
   ·cases hq:opdZ c.right with
    |true=>rfl
    |false=>exact absurd (by simp[hq]) hf
  obtain⟨hl,hr⟩:=hz
  simp only[opdZ,valZ,emS,Bool.and_eq_true,beq_iff_eq,List.isEmpty_iff]at hl hr
  obtain⟨⟨⟨l1,⟨l2,l3⟩,l4⟩,l5⟩,l6⟩:=hl
  obtain⟨⟨⟨r1,⟨r2,r3⟩,r4⟩,r5⟩,r6⟩:=hr
  have hn:(c.kind=3→(sn:Int)=1)∧(c.kind≠3→ ¬ (sn:Int)<2):=by
   refine⟨fun h=>Classical.byContradiction fun h2=>hf ?_,fun h h2=>hf ?_⟩
   ·simp[h];omega
   ·simp[h,h2]
  obtain⟨hn1,hn2⟩:=hn
  have HN:Hid ((c.kind=3→sn=1)∧(c.kind≠3→2≤sn)):=⟨fun h=>by have:=hn1 h;omega,fun h=>by have:=hn2 h;omega⟩
  unfold cnd14
  rw[l1,l2,l3,r1,r2,r3]
  clear hf HF hn1 hn2 hk
  generalize c.kind=ck at k1 k2 k3 HN
  by_cases h3:ck=3
  ·subst h3
   have hsn:(sn:Int)=1:=by have:=HN.out.1 rfl;omega
   clear HN
   go_enter Tryd.func58,Tryd.ntmps58
   go_wp2_with (with_reducible (first|(refine wB (L:=[]) M ?_;clear M;intro za w1 M)|(refine wB M ?_;clear M;intro zb w2 M)|refine wq M ?_))
   go_loopg [10,67] sn (fun fu s i wr=> ∃ (j:Nat) (t:Int),j+fu=sn∧s= .int .i64 t∧i= .int .i64 j∧(0≤t∧t≤12)∧Mem (StaysB g w0) g w0 wr ⟨0,0⟩ (Go.Proofs.YtcebfkdhicbmkaaDoor.own zb [.string own.name,.slice oo k ocap] 38::Go.Proofs.YtcebfkdhicbmkaaDoor.own za [.int .i64 3,.slice so sn scap,.int .i64 0,.int .i64 0,.int .i64 0,.string c.left.vtext,.string c.left.var,.string c.left.field,.int .i64 0,.int .i64 0,.int .i64 0,.string c.right.vtext,.string c.right.var,.string c.right.field] 67::[])∧Hid (condL q (c.subs.drop j) t=condL q c.subs 0))
   case atStart=>exact⟨0,0,by omega,rfl,rfl,by decide,M,rfl⟩
   case round=>
    clear M
    obtain⟨j,t,hj,rfl,rfl,⟨ht0,ht12⟩,M,HE⟩:=hrel
    by_cases hlt:j<sn
    ·have hkl:j<c.subs.length:=by have:=NL.out;omega
     obtain⟨ca,oa,rowa,hixa, -,hrra,hwa⟩:=SlF.rowAt (P:=Tryd.prog) HS.out condF_firm Tryd.underlying61 size_cnd (i:=j) hkl
     obtain⟨so2,sn2,sc2,e1,hS2⟩:=hrra.open14
     subst e1
     have HR:Hid (∀ wx,Below w0.heap.size w0 wx→wx.rangeAt ca oa (cnd14 c.subs[j].kind so2 sn2 sc2 c.subs[j].left c.subs[j].right)):=fun wx hb=>(hwa wx hb).1
     have HC:Hid (∀ wx,Below w0.heap.size w0 wx→Calls Tryd.prog 58 #[.pointer (some ⟨zs,0,none⟩),.agg (cnd14 c.subs[j].kind so2 sn2 sc2 c.subs[j].left c.subs[j].right).toArray,.agg #[.string own.name,.slice oo k ocap],.int .i64 (d+1)] wx (CndPostR (q c.subs[j]) wx)):=fun wx hb=>HI.out j hkl _ _ _ wx hb (hS2.below condF_firm hb)
     have HM:=Lib.hid (HE.out.symm.trans (condL_more (q:=q) (s:=t) hkl))
     have HBB:=Lib.hid (HB.out c.subs[j])
     clear hwa hrra hS2 HE
     generalize q c.subs[j]=r at HC HM HBB
     generalize c.subs[j]=cs at HR HC
     obtain⟨rk,re⟩:=r
     unfold cnd14 at HR HC
     unfold CndPostR at HC
     by_cases hre:re=0
     ·subst hre
      have hrk:0≤rk∧rk≤12:=HBB.out rfl
      simp only[true_implies]at HC
      have hw2:IntKind.i64.wrap (t+rk)=t+rk:=IntWalk.i64_in _ (by omega)
      obtain⟨hrk0,hrk12⟩:=hrk
      by_cases h12:12<t+rk
      ·have HM2:Hid (condL q c.subs 0=(0,1)):=by show _=_;rw[HM.out,if_neg (by simp),if_pos h12]
       have hd12:decide (12<t+rk)=true:=by simpa using h12
       clear HM HBB
       go_wp2_with (first|(with_reducible (first|(refine wV M ?_;clear M;intro zx w M)|refine wq M ?_|(refine wS M ?_;clear M;intro w M)|refine wA (HR.out _ M.new) ?_))|(go_at_call 58;with_reducible refine(HC.out _ M.new).mono ?_;rintro e w5 ⟨kk,rfl,hb5,hkk⟩;replace hkk:=hkk.symm;subst hkk;replace M:=M.below hb5;clear hb5))
       go_ret2
       exact cnd_out M.new (by rw[HM2.out]) (fun h=>absurd h (by decide))
      ·have HM2:Hid (condL q (c.subs.drop (j+1)) (t+rk)=condL q c.subs 0):=by show _=_;rw[HM.out,if_neg (by simp),if_neg h12]
       have hd12:decide (12<t+rk)=false:=by simpa using h12
       clear HM HBB
       go_wp2_with (first|(with_reducible (first|(refine wV M ?_;clear M;intro zx w M)|refine wq M ?_|(refine wS M ?_;clear M;intro w M)|refine wA (HR.out _ M.new) ?_))|(go_at_call 58;with_reducible refine(HC.out _ M.new).mono ?_;rintro e w5 ⟨kk,rfl,hb5,hkk⟩;replace hkk:=hkk.symm;subst hkk;replace M:=M.below hb5;clear hb5))
       go_roundg (sn - (j+1))
       case measure=>omega
       case rel=>exact⟨j+1,t+rk,by omega,by go_num,by go_num,⟨by omega,by omega⟩,M.drop,HM2⟩
     ·have hrb:(re !=0)=true:=by simpa using hre
      have HM2:Hid (condL q c.subs 0=(0,re)):=by show _=_;rw[HM.out,if_pos hre]
      have HRE:=Lib.hid hre
      clear HM HBB hre
      go_wp2_with (first|(with_reducible (first|(refine wV M ?_;clear M;intro zx w M)|refine wq M ?_|(refine wS M ?_;clear M;intro w M)|refine wA (HR.out _ M.new) ?_))|(go_at_call 58;with_reducible refine(HC.out _ M.new).mono ?_;rintro e w5 ⟨kk,rfl,hb5, -⟩;replace M:=M.below hb5;clear hb5))
      go_ret2
      exact cnd_out M.new (by rw[HM2.out]) (fun h=>absurd h HRE.out)
    ·have HM2:Hid (condL q c.subs 0=(t,0)):=by
      show _=_
      rw[←HE.out]
      exact condL_end (by have:=NL.out;omega)
     clear HE
     go_wp2_with (with_reducible (first|refine wq M ?_|(refine wS M ?_;clear M;intro w M)|(refine wV M ?_;clear M;intro z w M)|(refine wR M ?_;clear M;intro q w M)))
     go_ret2
     exact cnd_out M.new (by rw[HM2.out]) (fun _=>by rw[HM2.out])
  ·have h3a:(ck==3)=false:=by simpa using h3
   have h3b:(ck !=3)=true:=by simpa using h3
   have hsn:decide ((sn:Int)<2)=false:=by have:=HN.out.2 h3;simp;omega
   clear HN h3
   go_enter Tryd.func58,Tryd.ntmps58
   go_wp2_with (with_reducible (first|(refine wB (L:=[]) M ?_;clear M;intro za w1 M)|(refine wB M ?_;clear M;intro zb w2 M)|refine wq M ?_))
   go_loopg [10,67] sn (fun fu s i wr=> ∃ (j:Nat) (t:Int),j+fu=sn∧s= .int .i64 t∧i= .int .i64 j∧(0≤t∧t≤12)∧Mem (StaysB g w0) g w0 wr ⟨0,0⟩ (Go.Proofs.YtcebfkdhicbmkaaDoor.own zb [.string own.name,.slice oo k ocap] 38::Go.Proofs.YtcebfkdhicbmkaaDoor.own za [.int .i64 ck,.slice so sn scap,.int .i64 0,.int .i64 0,.int .i64 0,.string c.left.vtext,.string c.left.var,.string c.left.field,.int .i64 0,.int .i64 0,.int .i64 0,.string c.right.vtext,.string c.right.var,.string c.right.field] 67::[])∧Hid (condL q (c.subs.drop j) t=condL q c.subs 0))
   case atStart=>exact⟨0,0,by omega,rfl,rfl,by decide,M,rfl⟩
   case round=>
    clear M
    obtain⟨j,t,hj,rfl,rfl,⟨ht0,ht12⟩,M,HE⟩:=hrel
    by_cases hlt:j<sn
    ·have hkl:j<c.subs.length:=by have:=NL.out;omega
     obtain⟨ca,oa,rowa,hixa, -,hrra,hwa⟩:=SlF.rowAt (P:=Tryd.prog) HS.out condF_firm Tryd.underlying61 size_cnd (i:=j) hkl
     obtain⟨so2,sn2,sc2,e1,hS2⟩:=hrra.open14
     subst e1
     have HR:Hid (∀ wx,Below w0.heap.size w0 wx→wx.rangeAt ca oa (cnd14 c.subs[j].kind so2 sn2 sc2 c.subs[j].left c.subs[j].right)):=fun wx hb=>(hwa wx hb).1
     have HC:Hid (∀ wx,Below w0.heap.size w0 wx→Calls Tryd.prog 58 #[.pointer (some ⟨zs,0,none⟩),.agg (cnd14 c.subs[j].kind so2 sn2 sc2 c.subs[j].left c.subs[j].right).toArray,.agg #[.string own.name,.slice oo k ocap],.int .i64 (d+1)] wx (CndPostR (q c.subs[j]) wx)):=fun wx hb=>HI.out j hkl _ _ _ wx hb (hS2.below condF_firm hb)
     have HM:=Lib.hid (HE.out.symm.trans (condL_more (q:=q) (s:=t) hkl))
     have HBB:=Lib.hid (HB.out c.subs[j])
     clear hwa hrra hS2 HE
     generalize q c.subs[j]=r at HC HM HBB
     generalize c.subs[j]=cs at HR HC
     obtain⟨rk,re⟩:=r
     unfold cnd14 at HR HC
     unfold CndPostR at HC
     by_cases hre:re=0
     ·subst hre
      have hrk:0≤rk∧rk≤12:=HBB.out rfl
      simp only[true_implies]at HC
      have hw2:IntKind.i64.wrap (t+rk)=t+rk:=IntWalk.i64_in _ (by omega)
      obtain⟨hrk0,hrk12⟩:=hrk
      by_cases h12:12<t+rk
      ·have HM2:Hid (condL q c.subs 0=(0,1)):=by show _=_;rw[HM.out,if_neg (by simp),if_pos h12]
       have hd12:decide (12<t+rk)=true:=by simpa using h12
       clear HM HBB
       go_wp2_with (first|(with_reducible (first|(refine wV M ?_;clear M;intro zx w M)|refine wq M ?_|(refine wS M ?_;clear M;intro w M)|refine wA (HR.out _ M.new) ?_))|(go_at_call 58;with_reducible refine(HC.out _ M.new).mono ?_;rintro e w5 ⟨kk,rfl,hb5,hkk⟩;replace hkk:=hkk.symm;subst hkk;replace M:=M.below hb5;clear hb5))
       go_ret2
       exact cnd_out M.new (by rw[HM2.out]) (fun h=>absurd h (by decide))
      ·have HM2:Hid (condL q (c.subs.drop (j+1)) (t+rk)=condL q c.subs 0):=by show _=_;rw[HM.out,if_neg (by simp),if_neg h12]
       have hd12:decide (12<t+rk)=false:=by simpa using h12
       clear HM HBB
       go_wp2_with (first|(with_reducible (first|(refine wV M ?_;clear M;intro zx w M)|refine wq M ?_|(refine wS M ?_;clear M;intro w M)|refine wA (HR.out _ M.new) ?_))|(go_at_call 58;with_reducible refine(HC.out _ M.new).mono ?_;rintro e w5 ⟨kk,rfl,hb5,hkk⟩;replace hkk:=hkk.symm;subst hkk;replace M:=M.below hb5;clear hb5))
       go_roundg (sn - (j+1))
       case measure=>omega
       case rel=>exact⟨j+1,t+rk,by omega,by go_num,by go_num,⟨by omega,by omega⟩,M.drop,HM2⟩
     ·have hrb:(re !=0)=true:=by simpa using hre
      have HM2:Hid (condL q c.subs 0=(0,re)):=by show _=_;rw[HM.out,if_pos hre]
      have HRE:=Lib.hid hre
      clear HM HBB hre
      go_wp2_with (first|(with_reducible (first|(refine wV M ?_;clear M;intro zx w M)|refine wq M ?_|(refine wS M ?_;clear M;intro w M)|refine wA (HR.out _ M.new) ?_))|(go_at_call 58;with_reducible refine(HC.out _ M.new).mono ?_;rintro e w5 ⟨kk,rfl,hb5, -⟩;replace M:=M.below hb5;clear hb5))
      go_ret2
      exact cnd_out M.new (by rw[HM2.out]) (fun h=>absurd h HRE.out)
    ·have HM2:Hid (condL q c.subs 0=(t,0)):=by
      show _=_
      rw[←HE.out]
      exact condL_end (by have:=NL.out;omega)
     clear HE
     go_wp2_with (with_reducible (first|refine wq M ?_|(refine wS M ?_;clear M;intro w M)|(refine wV M ?_;clear M;intro z w M)|(refine wR M ?_;clear M;intro q w M)))
     go_ret2
     exact cnd_out M.new (by rw[HM2.out]) (fun _=>by rw[HM2.out])
theorem cond_any(hg:g<w0.heap.size)(hS:Scope F w0 zs zk nk f ts known ao n cap)(hts: ∀ t∈ts,TypGood t)(hO:SlF H w0 2 (plainF fldC) oo k ocap own.fields)(hown:TypGood own):
  ∀ (q:Nat) (d:Int),d+q=9→1≤d→ ∀ (c:Cond) (so:Option Addr) (sn scap:Nat) (wx:World),Below w0.heap.size w0 wx→SlF S wx 14 CondF so sn scap c.subs→CondFit c→
   Calls Tryd.prog 58 #[.pointer (some ⟨zs,0,none⟩),.agg (cnd14 c.kind so sn scap c.left c.right).toArray,.agg #[.string own.name,.slice oo k ocap],.int .i64 d] wx (CndPostR (condR ts known own q c) wx):=by
 intro q
 induction q with
 |zero=>
  intro d hd h1 c so sn scap wx hb hS2 hok
  have hg' :=Nat.lt_of_lt_of_le hg hb.size
  by_cases hk:1≤c.kind∧c.kind≤7
  ·exact cond_deep hg' c d (by omega) hk
  ·exact cond_kind hg' c d 0 hk
 |succ q ih=>
  intro d hd h1 c so sn scap wx hb hS2 hok
  have hg' :=Nat.lt_of_lt_of_le hg hb.size
  by_cases hk:1≤c.kind∧c.kind≤7
  ·by_cases h4:4≤c.kind
   ·exact cond_test hg' (hS.below hb) hts (hO.below (plainF_firm _) hb) hown c hS2 hok d q (by omega) ⟨h4,hk.2⟩
   ·exact cond_tree hg' c hS2 d q (by omega) (by omega)
     (fun j hj so2 sn2 sc2 wy hby hS3=>ih (d+1) (by omega) (by omega) c.subs[j] so2 sn2 sc2 wy (hb.trans (hby.mono hb.size)) hS3 (hok.subs _ (List.getElem_mem hj)))
  ·exact cond_kind hg' c d (q+1) hk
end
end Go.Proofs.YtcebfkdhicbmkaaDoor
