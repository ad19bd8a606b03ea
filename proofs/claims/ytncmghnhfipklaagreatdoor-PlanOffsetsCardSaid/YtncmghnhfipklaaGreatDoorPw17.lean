/-
  The walks of the program's Check, second part: the sides of a comparison. Printed by pgb.py.
-/
import Derived.Test.YtncmghnhfipklaaGreatDoorPw16
namespace Go.Proofs.YtncmghnhfipklaaGreatDoor
open Go.RowKit
set_option linter.unusedVariables false
set_option linter.unusedSimpArgs false
structure Scope (F:Nat→Prop) (w:World) (zs zk nk:Nat) (f:MapF) (ts:List Typ) (known:List Pat) (ao:Option Addr) (n cap:Nat):Prop where
 lt:zs<w.heap.size
 c0:w.cell? ⟨zs,0,none⟩=some (.slice ao n cap)
 c1:w.cell? ⟨zs,1,none⟩=some (.map (some zk))
 types:SlF F w 2 typF ao n cap ts
 map_:MapOf Tryz.prog 9 w zk nk f
 has: ∀ s:ByteArray,s.size≤maxLen→patI known s<known.length→ ∃ cs,f s=some (.agg cs.toArray)∧TypAs F w (typAt ts (known.getD (patI known s) pat0).type) cs
 hasnt: ∀ s:ByteArray,s.size≤maxLen→ ¬ patI known s<known.length→f s=none
 there: ∀ p∈known,typI ts p.type<ts.length
theorem TypAs.same{F G:Nat→Prop}{w w' :World}{t:Typ}{cs:List Value}(h:TypAs F w t cs)(hs:Same F G w w'):TypAs G w' t cs:=by
 obtain⟨a,n,c,h1,h2⟩:=h
 exact⟨a,n,c,h1,h2.same (plainF_firm _) hs⟩
theorem Scope.below{F:Nat→Prop}{w w' :World}{zs zk nk:Nat}{f:MapF}{ts:List Typ}{known:List Pat}{ao:Option Addr}{n cap:Nat}(h:Scope F w zs zk nk f ts known ao n cap)(hb:Below w.heap.size w w'):Scope F w' zs zk nk f ts known ao n cap where
 lt:=Nat.lt_of_lt_of_le h.lt hb.size
 c0:=by rw[(bcell hb).1 _ _ h.lt];exact h.c0
 c1:=by rw[(bcell hb).1 _ _ h.lt];exact h.c1
 types:=h.types.below typF_firm hb
 map_:=h.map_.same (hb.block _ h.map_.lt)
 has:=fun s hs hp=>by
  obtain⟨cs,h1,h2⟩:=h.has s hs hp
  exact⟨cs,h1,h2.same (Same.below hb)⟩
 hasnt:=h.hasnt
 there:=h.there
def TypGood(t:Typ):Prop:=typOk t∧typE t.name t.fields=0
structure LookTo (f:MapF) (x:ByteArray) (v:Value) (ok:Bool):Prop where
 val:(f x).getD (.agg #[.string ByteArray.empty,.slice none 0 0])=v
 ok:(f x).isSome=ok
section
variable {P:Program} {dst:Option Tmp} {oty:TypeId} {pos:String} {after:Array Edge} {g:Option (Nat×Bool)} {l l' :List Value} {ds:List Deferred} {Q:Exit→Act→World→Prop} {K:Act→World→Prop} {w:World} {t j j' z n:Nat}
theorem q_looked{k:TypeId}{v:Value}{ok:Bool}{f:MapF}{x:ByteArray}[hm:Nth l j (.map (some z))][hx:Nth l j' (.string x)][hT:MapI P t k (.agg #[.string ByteArray.empty,.slice none 0 0])](ho:MapOf P k w z n f)(hs:x.size≤maxLen)(hl:LookTo f x v ok)[hd:PutI l dst (.tuple #[v,.bool ok]) l'](h:K ⟨l'.toArray,ds⟩ w):OWP P ⟨dst,.lookup t (.tmp j) (.tmp j') true,oty,pos,after,g⟩ ⟨l.toArray,ds⟩ w K Q:=by
 obtain⟨e1,e2⟩:=hl
 subst e1 e2
 exact q_looks ho hs h
end
section
variable {g:Nat} {F H:Nat→Prop} {ao:Option Addr} {n cap:Nat} {oo:Option Addr} {k ocap:Nat} {w0:World} {ts:List Typ} {known:List Pat} {own:Typ} {zs zk nk:Nat} {f:MapF}
set_option maxRecDepth 8000 in
set_option maxHeartbeats 4000000 in
theorem side_bad(hg:g<w0.heap.size)(o:Opd)(hk: ¬ (1≤o.kind∧o.kind≤3)):
  Calls Tryz.prog 70 #[.pointer (some ⟨zs,0,none⟩),.agg (opdC o).toArray,.agg #[.string own.name,.slice oo k ocap]] w0 (SidePost ts known own o w0):=by
 have M:=Mem.begin hg ⟨0,0⟩
 have HV:Hid (sideE ts known own o=3):=by show _=_;unfold sideE;rw[if_pos hk]
 have k1:(o.kind==1)=false:=by simp;omega
 have k2:(o.kind==2)=false:=by simp;omega
 have k3:(o.kind==3)=false:=by simp;omega
 unfold opdC
 clear hg hk
 go_enter Tryz.func70,Tryz.ntmps70
 go_wp2_with (with_reducible (first|(refine wB (L:=[]) M ?_;clear M;intro za w1 M)|(refine wB M ?_;clear M;intro zb w2 M)|refine wq M ?_|(refine wS M ?_;clear M;intro w M)|(refine wV M ?_;clear M;intro z w M)))
 go_ret2
 exact side_out M.new HV.out (fun h=>absurd h (by decide))
set_option maxRecDepth 8000 in
set_option maxHeartbeats 4000000 in
theorem side_one(hg:g<w0.heap.size)(o:Opd)(hk:o.kind=1)(hs:o.vtext.size≤maxLen):
  Calls Tryz.prog 70 #[.pointer (some ⟨zs,0,none⟩),.agg (opdC o).toArray,.agg #[.string own.name,.slice oo k ocap]] w0 (SidePost ts known own o w0):=by
 have M:=Mem.begin hg ⟨0,0⟩
 have HVF:=Lib.hid (fun wx=>valCheck_any o.vkind o.vint o.vtext wx hs)
 have HV:Hid (sideE ts known own o=if opdBad o=true then 4 else valE ⟨o.vkind,o.vint,o.vtext⟩):=by
  show _=_
  unfold sideE
  rw[if_neg (by omega),if_neg (by omega),hk,if_pos rfl]
 have HK:Hid (sideK ts known own o=o.vkind):=by show _=_;unfold sideK;rw[if_pos hk]
 have HB:Hid (opdBad o=(!emS o.var||!emS o.field)):=by show _=_;unfold opdBad;rw[hk];simp
 unfold opdC
 rw[hk]
 clear hg hk hs
 go_enter Tryz.func70,Tryz.ntmps70
 go_wp2_with (with_reducible (first|(refine wB (L:=[]) M ?_;clear M;intro za w1 M)|(refine wB M ?_;clear M;intro zb w2 M)|refine wq M ?_|(refine wS M ?_;clear M;intro w M)|(refine wV M ?_;clear M;intro z w M)))
 ·(refine wp_region_any (by kernel_rfl) ?_;(try(change wpAny _ _ _ _ _ _ _ (World.drew _)));replace M:=M.drew;generalize World.drew _=w at M ⊢;have S:=St.o;((refine tk 0 (v:=?_) rfl (by kernel_rfl) rfl ?_ ?_;rotate_left;focus(intro w;go_simp;try with_reducible rfl));(try go_simp);(refine tk 1 (v:=?_) rfl (by kernel_rfl) rfl ?_ ?_;rotate_left;focus(intro w;go_simp;try with_reducible rfl));(try go_simp);(refine tk 3 (v:=?_) rfl (by kernel_rfl) rfl ?_ ?_;rotate_left;focus(intro w;go_simp;try with_reducible rfl));(try go_simp);replace S:=S.add 11;refine rd2 2 4 (by kernel_rfl) rfl rfl ?_ rfl rfl ?_<;>intro K hK);all_goals(first|(refine o_dst (some 51) ?_;(refine q_get M (by exact rfl) ?_);(all_goals(refine hK _ _ ?_;clear hK K;replace S:=S.add 4)))|(refine o_dst (some 53) ?_;(refine q_prt M (by rfl) ?_);(all_goals(refine hK _ _ ?_;clear hK K;replace S:=S.add 16))));all_goals(first|(replace S:St 15:=S;refine rd1 4 (by kernel_rfl) rfl rfl ?_<;>intro K hK)|(replace S:St 27:=S;refine rd2 2 5 (by kernel_rfl) rfl rfl ?_ rfl rfl ?_<;>intro K hK));all_goals(first|(refine o_dst (some 53) ?_;(refine q_prt M (by rfl) ?_);(all_goals(refine hK _ _ ?_;clear hK K;replace S:=S.add 16)))|(refine o_dst (some 51) ?_;(refine q_get M (by exact rfl) ?_);(all_goals(refine hK _ _ ?_;clear hK K;replace S:=S.add 4)))|(refine o_dst (some 54) ?_;(refine owp_of ?_;go_simp;(go_at_call 93;with_reducible refine(HVF.out _).mono ?_;rintro e w5 ⟨rfl,hb5⟩;replace M:=M.below hb5;clear hb5);(try go_simp));(all_goals(refine hK _ _ ?_;clear hK K;replace S:=S.add 32))));all_goals(first|(replace S:St 31:=S;refine rd1 5 (by kernel_rfl) rfl rfl ?_<;>intro K hK)|(replace S:St 59:=S;refine rd1 2 (by kernel_rfl) rfl rfl ?_<;>intro K hK));all_goals(first|(refine o_dst (some 54) ?_;(refine owp_of ?_;go_simp;(go_at_call 93;with_reducible refine(HVF.out _).mono ?_;rintro e w5 ⟨rfl,hb5⟩;replace M:=M.below hb5;clear hb5);(try go_simp));(all_goals(refine hK _ _ ?_;clear hK K;replace S:=S.add 32)))|(refine o_dst (some 51) ?_;(refine q_get M (by exact rfl) ?_);(all_goals(refine hK _ _ ?_;clear hK K;replace S:=S.add 4))));all_goals(clear S;((refine tk 6 (v:=?_) rfl (by kernel_rfl) rfl ?_ ?_;rotate_left;focus(intro w;go_simp;try with_reducible rfl));(try go_simp);(refine tk 7 (v:=?_) rfl (by kernel_rfl) rfl ?_ ?_;rotate_left;focus(intro w;go_simp;try with_reducible rfl));(try go_simp);refine wpAny_done (by kernel_rfl) ?_ _)))
  all_goals go_wp2
  all_goals go_ret2
  all_goals exact side_out M.new (by rw[HV.out,HB.out];simp[emS, *]) (fun _=>HK.out.symm)
 all_goals
  go_ret2
  exact side_out M.new (by rw[HV.out,HB.out];simp[emS, *]) (fun h=>absurd h (by decide))
set_option maxRecDepth 8000 in
set_option maxHeartbeats 4000000 in
theorem side_own(hg:g<w0.heap.size)(o:Opd)(hk:o.kind=2)(hO:SlF H w0 2 (plainF fldC) oo k ocap own.fields)(hown:TypGood own):
  Calls Tryz.prog 70 #[.pointer (some ⟨zs,0,none⟩),.agg (opdC o).toArray,.agg #[.string own.name,.slice oo k ocap]] w0 (SidePost ts known own o w0):=by
 have M:=Mem.begin hg ⟨0,0⟩
 have HFD:Hid (∀ wx,Below w0.heap.size w0 wx→Calls Tryz.prog 67 #[.agg #[.string own.name,.slice oo k ocap],.string o.field] wx fun e w' =>e= .returned (.tuple #[.int .i64 (fieldX own.name own.fields o.field),.int .i64 (fieldK own.name own.fields o.field),.int .i64 (fieldE own.name own.fields o.field)])∧Below wx.heap.size wx w'):=fun wx hbx=>
  field_any own.name oo k ocap own.fields o.field wx hown.1.1 (fld_R (hO.below (plainF_firm _) hbx) hown.1.2)
 have hT:sideT ts known own o=own:=by unfold sideT;rw[if_neg (by omega)]
 have HV:=side_look (ts:=ts) (known:=known) (own:=own) (o:=o) (by omega) (by omega) (fun h=>by omega)
 rw[hT]at HV
 have HB:Hid (opdBad o=(!emS o.var||!valZ o)):=by show _=_;unfold opdBad;rw[hk];simp
 have HK:Hid (fieldE own.name own.fields o.field=0→fieldK own.name own.fields o.field=sideK ts known own o):=fun h=>by
  unfold fieldK sideK
  rw[if_pos h,if_neg (by omega),hT]
 have HE:Hid (sideE ts known own o=if opdBad o=true then 4 else fieldE own.name own.fields o.field):=by
  show _=_
  rw[HV]
  unfold fieldE
  rw[if_pos hown.2]
 generalize fieldX own.name own.fields o.field=fx at HFD
 generalize fieldK own.name own.fields o.field=fk at HFD HK
 generalize fieldE own.name own.fields o.field=fe at HFD HK HE
 unfold opdC
 rw[hk]
 clear hg hk hO hown hT HV
 go_enter Tryz.func70,Tryz.ntmps70
 go_wp2_with (first|(with_reducible (first|(refine wB (L:=[]) M ?_;clear M;intro za w1 M)|(refine wB M ?_;clear M;intro zb w2 M)|refine wq M ?_|(refine wS M ?_;clear M;intro w M)|(refine wV M ?_;clear M;intro z w M)))|(go_at_call 67;with_reducible refine(HFD.out _ M.new).mono ?_;rintro e w5 ⟨rfl,hb5⟩;replace M:=M.below hb5;clear hb5))
 ·go_ret2
  exact side_out M.new (by rw[HE.out,HB.out];simp[emS,valZ, *]) HK.out
 all_goals
  go_ret2
  exact side_out M.new (by rw[HE.out,HB.out];simp[emS,valZ, *]) (fun h=>absurd h (by decide))
set_option maxRecDepth 8000 in
set_option maxHeartbeats 4000000 in
theorem side_other(hg:g<w0.heap.size)(o:Opd)(hk:o.kind=3)(hv:o.var.size≤maxLen)(hS:Scope F w0 zs zk nk f ts known ao n cap)(hts: ∀ t∈ts,TypGood t):
  Calls Tryz.prog 70 #[.pointer (some ⟨zs,0,none⟩),.agg (opdC o).toArray,.agg #[.string own.name,.slice oo k ocap]] w0 (SidePost ts known own o w0):=by
 have M:=Mem.begin hg ⟨0,0⟩
 have HS1:Hid (∀ wx,Below w0.heap.size w0 wx→wx.cell? ⟨zs,1,none⟩=some (.map (some zk))):=fun wx hb=>(hS.below hb).c1
 have HMP:Hid (∀ wx,Below w0.heap.size w0 wx→MapOf Tryz.prog 9 wx zk nk f):=fun wx hb=>(hS.below hb).map_
 by_cases hf:patI known o.var<known.length
 ·obtain⟨cs,hfv,ca,cn,cc,rfl,hfl⟩:=hS.has o.var hv hf
  have hge:known.getD (patI known o.var) pat0=known[patI known o.var]:=by rw[List.getD_eq_getElem?_getD,List.getElem?_eq_getElem hf];rfl
  rw[hge]at hfv hfl
  have hti:typI ts known[patI known o.var].type<ts.length:=hS.there _ (List.getElem_mem hf)
  have htt:typAt ts known[patI known o.var].type=ts[typI ts known[patI known o.var].type]:=by unfold typAt;rw[List.getD_eq_getElem?_getD,List.getElem?_eq_getElem hti];rfl
  have hgo:TypGood (typAt ts known[patI known o.var].type):=by rw[htt];exact hts _ (List.getElem_mem hti)
  have hT:sideT ts known own o=typAt ts known[patI known o.var].type:=by unfold sideT;rw[if_pos hk,hge]
  have HV:=side_look (ts:=ts) (known:=known) (own:=own) (o:=o) (by omega) (by omega) (fun h=>hf)
  rw[hT]at HV
  have HB:Hid (opdBad o=!valZ o):=by show _=_;unfold opdBad;rw[hk];simp
  generalize typAt ts known[patI known o.var].type=tt at hfv hfl hgo hT HV
  have HFD:Hid (∀ wx,Below w0.heap.size w0 wx→Calls Tryz.prog 67 #[.agg #[.string tt.name,.slice ca cn cc],.string o.field] wx fun e w' =>e= .returned (.tuple #[.int .i64 (fieldX tt.name tt.fields o.field),.int .i64 (fieldK tt.name tt.fields o.field),.int .i64 (fieldE tt.name tt.fields o.field)])∧Below wx.heap.size wx w'):=fun wx hbx=>
   field_any tt.name ca cn cc tt.fields o.field wx hgo.1.1 (fld_R (hfl.below (plainF_firm _) hbx) hgo.1.2)
  have HK:Hid (fieldE tt.name tt.fields o.field=0→fieldK tt.name tt.fields o.field=sideK ts known own o):=fun h=>by
   unfold fieldK sideK
   rw[if_pos h,if_neg (by omega),hT]
  have HE:Hid (sideE ts known own o=if opdBad o=true then 4 else fieldE tt.name tt.fields o.field):=by
   show _=_
   rw[HV]
   unfold fieldE
   rw[if_pos hgo.2]
  generalize fieldX tt.name tt.fields o.field=fx at HFD
  generalize fieldK tt.name tt.fields o.field=fk at HFD HK
  generalize fieldE tt.name tt.fields o.field=fe at HFD HK HE
  have e1:(f o.var).getD (.agg #[.string ByteArray.empty,.slice none 0 0])= .agg [.string tt.name,.slice ca cn cc].toArray:=by rw[hfv];rfl
  have e2:(f o.var).isSome=true:=by rw[hfv];rfl
  have HLK:Hid (LookTo f o.var (.agg [.string tt.name,.slice ca cn cc].toArray) true):=⟨e1,e2⟩
  have hv:=Lib.hid hv
  unfold opdC
  rw[hk]
  clear hg hk hS hts hf hgo hT HV hfl hge hti htt hfv e1 e2
  go_enter Tryz.func70,Tryz.ntmps70
  go_wp2_with (with_reducible (first|(refine wB (L:=[]) M ?_;clear M;intro za w1 M)|(refine wB M ?_;clear M;intro zb w2 M)|refine wq M ?_|(refine wS M ?_;clear M;intro w M)|(refine wV M ?_;clear M;intro z w M)))
  (refine wp_region_any (by kernel_rfl) ?_;(try(change wpAny _ _ _ _ _ _ _ (World.drew _)));replace M:=M.drew;generalize World.drew _=w at M ⊢;have S:=St.o;((refine tk 0 (v:=?_) rfl (by kernel_rfl) rfl ?_ ?_;rotate_left;focus(intro w;go_simp;try with_reducible rfl));(try go_simp);(refine tk 1 (v:=?_) rfl (by kernel_rfl) rfl ?_ ?_;rotate_left;focus(intro w;go_simp;try with_reducible rfl));(try go_simp);(refine tk 2 (v:=?_) rfl (by kernel_rfl) rfl ?_ ?_;rotate_left;focus(intro w;go_simp;try with_reducible rfl));(try go_simp);(refine tk 4 (v:=?_) rfl (by kernel_rfl) rfl ?_ ?_;rotate_left;focus(intro w;go_simp;try with_reducible rfl));(try go_simp);replace S:=S.add 23;refine rd2 3 5 (by kernel_rfl) rfl rfl ?_ rfl rfl ?_<;>intro K hK);all_goals(first|(refine o_dst (some 33) ?_;(refine q_cellat (HS1.out _ M.new) ?_);(all_goals(refine hK _ _ ?_;clear hK K;replace S:=S.add 8)))|(refine o_dst (some 35) ?_;(refine q_get M (by exact rfl) ?_);(all_goals(refine hK _ _ ?_;clear hK K;replace S:=S.add 32))));all_goals(first|(replace S:St 31:=S;refine rd1 5 (by kernel_rfl) rfl rfl ?_<;>intro K hK)|(replace S:St 55:=S;refine rd1 3 (by kernel_rfl) rfl rfl ?_<;>intro K hK));all_goals(first|(refine o_dst (some 35) ?_;(refine q_get M (by exact rfl) ?_);(all_goals(refine hK _ _ ?_;clear hK K;replace S:=S.add 32)))|(refine o_dst (some 33) ?_;(refine q_cellat (HS1.out _ M.new) ?_);(all_goals(refine hK _ _ ?_;clear hK K;replace S:=S.add 8))));all_goals(refine rd1 6 (by kernel_rfl) rfl rfl ?_<;>intro K hK);all_goals(refine o_dst (some 36) ?_;(refine q_looked (HMP.out _ M.new) hv.out HLK.out ?_);(all_goals(refine hK _ _ ?_;clear hK K;replace S:=S.add 64)));all_goals((refine tk 7 (v:=?_) rfl (by kernel_rfl) rfl ?_ ?_;rotate_left;focus(intro w;go_simp;try with_reducible rfl));(try go_simp);(refine tk 8 (v:=?_) rfl (by kernel_rfl) rfl ?_ ?_;rotate_left;focus(intro w;go_simp;try with_reducible rfl));(try go_simp);(refine tk 9 (v:=?_) rfl (by kernel_rfl) rfl ?_ ?_;rotate_left;focus(intro w;go_simp;try with_reducible rfl));(try go_simp);replace S:=S.add 896;refine rd1 10 (by kernel_rfl) rfl rfl ?_<;>intro K hK);all_goals(refine o_dst none ?_;((refine q_put M (by rfl) (by rfl) (by rfl) ?_);clear M;intro w M;simp only[List.set_cons_zero,List.set_cons_succ]at M);(all_goals(refine hK _ _ ?_;clear hK K;replace S:=S.add 1024)));all_goals(clear S;((refine tk 11 (v:=?_) rfl (by kernel_rfl) rfl ?_ ?_;rotate_left;focus(intro w;go_simp;try with_reducible rfl));(try go_simp);refine wpAny_done (by kernel_rfl) ?_ _)))
  all_goals(go_wp2_with (first|(with_reducible refine wq M ?_)|(go_at_call 67;with_reducible refine(HFD.out _ M.new).mono ?_;rintro e w5 ⟨rfl,hb5⟩;replace M:=M.below hb5;clear hb5)))
  all_goals go_ret2
  all_goals first|exact side_out M.new (by rw[HE.out,HB.out];simp[emS,valZ, *]) HK.out|exact side_out M.new (by rw[HE.out,HB.out];simp[emS,valZ, *]) (fun h=>absurd h (by decide))
 ·have e1:(f o.var).getD (.agg #[.string ByteArray.empty,.slice none 0 0])= .agg [.string ByteArray.empty,.slice none 0 0].toArray:=by rw[hS.hasnt o.var hv hf];rfl
  have e2:(f o.var).isSome=false:=by rw[hS.hasnt o.var hv hf];rfl
  have HLK:Hid (LookTo f o.var (.agg [.string ByteArray.empty,.slice none 0 0].toArray) false):=⟨e1,e2⟩
  have HV:Hid (sideE ts known own o=6):=by show _=_;unfold sideE;rw[if_neg (by omega),if_pos ⟨hk,by omega⟩]
  have hv:=Lib.hid hv
  unfold opdC
  rw[hk]
  clear hg hk hS hts hf e1 e2
  go_enter Tryz.func70,Tryz.ntmps70
  go_wp2_with (with_reducible (first|(refine wB (L:=[]) M ?_;clear M;intro za w1 M)|(refine wB M ?_;clear M;intro zb w2 M)|refine wq M ?_|(refine wS M ?_;clear M;intro w M)|(refine wV M ?_;clear M;intro z w M)))
  (refine wp_region_any (by kernel_rfl) ?_;(try(change wpAny _ _ _ _ _ _ _ (World.drew _)));replace M:=M.drew;generalize World.drew _=w at M ⊢;have S:=St.o;((refine tk 0 (v:=?_) rfl (by kernel_rfl) rfl ?_ ?_;rotate_left;focus(intro w;go_simp;try with_reducible rfl));(try go_simp);(refine tk 1 (v:=?_) rfl (by kernel_rfl) rfl ?_ ?_;rotate_left;focus(intro w;go_simp;try with_reducible rfl));(try go_simp);(refine tk 2 (v:=?_) rfl (by kernel_rfl) rfl ?_ ?_;rotate_left;focus(intro w;go_simp;try with_reducible rfl));(try go_simp);(refine tk 4 (v:=?_) rfl (by kernel_rfl) rfl ?_ ?_;rotate_left;focus(intro w;go_simp;try with_reducible rfl));(try go_simp);replace S:=S.add 23;refine rd2 3 5 (by kernel_rfl) rfl rfl ?_ rfl rfl ?_<;>intro K hK);all_goals(first|(refine o_dst (some 33) ?_;(refine q_cellat (HS1.out _ M.new) ?_);(all_goals(refine hK _ _ ?_;clear hK K;replace S:=S.add 8)))|(refine o_dst (some 35) ?_;(refine q_get M (by exact rfl) ?_);(all_goals(refine hK _ _ ?_;clear hK K;replace S:=S.add 32))));all_goals(first|(replace S:St 31:=S;refine rd1 5 (by kernel_rfl) rfl rfl ?_<;>intro K hK)|(replace S:St 55:=S;refine rd1 3 (by kernel_rfl) rfl rfl ?_<;>intro K hK));all_goals(first|(refine o_dst (some 35) ?_;(refine q_get M (by exact rfl) ?_);(all_goals(refine hK _ _ ?_;clear hK K;replace S:=S.add 32)))|(refine o_dst (some 33) ?_;(refine q_cellat (HS1.out _ M.new) ?_);(all_goals(refine hK _ _ ?_;clear hK K;replace S:=S.add 8))));all_goals(refine rd1 6 (by kernel_rfl) rfl rfl ?_<;>intro K hK);all_goals(refine o_dst (some 36) ?_;(refine q_looked (HMP.out _ M.new) hv.out HLK.out ?_);(all_goals(refine hK _ _ ?_;clear hK K;replace S:=S.add 64)));all_goals((refine tk 7 (v:=?_) rfl (by kernel_rfl) rfl ?_ ?_;rotate_left;focus(intro w;go_simp;try with_reducible rfl));(try go_simp);(refine tk 8 (v:=?_) rfl (by kernel_rfl) rfl ?_ ?_;rotate_left;focus(intro w;go_simp;try with_reducible rfl));(try go_simp);(refine tk 9 (v:=?_) rfl (by kernel_rfl) rfl ?_ ?_;rotate_left;focus(intro w;go_simp;try with_reducible rfl));(try go_simp);replace S:=S.add 896;refine rd1 10 (by kernel_rfl) rfl rfl ?_<;>intro K hK);all_goals(refine o_dst none ?_;((refine q_put M (by rfl) (by rfl) (by rfl) ?_);clear M;intro w M;simp only[List.set_cons_zero,List.set_cons_succ]at M);(all_goals(refine hK _ _ ?_;clear hK K;replace S:=S.add 1024)));all_goals(clear S;((refine tk 11 (v:=?_) rfl (by kernel_rfl) rfl ?_ ?_;rotate_left;focus(intro w;go_simp;try with_reducible rfl));(try go_simp);refine wpAny_done (by kernel_rfl) ?_ _)))
  all_goals(go_wp2_with (first|(with_reducible (first|refine wq M ?_|(refine wS M ?_;clear M;intro w M)|(refine wV M ?_;clear M;intro z w M)|(refine wR M ?_;clear M;intro q w M)))|((with_reducible refine o_list rfl fun K hK=>?_);refine q_in M (by rfl) (by rfl) (by rfl) ?_;clear M;intro w M;refine hK _ _ ?_;clear hK K)))
  all_goals go_ret2
  all_goals exact side_out M.new HV.out (fun h=>absurd h (by decide))
theorem side_any(hg:g<w0.heap.size)(o:Opd)(hs:o.vtext.size≤maxLen)(hv:o.var.size≤maxLen)(hS:Scope F w0 zs zk nk f ts known ao n cap)(hts: ∀ t∈ts,TypGood t)(hO:SlF H w0 2 (plainF fldC) oo k ocap own.fields)(hown:TypGood own):
  Calls Tryz.prog 70 #[.pointer (some ⟨zs,0,none⟩),.agg (opdC o).toArray,.agg #[.string own.name,.slice oo k ocap]] w0 (SidePost ts known own o w0):=by
 by_cases hk:1≤o.kind∧o.kind≤3
 ·by_cases h1:o.kind=1
  ·exact side_one hg o h1 hs
  ·by_cases h2:o.kind=2
   ·exact side_own hg o h2 hO hown
   ·exact side_other hg o (by omega) hv hS hts
 ·exact side_bad hg o hk
end
end Go.Proofs.YtncmghnhfipklaaGreatDoor
