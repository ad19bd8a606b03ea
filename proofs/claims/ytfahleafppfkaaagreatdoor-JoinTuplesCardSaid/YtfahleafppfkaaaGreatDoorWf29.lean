/-
  The walks of the reference's sift: a side of a comparison. Printed by sfk.py.
-/
import Derived.Test.YtfahleafppfkaaaGreatDoorWf19
import Derived.Test.YtfahleafppfkaaaGreatDoorWf23
namespace Go.Proofs.YtfahleafppfkaaaGreatDoor
open Go.RowKit
set_option linter.unusedVariables false
set_option linter.unusedSimpArgs false
structure RA where
 a1:Option Addr
 n1:Nat
 c1:Nat
 b1:Option Addr
 m1:Nat
 e1:Nat
 p:Option Addr
 q:Nat
 r:Nat
 a3:Option Addr
 n3:Nat
 c3:Nat
structure Rv (w:World) (v:RA) (ts:List Typ) (wh:List Pat) (known:List Eve) (me:Eve):Prop where
 pos: ∃ g,g<w.heap.size
 types:SlF (fun _=>True) w 2 typF v.a1 v.n1 v.c1 ts
 whens:SlF (fun _=>True) w 18 patF v.b1 v.m1 v.e1 wh
 vals:SlF (fun _=>True) w 3 (plainF valC) v.p v.q v.r me.vals
 knows:SlF (fun _=>True) w 5 eveF v.a3 v.n3 v.c3 known
 okT: ∀ t∈ts,typOk t
variable {w0:World} {v:RA} {ts:List Typ} {wh:List Pat} {known:List Eve} {me:Eve} {x:Rul} {b2 b3 b4 b6:Option Addr} {m2 e2 m3 e3 m4 e4 m6 e6:Nat}
theorem Rv.below{w' :World}(h:Rv w0 v ts wh known me)(hb:Below w0.heap.size w0 w'):Rv w' v ts wh known me:=
 ⟨h.pos.elim fun g hg=>⟨g,Nat.lt_of_lt_of_le hg hb.size⟩,h.types.below typF_firm hb,h.whens.below patF_firm hb,h.vals.below (plainF_firm _) hb,h.knows.below eveF_firm hb,h.okT⟩
set_option maxRecDepth 8000 in
set_option maxHeartbeats 4000000 in
theorem refSide_one(V:Rv w0 v ts wh known me)(o:Opd)(hk:o.kind=1):
  Calls Tryz.prog 126 #[.slice v.a1 v.n1 v.c1,.agg (rulC x (.slice v.b1 v.m1 v.e1) (.slice b2 m2 e2) (.slice b3 m3 e3) (.slice b4 m4 e4) (.slice b6 m6 e6)).toArray,.agg #[.int .i64 me.e.number,.int .i64 me.e.type,.int .i64 me.e.start,.int .i64 me.e.stop,.slice v.p v.q v.r],.slice v.a3 v.n3 v.c3,.agg (opdC o).toArray] w0 fun e w' =>e= .returned (valR3 (sideV ts wh known me o))∧Below w0.heap.size w0 w' :=by
 obtain⟨g,hg⟩:=V.pos
 have M:=Mem.begin hg ⟨0,0⟩
 have HV:Hid (sideV ts wh known me o=⟨o.vkind,o.vint,o.vtext⟩):=by show _=_;unfold sideV;rw[if_pos hk]
 unfold opdC rulC
 rw[hk]
 clear V hk hg
 go_enter Tryz.func126,Tryz.ntmps126
 go_wp2_with (with_reducible (first|(refine wB (L:=[]) M ?_;clear M;intro za w1 M)|(refine wB (L:=[_]) M ?_;clear M;intro zb w1 M)|(refine wB (L:=[_,_]) M ?_;clear M;intro zc w1 M)|(refine wV M ?_;clear M;intro zr w M)|refine wq M ?_|(refine wS M ?_;clear M;intro w M)))
 ((with_reducible refine body_id ?_);(refine q_ret M Tryz.results126 (by rfl) ?_))
 rw[HV.out]
 exact⟨rfl,M.new⟩
set_option maxRecDepth 8000 in
set_option maxHeartbeats 4000000 in
theorem refSide_own(V:Rv w0 v ts wh known me)(o:Opd)(hk:o.kind=2)(hx:EvGood ts me)(hf:fldAt (evT ts me).fields o.field<(evT ts me).fields.length):
  Calls Tryz.prog 126 #[.slice v.a1 v.n1 v.c1,.agg (rulC x (.slice v.b1 v.m1 v.e1) (.slice b2 m2 e2) (.slice b3 m3 e3) (.slice b4 m4 e4) (.slice b6 m6 e6)).toArray,.agg #[.int .i64 me.e.number,.int .i64 me.e.type,.int .i64 me.e.start,.int .i64 me.e.stop,.slice v.p v.q v.r],.slice v.a3 v.n3 v.c3,.agg (opdC o).toArray] w0 fun e w' =>e= .returned (valR3 (sideV ts wh known me o))∧Below w0.heap.size w0 w' :=by
 obtain⟨g,hg⟩:=V.pos
 have M:=Mem.begin hg ⟨0,0⟩
 have HV:Hid (sideV ts wh known me o=fldV ts me o.field):=by show _=_;rw[sideV_look (by omega),sideX_own (by omega)]
 have htl:me.e.type.toNat<ts.length:=by have:=hx.lo;have:=hx.hi;omega
 have hte:evT ts me=ts[me.e.type.toNat]:=by unfold evT;simp[List.getD,List.getElem?_eq_getElem htl]
 obtain⟨ct,ot,rowt,hixt, -,hrrt,hwt⟩:=SlF.rowAt (P:=Tryz.prog) V.types typF_firm Tryz.underlying22 size_typ (i:=me.e.type.toNat) htl
 rw[show((me.e.type.toNat:Nat):Int)=me.e.type from Int.toNat_of_nonneg hx.lo]at hixt
 obtain⟨p1,q1,s1,et,ut⟩:=hrrt
 subst et
 have hto:=V.okT _ (List.getElem_mem htl)
 have hfl:fldAt (evT ts me).fields o.field<me.vals.length:=by rw[hx.len];exact hf
 obtain⟨cv,ov,rowv,hixv, -,hrrv,hwv⟩:=SlF.rowAt (P:=Tryz.prog) V.vals (plainF_firm _) Tryz.underlying63 size_value (i:=fldAt (evT ts me).fields o.field) hfl
 have ev:rowv=valC me.vals[fldAt (evT ts me).fields o.field]:=hrrv
 have hfv:fldV ts me o.field=me.vals[fldAt (evT ts me).fields o.field]:=by unfold fldV;simp[List.getD,List.getElem?_eq_getElem hfl]
 rw[←hfv]at ev
 subst ev
 have HFA:Hid (∀ wx,Below w0.heap.size w0 wx→Calls Tryz.prog 54 #[.agg #[.string ts[me.e.type.toNat].name,.slice p1 q1 s1],.string o.field] wx fun e w' =>e= .returned (.int .i64 (fldAt (evT ts me).fields o.field:Nat))∧Below wx.heap.size wx w'):=fun wx hb=>by
  have h1:=fieldAt_any ts[me.e.type.toNat].name p1 q1 s1 ts[me.e.type.toNat].fields o.field wx (fld_R (ut.below (plainF_firm _) hb) hto.2)
  rw[←hte,show atI (evT ts me).fields o.field=(fldAt (evT ts me).fields o.field:Nat)by unfold atI;rw[if_pos hf]]at h1
  rw[←hte]
  exact h1
 have HR:=Lib.hid (fun wx hb=>(hwt wx hb).1)
 have HRV:=Lib.hid (fun wx hb=>(hwv wx hb).1)
 generalize fldV ts me o.field=y at HRV HV
 generalize fldAt (evT ts me).fields o.field=fa at HFA hixv
 generalize ts[me.e.type.toNat]=tt at HFA HR
 unfold typC at HR
 unfold valC at HRV
 unfold valR3
 unfold opdC rulC
 rw[hk]
 clear V hk hx hf htl hte hwt ut hto hfl hwv hrrv hfv hg
 go_enter Tryz.func126,Tryz.ntmps126
 go_wp2_with (with_reducible (first|(refine wB (L:=[]) M ?_;clear M;intro za w1 M)|(refine wB (L:=[_]) M ?_;clear M;intro zb w1 M)|(refine wB (L:=[_,_]) M ?_;clear M;intro zc w1 M)|(refine wV M ?_;clear M;intro zr w M)|refine wq M ?_|(refine wS M ?_;clear M;intro w M)))
 (refine wp_region_any (by kernel_rfl) ?_;(try(change wpAny _ _ _ _ _ _ _ (World.drew _)));replace M:=M.drew;generalize World.drew _=w at M ⊢;have S:=St.o;((refine tk 0 (v:=?_) rfl (by kernel_rfl) rfl ?_ ?_;rotate_left;focus(intro w;go_simp;try with_reducible rfl));(try go_simp);(refine tk 2 (v:=?_) rfl (by kernel_rfl) rfl ?_ ?_;rotate_left;focus(intro w;go_simp;try with_reducible rfl));(try go_simp);(refine tk 3 (v:=?_) rfl (by kernel_rfl) rfl ?_ ?_;rotate_left;focus(intro w;go_simp;try with_reducible rfl));(try go_simp);(refine tk 7 (v:=?_) rfl (by kernel_rfl) rfl ?_ ?_;rotate_left;focus(intro w;go_simp;try with_reducible rfl));(try go_simp);replace S:=S.add 141;refine rd3 1 4 8 (by kernel_rfl) rfl rfl ?_ rfl rfl ?_ rfl rfl ?_<;>intro K hK);all_goals(first|(refine o_dst (some 30) ?_;(refine q_get M (by exact rfl) ?_);(all_goals(refine hK _ _ ?_;clear hK K;replace S:=S.add 2)))|(refine o_dst (some 33) ?_;(refine q_get M (by exact rfl) ?_);(all_goals(refine hK _ _ ?_;clear hK K;replace S:=S.add 16)))|(refine o_dst (some 37) ?_;(refine q_get M (by exact rfl) ?_);(all_goals(refine hK _ _ ?_;clear hK K;replace S:=S.add 256))));all_goals(first|(replace S:St 143:=S;refine rd2 4 8 (by kernel_rfl) rfl rfl ?_ rfl rfl ?_<;>intro K hK)|(replace S:St 157:=S;(refine tk 5 (v:=?_) rfl (by kernel_rfl) rfl ?_ ?_;rotate_left;focus(intro w;go_simp;try with_reducible rfl));(try go_simp);replace S:=S.add 32;refine rd3 1 6 8 (by kernel_rfl) rfl rfl ?_ rfl rfl ?_ rfl rfl ?_<;>intro K hK)|(replace S:St 397:=S;refine rd2 1 4 (by kernel_rfl) rfl rfl ?_ rfl rfl ?_<;>intro K hK));all_goals(first|(refine o_dst (some 33) ?_;(refine q_get M (by exact rfl) ?_);(all_goals(refine hK _ _ ?_;clear hK K;replace S:=S.add 16)))|(refine o_dst (some 37) ?_;(refine q_get M (by exact rfl) ?_);(all_goals(refine hK _ _ ?_;clear hK K;replace S:=S.add 256)))|(refine o_dst (some 30) ?_;(refine q_get M (by exact rfl) ?_);(all_goals(refine hK _ _ ?_;clear hK K;replace S:=S.add 2)))|(refine o_dst (some 35) ?_;(refine q_at (HR.out _ M.new) (by rfl) ?_);(all_goals(refine hK _ _ ?_;clear hK K;replace S:=S.add 64))));all_goals(first|(replace S:St 159:=S;(refine tk 5 (v:=?_) rfl (by kernel_rfl) rfl ?_ ?_;rotate_left;focus(intro w;go_simp;try with_reducible rfl));(try go_simp);replace S:=S.add 32;refine rd2 6 8 (by kernel_rfl) rfl rfl ?_ rfl rfl ?_<;>intro K hK)|(replace S:St 399:=S;refine rd1 4 (by kernel_rfl) rfl rfl ?_<;>intro K hK)|(replace S:St 191:=S;refine rd2 6 8 (by kernel_rfl) rfl rfl ?_ rfl rfl ?_<;>intro K hK)|(replace S:St 253:=S;refine rd2 1 8 (by kernel_rfl) rfl rfl ?_ rfl rfl ?_<;>intro K hK)|(replace S:St 445:=S;refine rd2 1 6 (by kernel_rfl) rfl rfl ?_ rfl rfl ?_<;>intro K hK)|(replace S:St 413:=S;(refine tk 5 (v:=?_) rfl (by kernel_rfl) rfl ?_ ?_;rotate_left;focus(intro w;go_simp;try with_reducible rfl));(try go_simp);replace S:=S.add 32;refine rd2 1 6 (by kernel_rfl) rfl rfl ?_ rfl rfl ?_<;>intro K hK));all_goals(first|(refine o_dst (some 35) ?_;(refine q_at (HR.out _ M.new) (by rfl) ?_);(all_goals(refine hK _ _ ?_;clear hK K;replace S:=S.add 64)))|(refine o_dst (some 37) ?_;(refine q_get M (by exact rfl) ?_);(all_goals(refine hK _ _ ?_;clear hK K;replace S:=S.add 256)))|(refine o_dst (some 33) ?_;(refine q_get M (by exact rfl) ?_);(all_goals(refine hK _ _ ?_;clear hK K;replace S:=S.add 16)))|(refine o_dst (some 30) ?_;(refine q_get M (by exact rfl) ?_);(all_goals(refine hK _ _ ?_;clear hK K;replace S:=S.add 2))));all_goals(first|(replace S:St 255:=S;refine rd1 8 (by kernel_rfl) rfl rfl ?_<;>intro K hK)|(replace S:St 447:=S;refine rd1 6 (by kernel_rfl) rfl rfl ?_<;>intro K hK)|(replace S:St 415:=S;(refine tk 5 (v:=?_) rfl (by kernel_rfl) rfl ?_ ?_;rotate_left;focus(intro w;go_simp;try with_reducible rfl));(try go_simp);replace S:=S.add 32;refine rd1 6 (by kernel_rfl) rfl rfl ?_<;>intro K hK)|(replace S:St 509:=S;refine rd2 1 9 (by kernel_rfl) rfl rfl ?_ rfl rfl ?_<;>intro K hK));all_goals(first|(refine o_dst (some 37) ?_;(refine q_get M (by exact rfl) ?_);(all_goals(refine hK _ _ ?_;clear hK K;replace S:=S.add 256)))|(refine o_dst (some 35) ?_;(refine q_at (HR.out _ M.new) (by rfl) ?_);(all_goals(refine hK _ _ ?_;clear hK K;replace S:=S.add 64)))|(refine o_dst (some 30) ?_;(refine q_get M (by exact rfl) ?_);(all_goals(refine hK _ _ ?_;clear hK K;replace S:=S.add 2)))|(refine o_dst (some 38) ?_;(refine owp_of ?_;go_simp;(go_at_call 54;with_reducible refine(HFA.out _ M.new).mono ?_;rintro e w5 ⟨rfl,hb5⟩;replace M:=M.below hb5;clear hb5);(try go_simp));(all_goals(refine hK _ _ ?_;clear hK K;replace S:=S.add 512))));all_goals(first|(replace S:St 511:=S;refine rd1 9 (by kernel_rfl) rfl rfl ?_<;>intro K hK)|(replace S:St 1021:=S;refine rd1 1 (by kernel_rfl) rfl rfl ?_<;>intro K hK));all_goals(first|(refine o_dst (some 38) ?_;(refine owp_of ?_;go_simp;(go_at_call 54;with_reducible refine(HFA.out _ M.new).mono ?_;rintro e w5 ⟨rfl,hb5⟩;replace M:=M.below hb5;clear hb5);(try go_simp));(all_goals(refine hK _ _ ?_;clear hK K;replace S:=S.add 512)))|(refine o_dst (some 30) ?_;(refine q_get M (by exact rfl) ?_);(all_goals(refine hK _ _ ?_;clear hK K;replace S:=S.add 2))));all_goals((refine tk 10 (v:=?_) rfl (by kernel_rfl) rfl ?_ ?_;rotate_left;focus(intro w;go_simp;try with_reducible rfl));(try go_simp);replace S:=S.add 1024;refine rd1 11 (by kernel_rfl) rfl rfl ?_<;>intro K hK);all_goals(refine o_dst (some 40) ?_;(refine q_at (HRV.out _ M.new) (by rfl) ?_);(all_goals(refine hK _ _ ?_;clear hK K;replace S:=S.add 2048)));all_goals(refine rd1 12 (by kernel_rfl) rfl rfl ?_<;>intro K hK);all_goals(refine o_dst none ?_;((refine q_put M (by rfl) (by rfl) (by rfl) ?_);clear M;intro w M;simp only[List.set_cons_zero,List.set_cons_succ]at M);(all_goals(refine hK _ _ ?_;clear hK K;replace S:=S.add 4096)));all_goals(clear S;(refine wpAny_done (by kernel_rfl) ?_ _)))
 all_goals
 go_wp2_with (with_reducible (first|refine wq M ?_|(refine wS M ?_;clear M;intro w M)|(refine wV M ?_;clear M;intro z w M)|(refine wR M ?_;clear M;intro q w M)))
 ((with_reducible refine body_id ?_);(refine q_ret M Tryz.results126 (by rfl) ?_))
 rw[HV.out]
 exact⟨rfl,M.new⟩
set_option maxRecDepth 8000 in
set_option maxHeartbeats 4000000 in
theorem refSide_other(V:Rv w0 v ts wh known me)(hle:known.length≤wh.length)(o:Opd)(hk:o.kind=3)(hi:patI wh o.var<known.length)(hx:EvGood ts (sideX wh known me o))(hf:fldAt (evT ts (sideX wh known me o)).fields o.field<(evT ts (sideX wh known me o)).fields.length):
  Calls Tryz.prog 126 #[.slice v.a1 v.n1 v.c1,.agg (rulC x (.slice v.b1 v.m1 v.e1) (.slice b2 m2 e2) (.slice b3 m3 e3) (.slice b4 m4 e4) (.slice b6 m6 e6)).toArray,.agg #[.int .i64 me.e.number,.int .i64 me.e.type,.int .i64 me.e.start,.int .i64 me.e.stop,.slice v.p v.q v.r],.slice v.a3 v.n3 v.c3,.agg (opdC o).toArray] w0 fun e w' =>e= .returned (valR3 (sideV ts wh known me o))∧Below w0.heap.size w0 w' :=by
 obtain⟨g,hg⟩:=V.pos
 have M:=Mem.begin hg ⟨0,0⟩
 have hsx:sideX wh known me o=known[patI wh o.var]:=by unfold sideX;rw[if_pos hk];simp[List.getD,List.getElem?_eq_getElem hi]
 rw[hsx]at hx hf
 have HV:Hid (sideV ts wh known me o=fldV ts known[patI wh o.var] o.field):=by show _=_;rw[sideV_look (by omega),hsx]
 obtain⟨ck,ok,rowk,hixk, -,hrrk,hwk⟩:=SlF.rowAt (P:=Tryz.prog) V.knows eveF_firm Tryz.underlying26 size_eve (i:=patI wh o.var) hi
 obtain⟨p2,q2,s2,ek,uk⟩:=hrrk
 subst ek
 have HRK:=Lib.hid (fun wx hb=>(hwk wx hb).1)
 have HPN:Hid (∀ wx,Below w0.heap.size w0 wx→Calls Tryz.prog 81 #[.slice v.b1 v.m1 v.e1,.string o.var] wx fun e w' =>e= .returned (.int .i64 (patI wh o.var:Nat))∧Below wx.heap.size wx w'):=fun wx hb=>by
  have h1:=patternNamed_any (Nat.lt_of_lt_of_le hg hb.size) (V.whens.below patF_firm hb) o.var
  rw[show placeV (patI wh o.var) wh.length=(patI wh o.var:Nat)by unfold placeV;rw[if_pos (by omega)]]at h1
  exact h1
 have htl:known[patI wh o.var].e.type.toNat<ts.length:=by have:=hx.lo;have:=hx.hi;omega
 have hte:evT ts known[patI wh o.var]=ts[known[patI wh o.var].e.type.toNat]:=by unfold evT;simp[List.getD,List.getElem?_eq_getElem htl]
 obtain⟨ct,ot,rowt,hixt, -,hrrt,hwt⟩:=SlF.rowAt (P:=Tryz.prog) V.types typF_firm Tryz.underlying22 size_typ (i:=known[patI wh o.var].e.type.toNat) htl
 rw[show((known[patI wh o.var].e.type.toNat:Nat):Int)=known[patI wh o.var].e.type from Int.toNat_of_nonneg hx.lo]at hixt
 obtain⟨p1,q1,s1,et,ut⟩:=hrrt
 subst et
 have hto:=V.okT _ (List.getElem_mem htl)
 have hfl:fldAt (evT ts known[patI wh o.var]).fields o.field<known[patI wh o.var].vals.length:=by rw[hx.len];exact hf
 obtain⟨cv,ov,rowv,hixv, -,hrrv,hwv⟩:=SlF.rowAt (P:=Tryz.prog) uk (plainF_firm _) Tryz.underlying63 size_value (i:=fldAt (evT ts known[patI wh o.var]).fields o.field) hfl
 have ev:rowv=valC known[patI wh o.var].vals[fldAt (evT ts known[patI wh o.var]).fields o.field]:=hrrv
 have hfv:fldV ts known[patI wh o.var] o.field=known[patI wh o.var].vals[fldAt (evT ts known[patI wh o.var]).fields o.field]:=by unfold fldV;simp[List.getD,List.getElem?_eq_getElem hfl]
 rw[←hfv]at ev
 subst ev
 have HFA:Hid (∀ wx,Below w0.heap.size w0 wx→Calls Tryz.prog 54 #[.agg #[.string ts[known[patI wh o.var].e.type.toNat].name,.slice p1 q1 s1],.string o.field] wx fun e w' =>e= .returned (.int .i64 (fldAt (evT ts known[patI wh o.var]).fields o.field:Nat))∧Below wx.heap.size wx w'):=fun wx hb=>by
  have h1:=fieldAt_any ts[known[patI wh o.var].e.type.toNat].name p1 q1 s1 ts[known[patI wh o.var].e.type.toNat].fields o.field wx (fld_R (ut.below (plainF_firm _) hb) hto.2)
  rw[←hte,show atI (evT ts known[patI wh o.var]).fields o.field=(fldAt (evT ts known[patI wh o.var]).fields o.field:Nat)by unfold atI;rw[if_pos hf]]at h1
  rw[←hte]
  exact h1
 have HR:=Lib.hid (fun wx hb=>(hwt wx hb).1)
 have HRV:=Lib.hid (fun wx hb=>(hwv wx hb).1)
 generalize fldV ts known[patI wh o.var] o.field=y at HRV HV
 generalize fldAt (evT ts known[patI wh o.var]).fields o.field=fa at HFA hixv
 generalize ts[known[patI wh o.var].e.type.toNat]=tt at HFA HR
 unfold typC at HR
 unfold valC at HRV
 unfold valR3
 generalize known[patI wh o.var]=z at HRK hixt
 generalize patI wh o.var=J at *
 unfold opdC rulC
 rw[hk]
 clear V hk hx hf htl hte hwt ut hto hfl hwv hrrv hfv hg uk hwk hsx hi hle
 go_enter Tryz.func126,Tryz.ntmps126
 go_wp2_with (first|(go_at_call 81;with_reducible refine(HPN.out _ M.new).mono ?_;rintro e w5 ⟨rfl,hb5⟩;replace M:=M.below hb5;clear hb5)|(with_reducible (first|(refine wB (L:=[]) M ?_;clear M;intro za w1 M)|(refine wB (L:=[_]) M ?_;clear M;intro zb w1 M)|(refine wB (L:=[_,_]) M ?_;clear M;intro zc w1 M)|(refine wV M ?_;clear M;intro zr w M)|refine wA (HRK.out _ M.new) ?_|refine wq M ?_|(refine wS M ?_;clear M;intro w M))))
 (refine wp_region_any (by kernel_rfl) ?_;(try(change wpAny _ _ _ _ _ _ _ (World.drew _)));replace M:=M.drew;generalize World.drew _=w at M ⊢;have S:=St.o;((refine tk 0 (v:=?_) rfl (by kernel_rfl) rfl ?_ ?_;rotate_left;focus(intro w;go_simp;try with_reducible rfl));(try go_simp);(refine tk 2 (v:=?_) rfl (by kernel_rfl) rfl ?_ ?_;rotate_left;focus(intro w;go_simp;try with_reducible rfl));(try go_simp);(refine tk 3 (v:=?_) rfl (by kernel_rfl) rfl ?_ ?_;rotate_left;focus(intro w;go_simp;try with_reducible rfl));(try go_simp);(refine tk 7 (v:=?_) rfl (by kernel_rfl) rfl ?_ ?_;rotate_left;focus(intro w;go_simp;try with_reducible rfl));(try go_simp);replace S:=S.add 141;refine rd3 1 4 8 (by kernel_rfl) rfl rfl ?_ rfl rfl ?_ rfl rfl ?_<;>intro K hK);all_goals(first|(refine o_dst (some 30) ?_;(refine q_get M (by exact rfl) ?_);(all_goals(refine hK _ _ ?_;clear hK K;replace S:=S.add 2)))|(refine o_dst (some 33) ?_;(refine q_get M (by exact rfl) ?_);(all_goals(refine hK _ _ ?_;clear hK K;replace S:=S.add 16)))|(refine o_dst (some 37) ?_;(refine q_get M (by exact rfl) ?_);(all_goals(refine hK _ _ ?_;clear hK K;replace S:=S.add 256))));all_goals(first|(replace S:St 143:=S;refine rd2 4 8 (by kernel_rfl) rfl rfl ?_ rfl rfl ?_<;>intro K hK)|(replace S:St 157:=S;(refine tk 5 (v:=?_) rfl (by kernel_rfl) rfl ?_ ?_;rotate_left;focus(intro w;go_simp;try with_reducible rfl));(try go_simp);replace S:=S.add 32;refine rd3 1 6 8 (by kernel_rfl) rfl rfl ?_ rfl rfl ?_ rfl rfl ?_<;>intro K hK)|(replace S:St 397:=S;refine rd2 1 4 (by kernel_rfl) rfl rfl ?_ rfl rfl ?_<;>intro K hK));all_goals(first|(refine o_dst (some 33) ?_;(refine q_get M (by exact rfl) ?_);(all_goals(refine hK _ _ ?_;clear hK K;replace S:=S.add 16)))|(refine o_dst (some 37) ?_;(refine q_get M (by exact rfl) ?_);(all_goals(refine hK _ _ ?_;clear hK K;replace S:=S.add 256)))|(refine o_dst (some 30) ?_;(refine q_get M (by exact rfl) ?_);(all_goals(refine hK _ _ ?_;clear hK K;replace S:=S.add 2)))|(refine o_dst (some 35) ?_;(refine q_at (HR.out _ M.new) (by rfl) ?_);(all_goals(refine hK _ _ ?_;clear hK K;replace S:=S.add 64))));all_goals(first|(replace S:St 159:=S;(refine tk 5 (v:=?_) rfl (by kernel_rfl) rfl ?_ ?_;rotate_left;focus(intro w;go_simp;try with_reducible rfl));(try go_simp);replace S:=S.add 32;refine rd2 6 8 (by kernel_rfl) rfl rfl ?_ rfl rfl ?_<;>intro K hK)|(replace S:St 399:=S;refine rd1 4 (by kernel_rfl) rfl rfl ?_<;>intro K hK)|(replace S:St 191:=S;refine rd2 6 8 (by kernel_rfl) rfl rfl ?_ rfl rfl ?_<;>intro K hK)|(replace S:St 253:=S;refine rd2 1 8 (by kernel_rfl) rfl rfl ?_ rfl rfl ?_<;>intro K hK)|(replace S:St 445:=S;refine rd2 1 6 (by kernel_rfl) rfl rfl ?_ rfl rfl ?_<;>intro K hK)|(replace S:St 413:=S;(refine tk 5 (v:=?_) rfl (by kernel_rfl) rfl ?_ ?_;rotate_left;focus(intro w;go_simp;try with_reducible rfl));(try go_simp);replace S:=S.add 32;refine rd2 1 6 (by kernel_rfl) rfl rfl ?_ rfl rfl ?_<;>intro K hK));all_goals(first|(refine o_dst (some 35) ?_;(refine q_at (HR.out _ M.new) (by rfl) ?_);(all_goals(refine hK _ _ ?_;clear hK K;replace S:=S.add 64)))|(refine o_dst (some 37) ?_;(refine q_get M (by exact rfl) ?_);(all_goals(refine hK _ _ ?_;clear hK K;replace S:=S.add 256)))|(refine o_dst (some 33) ?_;(refine q_get M (by exact rfl) ?_);(all_goals(refine hK _ _ ?_;clear hK K;replace S:=S.add 16)))|(refine o_dst (some 30) ?_;(refine q_get M (by exact rfl) ?_);(all_goals(refine hK _ _ ?_;clear hK K;replace S:=S.add 2))));all_goals(first|(replace S:St 255:=S;refine rd1 8 (by kernel_rfl) rfl rfl ?_<;>intro K hK)|(replace S:St 447:=S;refine rd1 6 (by kernel_rfl) rfl rfl ?_<;>intro K hK)|(replace S:St 415:=S;(refine tk 5 (v:=?_) rfl (by kernel_rfl) rfl ?_ ?_;rotate_left;focus(intro w;go_simp;try with_reducible rfl));(try go_simp);replace S:=S.add 32;refine rd1 6 (by kernel_rfl) rfl rfl ?_<;>intro K hK)|(replace S:St 509:=S;refine rd2 1 9 (by kernel_rfl) rfl rfl ?_ rfl rfl ?_<;>intro K hK));all_goals(first|(refine o_dst (some 37) ?_;(refine q_get M (by exact rfl) ?_);(all_goals(refine hK _ _ ?_;clear hK K;replace S:=S.add 256)))|(refine o_dst (some 35) ?_;(refine q_at (HR.out _ M.new) (by rfl) ?_);(all_goals(refine hK _ _ ?_;clear hK K;replace S:=S.add 64)))|(refine o_dst (some 30) ?_;(refine q_get M (by exact rfl) ?_);(all_goals(refine hK _ _ ?_;clear hK K;replace S:=S.add 2)))|(refine o_dst (some 38) ?_;(refine owp_of ?_;go_simp;(go_at_call 54;with_reducible refine(HFA.out _ M.new).mono ?_;rintro e w5 ⟨rfl,hb5⟩;replace M:=M.below hb5;clear hb5);(try go_simp));(all_goals(refine hK _ _ ?_;clear hK K;replace S:=S.add 512))));all_goals(first|(replace S:St 511:=S;refine rd1 9 (by kernel_rfl) rfl rfl ?_<;>intro K hK)|(replace S:St 1021:=S;refine rd1 1 (by kernel_rfl) rfl rfl ?_<;>intro K hK));all_goals(first|(refine o_dst (some 38) ?_;(refine owp_of ?_;go_simp;(go_at_call 54;with_reducible refine(HFA.out _ M.new).mono ?_;rintro e w5 ⟨rfl,hb5⟩;replace M:=M.below hb5;clear hb5);(try go_simp));(all_goals(refine hK _ _ ?_;clear hK K;replace S:=S.add 512)))|(refine o_dst (some 30) ?_;(refine q_get M (by exact rfl) ?_);(all_goals(refine hK _ _ ?_;clear hK K;replace S:=S.add 2))));all_goals((refine tk 10 (v:=?_) rfl (by kernel_rfl) rfl ?_ ?_;rotate_left;focus(intro w;go_simp;try with_reducible rfl));(try go_simp);replace S:=S.add 1024;refine rd1 11 (by kernel_rfl) rfl rfl ?_<;>intro K hK);all_goals(refine o_dst (some 40) ?_;(refine q_at (HRV.out _ M.new) (by rfl) ?_);(all_goals(refine hK _ _ ?_;clear hK K;replace S:=S.add 2048)));all_goals(refine rd1 12 (by kernel_rfl) rfl rfl ?_<;>intro K hK);all_goals(refine o_dst none ?_;((refine q_put M (by rfl) (by rfl) (by rfl) ?_);clear M;intro w M;simp only[List.set_cons_zero,List.set_cons_succ]at M);(all_goals(refine hK _ _ ?_;clear hK K;replace S:=S.add 4096)));all_goals(clear S;(refine wpAny_done (by kernel_rfl) ?_ _)))
 all_goals
 go_wp2_with (with_reducible (first|refine wq M ?_|(refine wS M ?_;clear M;intro w M)|(refine wV M ?_;clear M;intro z w M)|(refine wR M ?_;clear M;intro q w M)))
 ((with_reducible refine body_id ?_);(refine q_ret M Tryz.results126 (by rfl) ?_))
 rw[HV.out]
 exact⟨rfl,M.new⟩
theorem refSide_any(V:Rv w0 v ts wh known me)(hle:known.length≤wh.length)(o:Opd)(hG:SideGood ts wh known me o):
  Calls Tryz.prog 126 #[.slice v.a1 v.n1 v.c1,.agg (rulC x (.slice v.b1 v.m1 v.e1) (.slice b2 m2 e2) (.slice b3 m3 e3) (.slice b4 m4 e4) (.slice b6 m6 e6)).toArray,.agg #[.int .i64 me.e.number,.int .i64 me.e.type,.int .i64 me.e.start,.int .i64 me.e.stop,.slice v.p v.q v.r],.slice v.a3 v.n3 v.c3,.agg (opdC o).toArray] w0 fun e w' =>e= .returned (valR3 (sideV ts wh known me o))∧Below w0.heap.size w0 w' :=by
 rcases hG with h|⟨h|⟨h,hi⟩,hx,hf⟩
 ·exact refSide_one V o h
 ·rw[sideX_own (by omega)]at hx hf
  exact refSide_own V o h hx hf
 ·exact refSide_other V hle o h hi hx hf
end Go.Proofs.YtfahleafppfkaaaGreatDoor
/-
  The walk of the reference's sift: does a condition hold? Printed by sfl.py.
-/
namespace Go.Proofs.YtfahleafppfkaaaGreatDoor
open Go.RowKit
set_option linter.unusedVariables false
set_option linter.unusedSimpArgs false
section
variable {ts:List Typ} {wh:List Pat} {known:List Eve} {me:Eve} {f:Nat} {c:Cond}
theorem count_not(h:c.kind=3)(h1:c.subs.length=1):holdR ts wh known me (f+1) c=decide (((c.subs.countP (holdR ts wh known me f):Nat):Int)=0):=by
 rw[hold_not h h1 (by omega)]
 obtain⟨s,hs⟩:=List.length_eq_one_iff.1 h1
 have e:c.subs[0]'(by omega)=s:=by simp[hs]
 rw[e,hs]
 cases hh:holdR ts wh known me f s<;>simp[List.countP_cons,hh]
theorem count_and(h:c.kind=1):holdR ts wh known me (f+1) c=decide (((c.subs.countP (holdR ts wh known me f):Nat):Int)=c.subs.length):=by
 conv in holdR ts wh known me (f+1) c=>unfold holdR
 rw[if_neg (by omega),if_neg (by omega),if_pos h,Bool.eq_iff_iff,List.all_eq_true,decide_eq_true_iff]
 have:=List.countP_eq_length (p:=holdR ts wh known me f) (l:=c.subs)
 constructor
 ·intro hh;exact congrArg _ (this.2 hh)
 ·intro hh;exact this.1 (by omega)
theorem count_or(h:c.kind=2):holdR ts wh known me (f+1) c=decide (0<((c.subs.countP (holdR ts wh known me f):Nat):Int)):=by
 conv in holdR ts wh known me (f+1) c=>unfold holdR
 rw[if_neg (by omega),if_neg (by omega),if_neg (by omega),if_pos h,Bool.eq_iff_iff,List.any_eq_true,decide_eq_true_iff]
 have:=List.countP_pos_iff (p:=holdR ts wh known me f) (l:=c.subs)
 constructor
 ·intro hh;have:=this.2 hh;omega
 ·intro hh;exact this.1 (by omega)
theorem countP_more{α:Type}{l:List α}{p:α→Bool}{j:Nat}(h:j<l.length){b:Bool}(hb:p l[j]=b):(l.take (j+1)).countP p=(l.take j).countP p+(if b then 1 else 0):=by
 rw[List.take_add_one,List.getElem?_eq_getElem h,List.countP_append]
 subst hb
 simp[List.countP_cons]
theorem cmpE_parts{a b:Val}(h:cmpE a b=0):valE a=0∧valE b=0∧a.kind=b.kind:=by
 unfold cmpE at h
 by_cases h1:valE a=0
 ·rw[if_pos h1]at h
  by_cases h2:valE b=0
  ·rw[if_pos h2]at h
   by_cases h3:a.kind=b.kind
   ·exact⟨h1,h2,h3⟩
   ·rw[if_neg h3]at h;exact absurd h (by decide)
  ·rw[if_neg h2]at h;exact absurd h h2
 ·rw[if_neg h1]at h;exact absurd h h1
end
section
variable {S:Nat→Prop} {w0:World} {v:RA} {ts:List Typ} {wh:List Pat} {known:List Eve} {me:Eve} {x:Rul} {b2 b3 b4 b6:Option Addr} {m2 e2 m3 e3 m4 e4 m6 e6:Nat} {f:Nat} {so:Option Addr} {sn sc:Nat}
set_option maxRecDepth 8000 in
set_option maxHeartbeats 4000000 in
theorem conHold_zero(V:Rv w0 v ts wh known me)(c:Cond)(hk:c.kind=0):
  Calls Tryz.prog 90 #[.slice v.a1 v.n1 v.c1,.agg (rulC x (.slice v.b1 v.m1 v.e1) (.slice b2 m2 e2) (.slice b3 m3 e3) (.slice b4 m4 e4) (.slice b6 m6 e6)).toArray,.agg #[.int .i64 me.e.number,.int .i64 me.e.type,.int .i64 me.e.start,.int .i64 me.e.stop,.slice v.p v.q v.r],.slice v.a3 v.n3 v.c3,.agg (cnd14 c.kind so sn sc c.left c.right).toArray] w0 fun e w' =>e= .returned (.bool (holdR ts wh known me (f+1) c))∧Below w0.heap.size w0 w' :=by
 obtain⟨g,hg⟩:=V.pos
 have M:=Mem.begin hg ⟨0,0⟩
 have HV:=Lib.hid (hold_zero (ts:=ts) (wh:=wh) (known:=known) (me:=me) (f:=f) hk)
 unfold cnd14 rulC
 rw[hk]
 clear V hk hg
 go_enter Tryz.func90,Tryz.ntmps90
 go_wp2_with (with_reducible (first|(refine wB (L:=[]) M ?_;clear M;intro za w1 M)|(refine wB (L:=[_]) M ?_;clear M;intro zb w1 M)|(refine wB (L:=[_,_]) M ?_;clear M;intro zc w1 M)|refine wq M ?_))
 go_ret
 rw[HV.out]
 exact⟨rfl,M.new⟩
set_option maxRecDepth 8000 in
set_option maxHeartbeats 4000000 in
theorem conHold_test(V:Rv w0 v ts wh known me)(hle:known.length≤wh.length)(c:Cond)(hk:4≤c.kind∧c.kind≤7)(hl:SideGood ts wh known me c.left)(hr:SideGood ts wh known me c.right)(hc:cmpE (sideV ts wh known me c.left) (sideV ts wh known me c.right)=0):
  Calls Tryz.prog 90 #[.slice v.a1 v.n1 v.c1,.agg (rulC x (.slice v.b1 v.m1 v.e1) (.slice b2 m2 e2) (.slice b3 m3 e3) (.slice b4 m4 e4) (.slice b6 m6 e6)).toArray,.agg #[.int .i64 me.e.number,.int .i64 me.e.type,.int .i64 me.e.start,.int .i64 me.e.stop,.slice v.p v.q v.r],.slice v.a3 v.n3 v.c3,.agg (cnd14 c.kind so sn sc c.left c.right).toArray] w0 fun e w' =>e= .returned (.bool (holdR ts wh known me (f+1) c))∧Below w0.heap.size w0 w' :=by
 obtain⟨g,hg⟩:=V.pos
 have M:=Mem.begin hg ⟨0,0⟩
 have HV:=Lib.hid (hold_test (ts:=ts) (wh:=wh) (known:=known) (me:=me) (f:=f) hk.1)
 have HSL:Hid (∀ wx,Below w0.heap.size w0 wx→Calls Tryz.prog 126 #[.slice v.a1 v.n1 v.c1,.agg (rulC x (.slice v.b1 v.m1 v.e1) (.slice b2 m2 e2) (.slice b3 m3 e3) (.slice b4 m4 e4) (.slice b6 m6 e6)).toArray,.agg #[.int .i64 me.e.number,.int .i64 me.e.type,.int .i64 me.e.start,.int .i64 me.e.stop,.slice v.p v.q v.r],.slice v.a3 v.n3 v.c3,.agg (opdC c.left).toArray] wx fun e w' =>e= .returned (valR3 (sideV ts wh known me c.left))∧Below wx.heap.size wx w'):=fun wx hb=>refSide_any (V.below hb) hle c.left hl
 have HSR:Hid (∀ wx,Below w0.heap.size w0 wx→Calls Tryz.prog 126 #[.slice v.a1 v.n1 v.c1,.agg (rulC x (.slice v.b1 v.m1 v.e1) (.slice b2 m2 e2) (.slice b3 m3 e3) (.slice b4 m4 e4) (.slice b6 m6 e6)).toArray,.agg #[.int .i64 me.e.number,.int .i64 me.e.type,.int .i64 me.e.start,.int .i64 me.e.stop,.slice v.p v.q v.r],.slice v.a3 v.n3 v.c3,.agg (opdC c.right).toArray] wx fun e w' =>e= .returned (valR3 (sideV ts wh known me c.right))∧Below wx.heap.size wx w'):=fun wx hb=>refSide_any (V.below hb) hle c.right hr
 obtain⟨v1,v2,v3⟩:=cmpE_parts hc
 have HCM:Hid (∀ wx,Calls Tryz.prog 125 #[valR3 (sideV ts wh known me c.left),valR3 (sideV ts wh known me c.right)] wx fun e w' =>e= .returned (.int .i64 (cmpV (sideV ts wh known me c.left) (sideV ts wh known me c.right)))∧Below wx.heap.size wx w'):=fun wx=>ordered_any _ _ wx v1 v2 v3
 have HKK:Hid (4≤c.kind∧c.kind≤7):=hk
 have k0:(c.kind==0)=false:=by simp;omega
 have k3:decide (3<c.kind)=true:=by simp;omega
 generalize cmpV (sideV ts wh known me c.left) (sideV ts wh known me c.right)=n at HCM HV
 generalize sideV ts wh known me c.left=xa at HSL HCM
 generalize sideV ts wh known me c.right=ya at HSR HCM
 unfold opdC rulC valR3 at HSL HSR
 unfold valR3 at HCM
 unfold cnd14 rulC
 generalize c.left=lo at HSL
 generalize c.right=ro at HSR
 generalize c.kind=k at *
 clear V hk hg hl hr hc v1 v2 v3 hle
 go_enter Tryz.func90,Tryz.ntmps90
 go_wp2_with (with_reducible (first|(refine wB (L:=[]) M ?_;clear M;intro za w1 M)|(refine wB (L:=[_]) M ?_;clear M;intro zb w1 M)|(refine wB (L:=[_,_]) M ?_;clear M;intro zc w1 M)|refine wq M ?_))
 ((refine wp_region_calm M (by kernel_rfl) (by kernel_rfl) ?_);(repeat((with_reducible refine c_list rfl fun K hK=>?_);(first|(refine c_load (l' :=?_) ⟨_,M⟩ (fun w M=>?_) ?_;rotate_left;focus((first|refine q_all M (by rfl) ?_|refine q_prt M (by rfl) ?_);refine⟨rfl,?_⟩;with_reducible rfl))|(refine c_call (n:=126) (args:=?_) (v:=?_) (fun w=>?_) (fun w M=>?_) ?_;rotate_left 2;(focus(go_simp;try with_reducible rfl));(focus(with_reducible refine(HSL.out _ M.new).mono ?_;rintro e w5 ⟨rfl,hb5⟩;refine⟨?_,M.below hb5⟩;with_reducible rfl)))|(refine c_call (n:=126) (args:=?_) (v:=?_) (fun w=>?_) (fun w M=>?_) ?_;rotate_left 2;(focus(go_simp;try with_reducible rfl));(focus(with_reducible refine(HSR.out _ M.new).mono ?_;rintro e w5 ⟨rfl,hb5⟩;refine⟨?_,M.below hb5⟩;with_reducible rfl)))|(refine c_call (n:=125) (args:=?_) (v:=?_) (fun w=>?_) (fun w M=>?_) ?_;rotate_left 2;(focus(go_simp;try with_reducible rfl));(focus(with_reducible refine(HCM.out _).mono ?_;rintro e w5 ⟨rfl,hb5⟩;refine⟨?_,M.below hb5⟩;with_reducible rfl)))|(refine c_pure (v:=?_) (fun w=>?_) ?_;rotate_left;focus(go_simp;try with_reducible rfl)));(try go_simp);with_reducible refine hK _ ?_;clear hK K));(refine wpQuiet_nil ?_);clear M;intro w M)
 obtain⟨h4,h7⟩:=HKK.out
 obtain hn|hn|hn:=Int.lt_trichotomy n 0
 ·have n1:(n==0)=false:=by simp;omega
  have n2:(n !=0)=true:=by simp;omega
  have n3:decide (n<0)=true:=by simp;omega
  have n4:decide (n≤0)=true:=by simp;omega
  obtain rfl|rfl|rfl|rfl:k=4∨k=5∨k=6∨k=7:=by omega
  all_goals
   clear h4 h7 hn
   go_wp2_with (with_reducible refine wq M ?_)
   go_ret
   rw[HV.out]
   exact⟨by simp[testB,n1,n2,n3,n4],M.new⟩
 ·subst hn
  obtain rfl|rfl|rfl|rfl:k=4∨k=5∨k=6∨k=7:=by omega
  all_goals
   clear h4 h7
   go_wp2_with (with_reducible refine wq M ?_)
   go_ret
   rw[HV.out]
   exact⟨by simp[testB],M.new⟩
 ·have n1:(n==0)=false:=by simp;omega
  have n2:(n !=0)=true:=by simp;omega
  have n3:decide (n<0)=false:=by simp;omega
  have n4:decide (n≤0)=false:=by simp;omega
  obtain rfl|rfl|rfl|rfl:k=4∨k=5∨k=6∨k=7:=by omega
  all_goals
   clear h4 h7 hn
   go_wp2_with (with_reducible refine wq M ?_)
   go_ret
   rw[HV.out]
   exact⟨by simp[testB,n1,n2,n3,n4],M.new⟩
set_option maxRecDepth 8000 in
set_option maxHeartbeats 4000000 in
theorem conHold_loop(V:Rv w0 v ts wh known me)(c:Cond)(hS:SlF S w0 14 CondF so sn sc c.subs)(IH: ∀ j (hj:j<c.subs.length) (so2:Option Addr) (sn2 sc2:Nat) (wy:World),Below w0.heap.size w0 wy→SlF S wy 14 CondF so2 sn2 sc2 c.subs[j].subs→Calls Tryz.prog 90 #[.slice v.a1 v.n1 v.c1,.agg (rulC x (.slice v.b1 v.m1 v.e1) (.slice b2 m2 e2) (.slice b3 m3 e3) (.slice b4 m4 e4) (.slice b6 m6 e6)).toArray,.agg #[.int .i64 me.e.number,.int .i64 me.e.type,.int .i64 me.e.start,.int .i64 me.e.stop,.slice v.p v.q v.r],.slice v.a3 v.n3 v.c3,.agg (cnd14 c.subs[j].kind so2 sn2 sc2 c.subs[j].left c.subs[j].right).toArray] wy fun e w' =>e= .returned (.bool (holdR ts wh known me f c.subs[j]))∧Below wy.heap.size wy w')(k:Int)(hk:c.kind=k)(h3:k=1∨k=2∨(k=3∧c.subs.length=1)):
  Calls Tryz.prog 90 #[.slice v.a1 v.n1 v.c1,.agg (rulC x (.slice v.b1 v.m1 v.e1) (.slice b2 m2 e2) (.slice b3 m3 e3) (.slice b4 m4 e4) (.slice b6 m6 e6)).toArray,.agg #[.int .i64 me.e.number,.int .i64 me.e.type,.int .i64 me.e.start,.int .i64 me.e.stop,.slice v.p v.q v.r],.slice v.a3 v.n3 v.c3,.agg (cnd14 c.kind so sn sc c.left c.right).toArray] w0 fun e w' =>e= .returned (.bool (holdR ts wh known me (f+1) c))∧Below w0.heap.size w0 w' :=by
 obtain⟨g,hg⟩:=V.pos
 have M:=Mem.begin hg ⟨0,0⟩
 have HS:=Lib.hid hS
 have NL:Hid (sn=c.subs.length):=hS.len
 have hle:=hS.le
 replace IH:=Lib.hid IH
 have HV:Hid (∀ t:Nat,t=c.subs.countP (holdR ts wh known me f)→(k=1→holdR ts wh known me (f+1) c=decide ((t:Int)=(sn:Int)))∧(k=2→holdR ts wh known me (f+1) c=decide (0<(t:Int)))∧(k=3→holdR ts wh known me (f+1) c=decide ((t:Int)=0))):=fun t ht=>by
  subst ht
  refine⟨fun h=>?_,fun h=>?_,fun h=>?_⟩
  ·rw[count_and (hk.trans h),NL.out]
  ·rw[count_or (hk.trans h)]
  ·rw[count_not (hk.trans h) (h3.elim (fun g=>absurd (g.symm.trans h) (by decide)) (fun g=>g.elim (fun g=>absurd (g.symm.trans h) (by decide)) (fun g=>g.2)))]
 have h3' :Hid (k=1∨k=2∨k=3):=by show _∨_;omega
 have k0:(k==0)=false:=by simp;omega
 have k3:decide (3<k)=false:=by simp;omega
 unfold cnd14 rulC
 rw[hk]
 clear V hk hS hg h3
 go_enter Tryz.func90,Tryz.ntmps90
 go_wp2_with (with_reducible (first|(refine wB (L:=[]) M ?_;clear M;intro za w1 M)|(refine wB (L:=[_]) M ?_;clear M;intro zb w1 M)|(refine wB (L:=[_,_]) M ?_;clear M;intro zc w1 M)|refine wq M ?_))
 go_loopw [12,13] (fun s i wr=> ∃ (j t:Nat),j≤sn∧t≤j∧s= .int .i64 t∧i= .int .i64 j∧Mem (StaysB g w0) g w0 wr ⟨0,0⟩ (own zc [.int .i64 k,.slice so sn sc,.int .i64 c.left.kind,.int .i64 c.left.vkind,.int .i64 c.left.vint,.string c.left.vtext,.string c.left.var,.string c.left.field,.int .i64 c.right.kind,.int .i64 c.right.vkind,.int .i64 c.right.vint,.string c.right.vtext,.string c.right.var,.string c.right.field] 76::own zb [.int .i64 me.e.number,.int .i64 me.e.type,.int .i64 me.e.start,.int .i64 me.e.stop,.slice v.p v.q v.r] 65::own za [.string x.name,.slice v.b1 v.m1 v.e1,.slice b2 m2 e2,.slice b3 m3 e3,.slice b4 m4 e4,.string x.etype,.slice b6 m6 e6] 60::[])∧Hid (t=(c.subs.take j).countP (holdR ts wh known me f))) (fun _ i _=>sn - (intOf i).toNat)
 case atStart=>exact⟨0,0,by omega,by omega,rfl,rfl,M,by show _=_;simp⟩
 case round=>
  clear M
  obtain⟨j,t,hj,htj,rfl,rfl,M,HT⟩:=hrel
  by_cases hlt:j<sn
  ·have hkl:j<c.subs.length:=by have:=NL.out;omega
   obtain⟨ca,oa,rowa,hixa, -,hrra,hwa⟩:=SlF.rowAt (P:=Tryz.prog) HS.out condF_firm Tryz.underlying70 size_cnd (i:=j) hkl
   obtain⟨so2,sn2,sc2,e1,hS2⟩:=hrra.open14
   subst e1
   have HR:Hid (∀ wx,Below w0.heap.size w0 wx→wx.rangeAt ca oa (cnd14 c.subs[j].kind so2 sn2 sc2 c.subs[j].left c.subs[j].right)):=fun wx hb=>(hwa wx hb).1
   have HC:Hid (∀ wx,Below w0.heap.size w0 wx→Calls Tryz.prog 90 #[.slice v.a1 v.n1 v.c1,.agg (rulC x (.slice v.b1 v.m1 v.e1) (.slice b2 m2 e2) (.slice b3 m3 e3) (.slice b4 m4 e4) (.slice b6 m6 e6)).toArray,.agg #[.int .i64 me.e.number,.int .i64 me.e.type,.int .i64 me.e.start,.int .i64 me.e.stop,.slice v.p v.q v.r],.slice v.a3 v.n3 v.c3,.agg (cnd14 c.subs[j].kind so2 sn2 sc2 c.subs[j].left c.subs[j].right).toArray] wx fun e w' =>e= .returned (.bool (holdR ts wh known me f c.subs[j]))∧Below wx.heap.size wx w'):=fun wx hb=>IH.out j hkl so2 sn2 sc2 wx hb (hS2.below condF_firm hb)
   have HM:Hid (∀ b,holdR ts wh known me f c.subs[j]=b→t+(if b then 1 else 0)=(c.subs.take (j+1)).countP (holdR ts wh known me f)):=fun b hb=>by rw[countP_more hkl hb,←HT.out]
   clear hwa hrra hS2 HT
   generalize holdR ts wh known me f c.subs[j]=b at HC HM
   generalize c.subs[j]=s at HR HC
   clear hkl
   unfold cnd14 rulC at HC
   unfold cnd14 at HR
   have HM2:=Lib.hid (HM.out b rfl)
   clear HM
   go_wp2_with (with_reducible refine wq M ?_)
   ((refine wp_region_calm M (by kernel_rfl) (by kernel_rfl) ?_);(repeat((with_reducible refine c_list rfl fun K hK=>?_);(first|(refine c_load (l' :=?_) ⟨_,M⟩ (fun w M=>?_) ?_;rotate_left;focus((first|(refine q_at (HR.out _ M.new) (by rfl) ?_)|refine q_get M (by exact rfl) ?_|refine q_all M (by rfl) ?_);refine⟨rfl,?_⟩;with_reducible rfl))|(refine c_call (n:=90) (args:=?_) (v:=?_) (fun w=>?_) (fun w M=>?_) ?_;rotate_left 2;(focus(go_simp;try with_reducible rfl));(focus(with_reducible refine(HC.out _ M.new).mono ?_;rintro e w5 ⟨rfl,hb5⟩;refine⟨?_,M.below hb5⟩;with_reducible rfl)))|(refine c_pure (v:=?_) (fun w=>?_) ?_;rotate_left;focus(go_simp;try with_reducible rfl)));(try go_simp);with_reducible refine hK _ ?_;clear hK K));(refine wpQuiet_nil ?_);clear M;intro w M)
   cases b with
   |false=>
    go_wp2_with (with_reducible (first|refine wq M ?_|(refine wS M ?_;clear M;intro w M)|(refine wV M ?_;clear M;intro z w M)|(refine wR M ?_;clear M;intro q w M)))
    go_roundw
    case rel=>exact⟨j+1,t,by omega,by omega,by go_num,by go_num,M,HM2⟩
    case measure=>simp[intOf];omega
   |true=>
    go_wp2_with (with_reducible (first|refine wq M ?_|(refine wS M ?_;clear M;intro w M)|(refine wV M ?_;clear M;intro z w M)|(refine wR M ?_;clear M;intro q w M)))
    go_roundw
    case rel=>exact⟨j+1,t+1,by omega,by omega,by go_num,by go_num,M,HM2⟩
    case measure=>simp[intOf];omega
  ·have hje:j=c.subs.length:=by have:=NL.out;omega
   have HV2:=Lib.hid (HV.out t (by have h:=HT.out;rw[hje,List.take_length]at h;exact h))
   clear HT HV hje
   obtain rfl|rfl|rfl:=h3'.out
   ·have HV3:=Lib.hid (HV2.out.1 rfl)
    by_cases hq:(t:Int)=(sn:Int)
    ·have hqb:((t:Int)==(sn:Int))=true:=by simpa using hq
     clear HV2 h3'
     replace hq:=Lib.hid hq
     go_wp2_with (with_reducible refine wq M ?_)
     go_ret
     rw[HV3.out]
     exact⟨by first|(simp[hq.out];done)|(have:=hq.out;simp;omega),M.new⟩
    ·have hqb:((t:Int)==(sn:Int))=false:=by simpa using hq
     clear HV2 h3'
     replace hq:=Lib.hid hq
     go_wp2_with (with_reducible refine wq M ?_)
     go_ret
     rw[HV3.out]
     exact⟨by first|(simp[hq.out];done)|(have:=hq.out;simp;omega),M.new⟩
   ·have HV3:=Lib.hid (HV2.out.2.1 rfl)
    by_cases hq:0<(t:Int)
    ·have hqb:decide (0<(t:Int))=true:=by simpa using hq
     clear HV2 h3'
     replace hq:=Lib.hid hq
     go_wp2_with (with_reducible refine wq M ?_)
     go_ret
     rw[HV3.out]
     exact⟨by simp[hqb],M.new⟩
    ·have hqb:decide (0<(t:Int))=false:=by simpa using hq
     clear HV2 h3'
     replace hq:=Lib.hid hq
     go_wp2_with (with_reducible refine wq M ?_)
     go_ret
     rw[HV3.out]
     exact⟨by simp[hqb],M.new⟩
   ·have HV3:=Lib.hid (HV2.out.2.2 rfl)
    by_cases hq:(t:Int)=0
    ·have hqb:((t:Int)==0)=true:=by simpa using hq
     clear HV2 h3'
     replace hq:=Lib.hid hq
     go_wp2_with (with_reducible refine wq M ?_)
     go_ret
     rw[HV3.out]
     exact⟨by first|(simp[hq.out];done)|(have:=hq.out;simp;omega),M.new⟩
    ·have hqb:((t:Int)==0)=false:=by simpa using hq
     clear HV2 h3'
     replace hq:=Lib.hid hq
     go_wp2_with (with_reducible refine wq M ?_)
     go_ret
     rw[HV3.out]
     exact⟨by first|(simp[hq.out];done)|(have:=hq.out;simp;omega),M.new⟩
theorem conHold_any(V:Rv w0 v ts wh known me)(hle:known.length≤wh.length):
  ∀ (f:Nat) (c:Cond) (so:Option Addr) (sn sc:Nat) (wx:World),Below w0.heap.size w0 wx→SlF S wx 14 CondF so sn sc c.subs→HoldGood ts wh known me f c→
   Calls Tryz.prog 90 #[.slice v.a1 v.n1 v.c1,.agg (rulC x (.slice v.b1 v.m1 v.e1) (.slice b2 m2 e2) (.slice b3 m3 e3) (.slice b4 m4 e4) (.slice b6 m6 e6)).toArray,.agg #[.int .i64 me.e.number,.int .i64 me.e.type,.int .i64 me.e.start,.int .i64 me.e.stop,.slice v.p v.q v.r],.slice v.a3 v.n3 v.c3,.agg (cnd14 c.kind so sn sc c.left c.right).toArray] wx fun e w' =>e= .returned (.bool (holdR ts wh known me f c))∧Below wx.heap.size wx w'
 |0,c,so,sn,sc,wx,hb,hS,hG=>absurd hG (by unfold HoldGood;exact id)
 |f+1,c,so,sn,sc,wx,hb,hS,hG=>by
  unfold HoldGood at hG
  rcases hG with h|⟨h,h1,hs⟩|⟨h,hs⟩|⟨h4,h7,hl,hr,hc⟩
  ·exact conHold_zero (V.below hb) c h
  ·exact conHold_loop (V.below hb) c hS (fun j hj so2 sn2 sc2 wy hby hS2=>conHold_any V hle f c.subs[j] so2 sn2 sc2 wy (hb.trans (hby.mono hb.size)) hS2 (hs _ (List.getElem_mem hj))) 3 h (.inr (.inr ⟨rfl,h1⟩))
  ·exact conHold_loop (V.below hb) c hS (fun j hj so2 sn2 sc2 wy hby hS2=>conHold_any V hle f c.subs[j] so2 sn2 sc2 wy (hb.trans (hby.mono hb.size)) hS2 (hs _ (List.getElem_mem hj))) c.kind rfl (h.elim .inl (fun h=> .inr (.inl h)))
  ·exact conHold_test (V.below hb) hle c ⟨h4,h7⟩ hl hr hc
end
end Go.Proofs.YtfahleafppfkaaaGreatDoor
