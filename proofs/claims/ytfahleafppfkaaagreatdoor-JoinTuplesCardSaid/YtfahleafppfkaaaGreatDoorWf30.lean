/-
  The walk of the reference's sift: is an event taken by a pattern? Printed by sfm.py.
-/
import Derived.Test.YtfahleafppfkaaaGreatDoorWf29
import Derived.Test.YtfahleafppfkaaaGreatDoorWf02
import Derived.Test.YtfahleafppfkaaaGreatDoorWf07
import Derived.Test.YtfahleafppfkaaaGreatDoorWf08
import Derived.WalkLawsBesides
import Derived.Deep.Light
import Derived.Deep.QuietTactic
import Derived.BigQuiet
import Derived.Test.YtfahleafppfkaaaGreatDoorWf28
import Derived.Test.YtfahleafppfkaaaGreatDoorWf23
import Derived.Test.YtfahleafppfkaaaGreatDoorWf06
namespace Go.Proofs.YtfahleafppfkaaaGreatDoor
open Go.RowKit
set_option linter.unusedVariables false
set_option linter.unusedSimpArgs false
section
variable {S:Nat→Prop} {w0:World} {v:RA} {ts:List Typ} {wh:List Pat} {known:List Eve} {me:Eve} {x:Rul} {b2 b3 b4 b6:Option Addr} {m2 e2 m3 e3 m4 e4 m6 e6:Nat} {so:Option Addr} {sn sc:Nat}
def takenB(ts:List Typ)(wh:List Pat)(known:List Eve)(me:Eve)(P:Pat):Bool:=sameS (evT ts me).name P.type&&holdR ts wh known me 8 P.wher
set_option maxRecDepth 8000 in
set_option maxHeartbeats 4000000 in
theorem taken_any(V:Rv w0 v ts wh known me)(hle:known.length≤wh.length)(P:Pat)(h0:0≤me.e.type)(h1:me.e.type<ts.length)(hS:SlF S w0 14 CondF so sn sc P.wher.subs)(hG:sameS (evT ts me).name P.type=true→HoldGood ts wh known me 8 P.wher):
  Calls Tryz.prog 53 #[.slice v.a1 v.n1 v.c1,.agg (rulC x (.slice v.b1 v.m1 v.e1) (.slice b2 m2 e2) (.slice b3 m3 e3) (.slice b4 m4 e4) (.slice b6 m6 e6)).toArray,.agg (patC P so sn sc).toArray,.agg #[.int .i64 me.e.number,.int .i64 me.e.type,.int .i64 me.e.start,.int .i64 me.e.stop,.slice v.p v.q v.r],.slice v.a3 v.n3 v.c3] w0 fun e w' =>e= .returned (.bool (takenB ts wh known me P))∧Below w0.heap.size w0 w' :=by
 obtain⟨g,hg⟩:=V.pos
 have M:=Mem.begin hg ⟨0,0⟩
 have htl:me.e.type.toNat<ts.length:=by omega
 have hte:evT ts me=ts[me.e.type.toNat]:=by unfold evT;simp[List.getD,List.getElem?_eq_getElem htl]
 obtain⟨ct,ot,rowt,hixt, -,hrrt,hwt⟩:=SlF.rowAt (P:=Tryz.prog) V.types typF_firm Tryz.underlying22 size_typ (i:=me.e.type.toNat) htl
 rw[show((me.e.type.toNat:Nat):Int)=me.e.type from Int.toNat_of_nonneg h0]at hixt
 obtain⟨p1,q1,s1,et,ut⟩:=hrrt
 subst et
 have HTN:Hid (∀ wx,Below w0.heap.size w0 wx→wx.cell? ⟨ct,ot,none⟩=some (.string (evT ts me).name)):=fun wx hb=>by have h:=(hwt wx hb).1 0 _ rfl;rw[hte];exact h
 have HH:Hid (sameS (evT ts me).name P.type=true→ ∀ wx,Below w0.heap.size w0 wx→Calls Tryz.prog 90 #[.slice v.a1 v.n1 v.c1,.agg (rulC x (.slice v.b1 v.m1 v.e1) (.slice b2 m2 e2) (.slice b3 m3 e3) (.slice b4 m4 e4) (.slice b6 m6 e6)).toArray,.agg #[.int .i64 me.e.number,.int .i64 me.e.type,.int .i64 me.e.start,.int .i64 me.e.stop,.slice v.p v.q v.r],.slice v.a3 v.n3 v.c3,.agg (cnd14 P.wher.kind so sn sc P.wher.left P.wher.right).toArray] wx fun e w' =>e= .returned (.bool (holdR ts wh known me 8 P.wher))∧Below wx.heap.size wx w'):=fun h wx hb=>conHold_any V hle 8 P.wher so sn sc wx hb (hS.below condF_firm hb) (hG h)
 clear hwt ut hte htl h0 h1 hS hG
 cases hsm:sameS (evT ts me).name P.type with
 |false=>
  have HV:Hid (takenB ts wh known me P=false):=by show _=_;unfold takenB;rw[hsm];rfl
  have hsb:((evT ts me).name.toList==P.type.toList)=false:=hsm
  generalize (evT ts me).name=nm at HTN hsb
  unfold patC cndC opdC rulC
  simp only[List.cons_append,List.nil_append]
  clear HH hsm V hg hle
  go_enter Tryz.func53,Tryz.ntmps53
  go_wp2_with (with_reducible (first|(refine wB (L:=[]) M ?_;clear M;intro za w1 M)|(refine wB (L:=[_]) M ?_;clear M;intro zb w1 M)|(refine wB (L:=[_,_]) M ?_;clear M;intro zc w1 M)))
  ((refine wp_region_still_lit (by kernel_rfl) (by kernel_rfl) ?_);(change wpStill _ _ (World.drew _) _ _ _);replace M:=M.drew;(repeat(first|((with_reducible refine s_list rfl fun K hK=>?_);refine s_load ?_;(first|(refine q_cellat (HTN.out _ M.new) ?_)|refine q_get M (by exact rfl) ?_);refine⟨rfl,hK _ ?_⟩;clear hK K)|(with_reducible refine s_skipT ?_)|((with_reducible refine s_list rfl fun K hK=>?_);refine s_pure ?_;go_simp;with_reducible refine hK _ ?_;clear hK K)));(with_reducible refine wpStill_nil ?_))
  go_wp2_with (with_reducible (first|refine wq M ?_|(refine wS M ?_;clear M;intro w M)|(refine wV M ?_;clear M;intro z w M)|(refine wR M ?_;clear M;intro q w M)))
  go_ret
  rw[HV.out]
  exact⟨rfl,M.new⟩
 |true=>
  have HV:Hid (takenB ts wh known me P=holdR ts wh known me 8 P.wher):=by show _=_;unfold takenB;rw[hsm];rfl
  have HH2:=Lib.hid (HH.out hsm)
  have hsb:((evT ts me).name.toList==P.type.toList)=true:=hsm
  generalize (evT ts me).name=nm at HTN hsb
  generalize holdR ts wh known me 8 P.wher=hh at HH2 HV
  unfold cnd14 rulC at HH2
  unfold patC cndC opdC rulC
  simp only[List.cons_append,List.nil_append]
  clear HH hsm V hg hle
  go_enter Tryz.func53,Tryz.ntmps53
  go_wp2_with (with_reducible (first|(refine wB (L:=[]) M ?_;clear M;intro za w1 M)|(refine wB (L:=[_]) M ?_;clear M;intro zb w1 M)|(refine wB (L:=[_,_]) M ?_;clear M;intro zc w1 M)))
  ((refine wp_region_still_tail 16 (by kernel_rfl) (by kernel_rfl) ?_);(simp only[List.take_succ_cons,List.take_zero,List.drop_succ_cons,List.drop_zero]);(change wpStill _ _ (World.drew _) (fun a' =>wpList _ _ _ _ a' (World.drew _)) _ _);replace M:=M.drew;generalize World.drew _=wd at M ⊢;(repeat(first|((with_reducible refine s_list rfl fun K hK=>?_);refine s_load ?_;(first|(refine q_cellat (HTN.out _ M.new) ?_)|refine q_get M (by exact rfl) ?_);refine⟨rfl,hK _ ?_⟩;clear hK K)|((with_reducible refine s_listg fun K hK=>?_);refine s_load ?_;(first|refine q_all M (by rfl) ?_|refine q_prt M (by rfl) ?_);refine⟨rfl,hK _ ?_⟩;clear hK K)|((first|(with_reducible refine s_list rfl fun K hK=>?_)|(with_reducible refine s_listg fun K hK=>?_));refine s_pure ?_;go_simp;refine hK _ ?_;clear hK K)));(refine wpStill_nil ?_))
  go_wp2_with (go_at_call 90;with_reducible refine(HH2.out _ M.new).mono ?_;rintro e w5 ⟨rfl,hb5⟩;replace M:=M.below hb5;clear hb5)
  go_ret
  rw[HV.out]
  exact⟨by simp,M.new⟩
end
end Go.Proofs.YtfahleafppfkaaaGreatDoor
/-
  The walks of tick.Fits and of the reference's Fitting, at options and spans that were checked.
-/
namespace Go.Proofs.YtfahleafppfkaaaGreatDoor
open Go.RowKit
set_option linter.unusedVariables false
set_option linter.unusedSimpArgs false
def bothE(a b c d:Int):Int:=if spanE a b=0 then spanE c d else spanE a b
def relB(r a b c d:Int):Bool:=
 if r=1 then decide (b<c)else if r=2 then decide (d<a)
 else if r=3 then decide (b=c∧a<c∧b<d)else if r=4 then decide (d=a∧c<a∧d<b)
 else if r=5 then decide (a<c∧c<b∧b<d)else if r=6 then decide (c<a∧a<d∧d<b)
 else if r=7 then decide (a=c∧b<d)else if r=8 then decide (c=a∧d<b)
 else if r=9 then decide (c<a∧b<d)else if r=10 then decide (a<c∧d<b)
 else if r=11 then decide (c<a∧b=d)else if r=12 then decide (a<c∧d=b)
 else decide (a=c∧b=d)
def distI(r a b c d:Int):Int:=
 if r=1 then c - b else if r=2 then a - d else if r=5 then b - c else if r=6 then d - a else if r=7 then d - b else if r=8 then b - d
 else if r=9 then a - c else if r=10 then c - a else if r=11 then a - c else if r=12 then c - a else 0
def inOpt(l h x:Int):Bool:=decide (l≤x∧(h<0∨x≤h))
def fitB(r l h a b c d:Int):Bool:=relB r a b c d&&inOpt l h (distI r a b c d)
theorem optE_zero{r l h:Int}(k:optE r l h=0):(1≤r∧r≤13)∧0≤l∧ -1≤h:=by
 unfold optE at k;(repeat' split at k)<;>omega
theorem spanE_zero{a b:Int}(h:spanE a b=0):(0≤a∧a≤1099511627776)∧(0≤b∧b≤1099511627776)∧a≤b:=by
 unfold spanE at h;(repeat' split at h)<;>omega
theorem bothE_zero{a b c d:Int}(h:bothE a b c d=0):spanE a b=0∧spanE c d=0:=by
 unfold bothE at h;(repeat' split at h)<;>simp_all
theorem bothE_of{a b c d:Int}(h:spanE a b=0)(h' :spanE c d=0):bothE a b c d=0:=by unfold bothE;rw[if_pos h];exact h'
theorem thirteen{r:Int}(h:1≤r∧r≤13):r=1∨r=2∨r=3∨r=4∨r=5∨r=6∨r=7∨r=8∨r=9∨r=10∨r=11∨r=12∨r=13:=by omega
theorem sg_lt(x y:Int):sg x y<0↔x<y:=by unfold sg;repeat' split<;>omega
theorem sg_gt(x y:Int):0<sg x y↔y<x:=by unfold sg;repeat' split<;>omega
theorem sg_le(x y:Int):sg x y≤0↔x≤y:=by unfold sg;repeat' split<;>omega
theorem sg_ge(x y:Int):0≤sg x y↔y≤x:=by unfold sg;repeat' split<;>omega
theorem sg_eq(x y:Int):sg x y=0↔x=y:=by unfold sg;repeat' split<;>omega
set_option maxHeartbeats 400000 in
theorem lies_any(a b c d:Int)(w:World):
  Calls Tryz.prog 172 #[.agg #[.int .i64 a,.int .i64 b],.agg #[.int .i64 c,.int .i64 d]] w fun e w' =>e= .returned (.tuple #[.int .i64 (sg a c),.int .i64 (sg b d),.int .i64 (sg b c),.int .i64 (sg a d)])∧Below w.heap.size w w' :=by
 go_enter Tryz.func172,Tryz.ntmps172
 go_wp2_with fail
 go_quiet ((go_at_call 160;exact Calls.quiet_of_same (sign_any _ _ _)))
 go_wp2
 refine bodyPost_ret (v:= .tuple #[.int .i64 (sg a c),.int .i64 (sg b d),.int .i64 (sg b c),.int .i64 (sg a d)]) (by simp[results,Tryz.results172,go_sem]) rfl ⟨rfl,?_⟩
 exact(Joins.below_alloc2 _ _ _).trans (Joins.below_draws _ _ _)
set_option maxHeartbeats 4000000 in
theorem holds13_any(r a b c d:Int)(w:World)(h:1≤r∧r≤13):
  Calls Tryz.prog 122 #[.int .i64 r,.agg #[.int .i64 a,.int .i64 b],.agg #[.int .i64 c,.int .i64 d]] w fun e w' =>e= .returned (.bool (relB r a b c d))∧Below w.heap.size w w' :=by
 rcases thirteen h with rfl|rfl|rfl|rfl|rfl|rfl|rfl|rfl|rfl|rfl|rfl|rfl|rfl
 all_goals
  clear h
  go_enter Tryz.func122,Tryz.ntmps122
  go_wp2
  all_goals(go_ret;refine⟨?_,(by repeat(first|exact Below.refl _ _|(refine Below.alloc ?_ (by first|omega|(simp;done)|(simp;omega)) _)))⟩;exact ret_bool (by go_light;unfold relB;first|(simp;done)|(rw[Bool.eq_iff_iff];simp[];done)|(rw[Bool.eq_iff_iff];simp[];omega)))
set_option maxHeartbeats 8000000 in
theorem related_any(r a b c d:Int)(w:World)(h:1≤r∧r≤13):
  Calls Tryz.prog 158 #[.int .i64 r,.agg #[.int .i64 a,.int .i64 b],.agg #[.int .i64 c,.int .i64 d]] w fun e w' =>e= .returned (.bool (relB r a b c d))∧Below w.heap.size w w' :=by
 rcases thirteen h with rfl|rfl|rfl|rfl|rfl|rfl|rfl|rfl|rfl|rfl|rfl|rfl|rfl
 all_goals
  clear h
  go_enter Tryz.func158,Tryz.ntmps158
  go_wp2_with (go_at_call 172;refine(lies_any _ _ _ _ _).mono ?_;rintro e w' ⟨rfl,hb⟩)
  all_goals(go_ret;refine⟨?_,(Joins.below_alloc2 _ _ _).trans (hb.mono (by simp;try omega))⟩;exact ret_bool (by go_light;unfold relB;first|(simp;done)|(rw[Bool.eq_iff_iff];simp[sg_lt,sg_gt,sg_eq,sg_le,sg_ge];done)|(rw[Bool.eq_iff_iff];simp[sg_lt,sg_gt,sg_eq,sg_le,sg_ge];omega)|((try simp only[sg_lt,sg_gt,sg_eq,sg_le,sg_ge]at *);rw[Bool.eq_iff_iff];simp[sg_lt,sg_gt,sg_eq,sg_le,sg_ge];omega)))
set_option maxHeartbeats 4000000 in
theorem distance_any(r a b c d:Int)(w:World)(h:1≤r∧r≤13)(va:0≤a∧a≤1099511627776)(vb:0≤b∧b≤1099511627776)(vc:0≤c∧c≤1099511627776)(vd:0≤d∧d≤1099511627776)(hr:relB r a b c d=true):
  Calls Tryz.prog 123 #[.int .i64 r,.agg #[.int .i64 a,.int .i64 b],.agg #[.int .i64 c,.int .i64 d]] w fun e w' =>e= .returned (.int .i64 (distI r a b c d))∧Below w.heap.size w w' :=by
 obtain⟨a0,a1⟩:=va
 obtain⟨b0,b1⟩:=vb
 obtain⟨c0,c1⟩:=vc
 obtain⟨d0,d1⟩:=vd
 have hle:Hid (relB r a b c d=true):=hr
 clear hr
 rcases thirteen h with rfl|rfl|rfl|rfl|rfl|rfl|rfl|rfl|rfl|rfl|rfl|rfl|rfl
 all_goals
  clear h
  go_enter Tryz.func123,Tryz.ntmps123
  go_wp2
  all_goals(go_ret;refine⟨?_,(by repeat(first|exact Below.refl _ _|(refine Below.alloc ?_ (by first|omega|(simp;done)|(simp;omega)) _)))⟩;have h1:=hle.out;clear hle;exact ret_int (by go_light;simp[relB]at h1;simp[distI];try omega))
set_option maxHeartbeats 4000000 in
theorem gap_any(r a b c d:Int)(w:World)(h:1≤r∧r≤13)(va:0≤a∧a≤1099511627776)(vb:0≤b∧b≤1099511627776)(vc:0≤c∧c≤1099511627776)(vd:0≤d∧d≤1099511627776)(hr:relB r a b c d=true):
  Calls Tryz.prog 159 #[.int .i64 r,.agg #[.int .i64 a,.int .i64 b],.agg #[.int .i64 c,.int .i64 d]] w fun e w' =>e= .returned (.int .i64 (distI r a b c d))∧Below w.heap.size w w' :=by
 obtain⟨a0,a1⟩:=va
 obtain⟨b0,b1⟩:=vb
 obtain⟨c0,c1⟩:=vc
 obtain⟨d0,d1⟩:=vd
 have hle:Hid (relB r a b c d=true):=hr
 clear hr
 rcases thirteen h with rfl|rfl|rfl|rfl|rfl|rfl|rfl|rfl|rfl|rfl|rfl|rfl|rfl
 all_goals
  clear h
  go_enter Tryz.func159,Tryz.ntmps159
  go_wp2
  all_goals(go_ret;refine⟨?_,(by repeat(first|exact Below.refl _ _|(refine Below.alloc ?_ (by first|omega|(simp;done)) _)))⟩;have h1:=hle.out;clear hle;exact ret_int (by go_light;simp[relB]at h1;simp[distI];try omega))
set_option maxHeartbeats 400000 in
theorem both_any(a b c d:Int)(w:World):
  Calls Tryz.prog 121 #[.agg #[.int .i64 a,.int .i64 b],.agg #[.int .i64 c,.int .i64 d]] w fun e w' =>e= .returned (.int .i64 (bothE a b c d))∧Below w.heap.size w w' :=by
 go_enter Tryz.func121,Tryz.ntmps121
 go_wp2_with fail
 refine(span_any _ _ _).mono ?_
 rintro e w1 ⟨rfl,hb⟩
 obtain⟨hc,hf⟩:=bcell hb
 go_wp2_with (go_at_call 41;refine(span_any _ _ _).mono ?_;rintro e w2 ⟨rfl,hb2⟩)
 all_goals(go_ret;refine⟨ret_int ?_,(by repeat(first|exact Below.refl _ _|refine below_step ?_ (by assumption)|(refine Below.alloc ?_ (by first|omega|(simp;done)) _)))⟩;go_light;simp[bothE]at *;intros;simp_all)
set_option maxHeartbeats 400000 in
theorem fits_any(r l h a b c d:Int)(w:World)(ho:optE r l h=0)(hz:bothE a b c d=0):
  Calls Tryz.prog 80 #[.agg #[.int .i64 r,.int .i64 l,.int .i64 h],.agg #[.int .i64 a,.int .i64 b],.agg #[.int .i64 c,.int .i64 d]] w fun e w' =>e= .returned (.tuple #[.bool (fitB r l h a b c d),.int .i64 0])∧Below w.heap.size w w' :=by
 have ho1:(optE r l h !=0)=false:=by simp[ho]
 have O:Hid (optE r l h=0):=ho;clear ho
 have hr' :Hid (1≤r∧r≤13):=(optE_zero O.out).1
 have hz1:(bothE a b c d !=0)=false:=by simp[hz]
 have H:Hid (bothE a b c d=0):=hz;clear hz
 cases hq:relB r a b c d with
 |true=>
  have hq' :Hid (relB r a b c d=true):=hq
  go_enter Tryz.func80,Tryz.ntmps80
  go_wp2_with fail
  refine(optCheck_any _ _ _ _).mono ?_
  rintro e w0 ⟨rfl,hb0⟩
  obtain⟨hc_w0,hf_w0⟩:=bcell hb0;have hs_w0:=hb0.size;(try simp only[World.size_alloc,World.size_drew,World.size_setCell]at hs_w0);have z0_w0:w.heap.size<w0.heap.size:=(by omega);have z1_w0:w.heap.size+1<w0.heap.size:=(by omega);have z2_w0:w.heap.size+1+1<w0.heap.size:=(by omega)
  go_wp2_with fail
  refine(both_any _ _ _ _ _).mono ?_
  rintro e w1 ⟨rfl,hb⟩
  obtain⟨hc_w1,hf_w1⟩:=bcell hb;have hs_w1:=hb.size;have z0_w1:w.heap.size<w1.heap.size:=(by omega);have z1_w1:w.heap.size+1<w1.heap.size:=(by omega);have z2_w1:w.heap.size+1+1<w1.heap.size:=(by omega)
  go_wp2_with fail
  refine(holds13_any _ _ _ _ _ _ hr'.out).mono ?_
  rintro e w2 ⟨rfl,hb2⟩
  obtain⟨hc_w2,hf_w2⟩:=bcell hb2;have hs_w2:=hb2.size;have z0_w2:w.heap.size<w2.heap.size:=(by omega);have z1_w2:w.heap.size+1<w2.heap.size:=(by omega);have z2_w2:w.heap.size+1+1<w2.heap.size:=(by omega)
  go_wp2_with fail
  refine(distance_any _ _ _ _ _ _ hr'.out (spanE_zero (bothE_zero H.out).1).1 (spanE_zero (bothE_zero H.out).1).2.1 (spanE_zero (bothE_zero H.out).2).1 (spanE_zero (bothE_zero H.out).2).2.1 hq'.out).mono ?_
  rintro e w3 ⟨rfl,hb3⟩
  obtain⟨hc_w3,hf_w3⟩:=bcell hb3;have hs_w3:=hb3.size;have z0_w3:w.heap.size<w3.heap.size:=(by omega);have z1_w3:w.heap.size+1<w3.heap.size:=(by omega);have z2_w3:w.heap.size+1+1<w3.heap.size:=(by omega)
  go_wp2
  all_goals(go_ret2;refine⟨ret_bi ?_ rfl,(by repeat(first|exact Below.refl _ _|refine below_step ?_ (by assumption)|(refine Below.alloc ?_ (by first|omega|(simp;done)|(simp;omega)) _)))⟩;go_light;rw[Bool.eq_iff_iff];simp[fitB,hq'.out,inOpt];try omega)
 |false=>
  have hq' :Hid (relB r a b c d=false):=hq
  go_enter Tryz.func80,Tryz.ntmps80
  go_wp2_with fail
  refine(optCheck_any _ _ _ _).mono ?_
  rintro e w0 ⟨rfl,hb0⟩
  obtain⟨hc_w0,hf_w0⟩:=bcell hb0;have hs_w0:=hb0.size;(try simp only[World.size_alloc,World.size_drew,World.size_setCell]at hs_w0);have z0_w0:w.heap.size<w0.heap.size:=(by omega);have z1_w0:w.heap.size+1<w0.heap.size:=(by omega);have z2_w0:w.heap.size+1+1<w0.heap.size:=(by omega)
  go_wp2_with fail
  refine(both_any _ _ _ _ _).mono ?_
  rintro e w1 ⟨rfl,hb⟩
  obtain⟨hc_w1,hf_w1⟩:=bcell hb;have hs_w1:=hb.size;have z0_w1:w.heap.size<w1.heap.size:=(by omega);have z1_w1:w.heap.size+1<w1.heap.size:=(by omega);have z2_w1:w.heap.size+1+1<w1.heap.size:=(by omega)
  go_wp2_with fail
  refine(holds13_any _ _ _ _ _ _ hr'.out).mono ?_
  rintro e w2 ⟨rfl,hb2⟩
  go_wp2
  go_ret2
  exact⟨by simp[fitB,hq'.out],(by repeat(first|exact Below.refl _ _|refine below_step ?_ (by assumption)|(refine Below.alloc ?_ (by first|omega|(simp;done)|(simp;omega)) _)))⟩
set_option maxHeartbeats 400000 in
theorem fitting_any(r l h a b c d:Int)(w:World)(ho:optE r l h=0)(hz:bothE a b c d=0):
  Calls Tryz.prog 124 #[.agg #[.int .i64 r,.int .i64 l,.int .i64 h],.agg #[.int .i64 a,.int .i64 b],.agg #[.int .i64 c,.int .i64 d]] w fun e w' =>e= .returned (.bool (fitB r l h a b c d))∧Below w.heap.size w w' :=by
 have O:Hid (optE r l h=0):=ho;clear ho
 have hr' :Hid (1≤r∧r≤13):=(optE_zero O.out).1
 have H:Hid (bothE a b c d=0):=hz;clear hz
 cases hq:relB r a b c d with
 |true=>
  have hq' :Hid (relB r a b c d=true):=hq
  go_enter Tryz.func124,Tryz.ntmps124
  go_wp2_with fail
  refine(related_any _ _ _ _ _ _ hr'.out).mono ?_
  rintro e w2 ⟨rfl,hb2⟩
  obtain⟨hc_w2,hf_w2⟩:=bcell hb2;have hs_w2:=hb2.size;(try simp only[World.size_alloc,World.size_drew,World.size_setCell]at hs_w2);have z0_w2:w.heap.size<w2.heap.size:=(by omega);have z1_w2:w.heap.size+1<w2.heap.size:=(by omega);have z2_w2:w.heap.size+1+1<w2.heap.size:=(by omega)
  go_wp2_with fail
  refine(gap_any _ _ _ _ _ _ hr'.out (spanE_zero (bothE_zero H.out).1).1 (spanE_zero (bothE_zero H.out).1).2.1 (spanE_zero (bothE_zero H.out).2).1 (spanE_zero (bothE_zero H.out).2).2.1 hq'.out).mono ?_
  rintro e w3 ⟨rfl,hb3⟩
  obtain⟨hc_w3,hf_w3⟩:=bcell hb3;have hs_w3:=hb3.size;have z0_w3:w.heap.size<w3.heap.size:=(by omega);have z1_w3:w.heap.size+1<w3.heap.size:=(by omega);have z2_w3:w.heap.size+1+1<w3.heap.size:=(by omega)
  go_wp2
  all_goals(go_ret;have hl:=optE_zero O.out;refine⟨ret_bool ?_,(by repeat(first|exact Below.refl _ _|refine below_step ?_ (by assumption)|(refine Below.alloc ?_ (by first|omega|(simp;done)|(simp;omega)) _)))⟩;go_light;rw[Bool.eq_iff_iff];simp[fitB,hq'.out,inOpt];try omega)
 |false=>
  have hq' :Hid (relB r a b c d=false):=hq
  go_enter Tryz.func124,Tryz.ntmps124
  go_wp2_with fail
  refine(related_any _ _ _ _ _ _ hr'.out).mono ?_
  rintro e w2 ⟨rfl,hb2⟩
  go_wp2
  go_ret
  exact⟨by simp[fitB,hq'.out],(by repeat(first|exact Below.refl _ _|refine below_step ?_ (by assumption)|(refine Below.alloc ?_ (by first|omega|(simp;done)|(simp;omega)) _)))⟩
end Go.Proofs.YtfahleafppfkaaaGreatDoor
/-
  Whether a tuple is fired, in plain Lean.
-/
namespace Go.Proofs.YtfahleafppfkaaaGreatDoor
open Go.RowKit
set_option linter.unusedVariables false
set_option linter.unusedSimpArgs false
def spanX(x:Eve):Int×Int:=(x.e.start,x.e.stop)
def lnkB(k:Lnk)(s t:Int×Int):Bool:=k.opts.any (fun o=>fitB o.rel o.lo o.hi s.1 s.2 t.1 t.2)
def spanN(wh:List Pat)(tuple:List Eve)(nm:ByteArray)(x:Eve)(s:ByteArray):Int×Int:=
 if sameS s nm=true then spanX x else if patI wh s<wh.length then spanX (tuple.getD (patI wh s) default)else(0,0)
def linkG(wh:List Pat)(tuple:List Eve)(nm:ByteArray)(x:Eve)(k:Lnk):Bool:=
 (!sameS k.left nm&&!sameS k.right nm)||lnkB k (spanN wh tuple nm x k.left) (spanN wh tuple nm x k.right)
def linkedG(R:Rul)(tuple:List Eve)(nm:ByteArray)(x:Eve):Bool:=R.links.all (linkG R.whens tuple nm x)
def inT(tuple:List Eve)(x:Eve):Bool:=tuple.any (fun y=>y.e.number==x.e.number)
def blockB(ts:List Typ)(R:Rul)(tuple:List Eve)(p:Pat)(x:Eve):Bool:=!inT tuple x&&(takenB ts R.whens tuple x p&&linkedG R tuple p.var x)
def blockedB(ts:List Typ)(R:Rul)(tuple all:List Eve):Bool:=R.nots.any (fun p=>all.any (blockB ts R tuple p))
def lastE(l:List Eve):Int:=l.foldl (fun n x=>if n<x.e.stop then x.e.stop else n) 0
def nearB(last n:Int)(x:Eve):Bool:=!(decide (last<x.e.stop)||decide (n<last - x.e.stop))
def manyS(ts:List Typ)(R:Rul)(tuple:List Eve)(m:Many)(n:Int)(x:Eve):Int:=
 if nearB (lastE tuple) m.pat.n x=true∧takenB ts R.whens tuple x m.pat=true then IntKind.i64.wrap (n+if emS m.field=true then 1 else(fldV ts x m.field).int)else n
def manyN(ts:List Typ)(R:Rul)(tuple all:List Eve)(m:Many):Int:=all.foldl (manyS ts R tuple m) 0
def enoughB(ts:List Typ)(R:Rul)(tuple all:List Eve):Bool:=R.manies.all (fun m=>!decide (manyN ts R tuple all m<m.count))
def firesR(ts:List Typ)(R:Rul)(tuple all:List Eve):Bool×Int:=
 if firstN (evE ts tuple) tuple.length≠0 then(false,firstN (evE ts tuple) tuple.length)
 else if tuple.length≠R.whens.length then(false,4)
 else if firstN (misE ts R.whens tuple) tuple.length≠0 then(false,13)
 else(!blockedB ts R tuple all&&enoughB ts R tuple all,0)
def firesE(b:Bok)(rule:Int)(tuple all:List Eve):Bool×Int:=
 if eventsE b all≠0 then(false,eventsE b all)
 else if ¬ (0≤rule∧rule<b.rules.length)then(false,2)
 else firesR b.types (b.rules.getD rule.toNat rul00) tuple all
theorem lastE_snoc{l:List Eve}{j:Nat}(h:j<l.length):lastE (l.take (j+1))=if lastE (l.take j)<l[j].e.stop then l[j].e.stop else lastE (l.take j):=by
 unfold lastE
 rw[List.take_add_one,List.getElem?_eq_getElem h,List.foldl_append]
 rfl
theorem manyN_snoc{ts:List Typ}{R:Rul}{tuple l:List Eve}{m:Many}{j:Nat}(h:j<l.length):(l.take (j+1)).foldl (manyS ts R tuple m) 0=manyS ts R tuple m ((l.take j).foldl (manyS ts R tuple m) 0) l[j]:=by
 rw[List.take_add_one,List.getElem?_eq_getElem h,List.foldl_append]
 rfl
structure Tup (b:Bok) (R:Rul) (tuple:List Eve):Prop where
 good: ∀ i (h:i<tuple.length),EvGood b.types tuple[i]
 span: ∀ i (h:i<tuple.length),spanE tuple[i].e.start tuple[i].e.stop=0
 len:tuple.length=R.whens.length
 mis:AllZ (misE b.types R.whens tuple) tuple.length
theorem span_of{ts:List Typ}{x:Eve}(h:eventE ts x.e x.vals=0):spanE x.e.start x.e.stop=0:=by
 unfold eventE at h
 by_cases h1:1≤x.e.number∧x.e.number≤1048576
 ·rw[if_pos h1]at h
  by_cases h2:0≤x.e.type∧x.e.type<ts.length
  ·rw[if_pos h2]at h
   by_cases h3:spanE x.e.start x.e.stop=0
   ·exact h3
   ·rw[if_neg h3]at h;exact absurd h h3
  ·rw[if_neg h2]at h;exact absurd h (by decide)
 ·rw[if_neg h1]at h;exact absurd h (by decide)
section
variable {b:Bok} {r:Nat} {tuple:List Eve} {part:Int} {k:Nat} {x:Eve}
theorem takes_tup(h0:bookE b=0)(hr:r<b.rules.length)(hp:part=1∨part=2)(hk:k<(partL b.rules[r] part).length)(T:Tup b b.rules[r] tuple)(hx:eventE b.types x.e x.vals=0)(ht: ∀ i (h:i<tuple.length),eventE b.types tuple[i].e tuple[i].vals=0):
  takesE b r part k x tuple=(takenB b.types b.rules[r].whens tuple x ((partL b.rules[r] part).getD k pat0),0):=by
 rw[takes_e3 h0 (by omega) (by simpa using hr)]
 have hz:AllZ (evE b.types (x::tuple)) (tuple.length+1):=fun i hi=>by
  rw[evE_at (by simpa using hi)]
  match i with
  |0=>exact hx
  |i+1=>exact ht i (by omega)
 have hf:(tuple.length:Int)=(if part=0 then(k:Int)else(b.rules[r].whens.length:Int)):=by rw[if_neg (by omega),T.len]
 have:=takesR_end (ts:=b.types) (R:=b.rules[r]) (part:=part) (k:=(k:Int)) (x:=x) (known:=tuple) ⟨by omega,by omega⟩ hz hf T.mis
 exact this
theorem hold_tup(h0:bookE b=0)(hr:r<b.rules.length)(hp:part=1∨part=2)(hk:k<(partL b.rules[r] part).length)(T:Tup b b.rules[r] tuple)(hx:EvGood b.types x)
  (hn:sameS (evT b.types x).name ((partL b.rules[r] part).getD k pat0).type=true):HoldGood b.types b.rules[r].whens tuple x 8 ((partL b.rules[r] part).getD k pat0).wher:=
 takes_good h0 hr (by omega) hk hx T.good (by rw[if_neg (by omega),T.len]) T.mis hn
end
section
variable {ts:List Typ} {R:Rul}
theorem rule_parts(h:ruleE ts R=0):AllZ (notE ts R) R.nots.length∧AllZ (manyE ts R) R.manies.length∧AllZ (fun i=>linkE R (R.links.getD i lnk0)) R.links.length:=by
 unfold ruleE at h
 by_cases h1:freeE R.name≠0
 ·rw[if_pos h1]at h;exact absurd h h1
 rw[if_neg h1]at h
 by_cases h2:sizeB R=true
 ·rw[if_pos h2]at h;exact absurd h (by decide)
 rw[if_neg h2]at h
 by_cases h3:firstN (whenE ts R) R.whens.length≠0
 ·rw[if_pos h3]at h;exact absurd h h3
 rw[if_neg h3]at h
 by_cases h4:firstN (notE ts R) R.nots.length≠0
 ·rw[if_pos h4]at h;exact absurd h h4
 rw[if_neg h4]at h
 by_cases h5:firstN (manyE ts R) R.manies.length≠0
 ·rw[if_pos h5]at h;exact absurd h h5
 rw[if_neg h5]at h
 by_cases h6:firstN (fun i=>linkE R (R.links.getD i lnk0)) R.links.length≠0
 ·rw[if_pos h6]at h;exact absurd h h6
 exact⟨firstN_all (Classical.not_not.1 h4),firstN_all (Classical.not_not.1 h5),firstN_all (Classical.not_not.1 h6)⟩
theorem inS_iff{l:List ByteArray}{s:ByteArray}:inS l s=true↔ ∃ y∈l,sameS y s=true:=by unfold inS;exact List.any_eq_true
theorem not_name(h:ruleE ts R=0){i:Nat}(hi:i<R.nots.length):hasP R.whens R.nots[i].var=false:=by
 have hz:=(rule_parts h).1 i hi
 unfold notE patE at hz
 rw[show R.nots.getD i pat0=R.nots[i]by simp[List.getD,List.getElem?_eq_getElem hi]]at hz
 by_cases h1:freeE R.nots[i].var≠0
 ·rw[if_pos h1]at hz;exact absurd hz h1
 rw[if_neg h1]at hz
 by_cases h2:inS (vars R.whens++vars (R.nots.take i)) R.nots[i].var=true
 ·rw[if_pos h2]at hz;exact absurd hz (by decide)
 cases hh:hasP R.whens R.nots[i].var with
 |false=>rfl
 |true=>
  exfalso
  apply h2
  have hlt:patI R.whens R.nots[i].var<R.whens.length:=by simpa[hasP]using hh
  rw[inS_iff]
  refine⟨R.whens[patI R.whens R.nots[i].var].var,List.mem_append_left _ (List.mem_map_of_mem (List.getElem_mem hlt)),?_⟩
  have:=List.findIdx_getElem (p:=fun p:Pat=>sameS p.var R.nots[i].var) (xs:=R.whens) (w:=hlt)
  exact this
theorem many_win(h:ruleE ts R=0){i:Nat}(hi:i<R.manies.length):0≤R.manies[i].pat.n∧R.manies[i].pat.n≤1073741824∧typI ts R.manies[i].pat.type<ts.length∧sumE (typAt ts R.manies[i].pat.type) R.manies[i].field=0:=by
 have hz:=(rule_parts h).2.1 i hi
 unfold manyE at hz
 rw[show R.manies.getD i man0=R.manies[i]by simp[List.getD,List.getElem?_eq_getElem hi]]at hz
 split at hz
 ·exact absurd hz (by decide)
 by_cases h6:patE ts R.whens (vars R.whens++vars R.nots++vars ((R.manies.take i).map Many.pat)) R.manies[i].pat 2≠0
 ·rw[if_pos h6]at hz;exact absurd hz h6
 rw[if_neg h6]at hz
 have hq:=Classical.not_not.1 h6
 unfold patE at hq
 by_cases h1:freeE R.manies[i].pat.var≠0
 ·rw[if_pos h1]at hq;exact absurd hq h1
 rw[if_neg h1]at hq
 split at hq
 ·exact absurd hq (by decide)
 split at hq
 ·exact absurd hq (by decide)
 rename_i hty
 by_cases h4:winE 2 R.manies[i].pat≠0
 ·rw[if_pos h4]at hq;exact absurd hq h4
 have h5:=Classical.not_not.1 h4
 unfold winE at h5
 split at h5
 ·exact absurd h5 (by decide)
 split at h5
 ·exact absurd h5 (by decide)
 rename_i hw hn
 exact⟨by omega,by omega,by omega,hz⟩
theorem sameS_symm{a b:ByteArray}(h:sameS a b=true):sameS b a=true:=by unfold sameS at h ⊢;exact beq_iff_eq.2 (beq_iff_eq.1 h).symm
theorem sameS_trans{a b c:ByteArray}(h:sameS a b=true)(h' :sameS b c=true):sameS a c=true:=by unfold sameS at *;simp at *;rw[h,h']
theorem patI_congr{l:List Pat}{a b:ByteArray}(h:sameS a b=true):patI l a=patI l b:=by
 unfold patI;congr 1;funext p;exact sameS_congr (sameS_toL h) p.var
theorem hasP_congr{l:List Pat}{a b:ByteArray}(h:sameS a b=true):hasP l a=hasP l b:=by unfold hasP;rw[patI_congr h]
theorem link_sides{k:Lnk}{nm:ByteArray}(hk:linkE R k=0)(hn:hasP R.whens nm=false):
  (sameS k.left nm=true→sameS k.right nm=false∧patI R.whens k.right<R.whens.length)∧(sameS k.right nm=true→sameS k.left nm=false∧patI R.whens k.left<R.whens.length):=by
 unfold linkE at hk
 split at hk
 ·exact absurd hk (by decide)
 split at hk
 ·exact absurd hk (by decide)
 rename_i h1 h2
 simp only[Bool.or_eq_true,Bool.and_eq_true,Bool.not_eq_true',not_or,not_and,Bool.not_eq_false]at h2
 obtain⟨h3,h4⟩:=h2
 refine⟨fun h=>⟨?_,?_⟩,fun h=>⟨?_,?_⟩⟩
 ·cases hr:sameS k.right nm with
  |false=>rfl
  |true=>exact absurd (sameS_trans h (sameS_symm hr)) h3
 ·have:=h4 ((hasP_congr h).trans hn)
  simpa[hasP]using this
 ·cases hl:sameS k.left nm with
  |false=>rfl
  |true=>exact absurd (sameS_trans hl (sameS_symm h)) h3
 ·cases hh:hasP R.whens k.left with
  |true=>simpa[hasP]using hh
  |false=>
   have:=h4 hh
   rw[hasP_congr h,hn]at this
   cases this
theorem link_opts{k:Lnk}(hk:linkE R k=0): ∀ o∈k.opts,optE o.rel o.lo o.hi=0:=by
 unfold linkE at hk
 split at hk
 ·exact absurd hk (by decide)
 split at hk
 ·exact absurd hk (by decide)
 split at hk
 ·exact absurd hk (by decide)
 intro o ho
 obtain⟨i,hi,rfl⟩:=List.mem_iff_getElem.1 ho
 have:=firstN_all hk i hi
 simpa[List.getD,List.getElem?_eq_getElem hi]using this
end
end Go.Proofs.YtfahleafppfkaaaGreatDoor
/-
  Spans and options as cells.
-/
namespace Go.Proofs.YtfahleafppfkaaaGreatDoor
open Go.RowKit
theorem szOpt:SizeIs Tryz.prog 137 3:=fun w=>by kernel_rfl
theorem szFld:SizeIs Tryz.prog 100 2:=fun w=>by kernel_rfl
theorem stSpan:StT Tryz.prog 62 2:=⟨by kernel_rfl,_,Tryz.underlying62,rfl⟩
theorem zeSpan:ZeroT Tryz.prog 62 [.int .i64 0,.int .i64 0]:=⟨by kernel_rfl⟩
instance iStSpan:StI Tryz.prog 62 2:=⟨stSpan⟩
instance iZeSpan:ZeI Tryz.prog 62 [.int .i64 0,.int .i64 0]:=⟨zeSpan⟩
instance iOneGrd:OneI Tryz.prog 79:=⟨⟨by kernel_rfl,_,Tryz.underlying79,rfl⟩⟩
theorem range_sub{w:World}{z o:Nat}{cs:List Value}(h:w.rangeAt z o cs)(p:Nat)(vs:List Value)(hv:(cs.drop p).take vs.length=vs):w.rangeAt z (o+p) vs:=fun j x hj=>by
 have hl:j<vs.length:=(List.getElem?_eq_some_iff.1 hj).1
 have key:cs[p+j]?=some x:=by rw[←hv,List.getElem?_take,if_pos hl,List.getElem?_drop]at hj;exact hj
 have:=h (p+j) x key
 rwa[←Nat.add_assoc]at this
end Go.Proofs.YtfahleafppfkaaaGreatDoor
