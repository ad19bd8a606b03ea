/-
  The walks of the reference's BookFault, second part: the sides of a comparison. Printed by chkb.py.
-/
import Derived.Test.YtfahleafppfkaaaGreatDoorWf06
import Derived.Test.YtfahleafppfkaaaGreatDoorWf01
import Derived.Test.YtfahleafppfkaaaGreatDoorWf02
import Derived.RegionTactic
import Derived.Deep.RegionWith
import Derived.Shelf.Small.Strs
import Derived.Ground.Names2Prog
import Derived.Shelf.Slices.SearchI
import Derived.Test.YtfahleafppfkaaaGreatDoorProg
namespace Go.Proofs.YtfahleafppfkaaaGreatDoor
open Go.RowKit
set_option linter.unusedVariables false
set_option linter.unusedSimpArgs false
theorem fld_R{F:Nat→Prop}{w:World}{ao:Option Addr}{n cap:Nat}{fs:List Fld}(h:SlF F w 2 (plainF fldC) ao n cap fs)(hb: ∀ f∈fs,f.name.size≤maxLen):SlR w 2 fldR ao n cap fs:=by
 obtain⟨h1,h2,h3,h5,h4⟩:=h
 refine⟨h1,h2,h3,h5,fun i hi=>?_⟩
 obtain⟨b,off,row,e,hF,hlt,hr,hR⟩:=h4 i hi
 exact⟨b,off,row,e,hlt,hr,hR,hb _ (List.getElem_mem hi)⟩
def typOk(t:Typ):Prop:=t.name.size≤maxLen∧ ∀ f∈t.fields,f.name.size≤maxLen
def SidePost(ts:List Typ)(known:List Pat)(own:Typ)(o:Opd)(w:World):Ending→World→Prop:=fun e w' =>
 ∃ k,e= .returned (.tuple #[.int .i64 k,.int .i64 (sideE ts known own o)])∧Below w.heap.size w w' ∧(sideE ts known own o=0→k=sideK ts known own o)
theorem side_out{ts:List Typ}{known:List Pat}{own:Typ}{o:Opd}{w w' :World}{k e:Int}(hb:Below w.heap.size w w')(he:sideE ts known own o=e)(hk:e=0→k=sideK ts known own o):
  SidePost ts known own o w (.returned (.tuple #[.int .i64 k,.int .i64 e])) w' :=⟨k,by rw[he],hb,fun h=>hk (he▸h)⟩
section
variable {g:Nat} {F G H:Nat→Prop} {ao:Option Addr} {n cap:Nat} {bo:Option Addr} {m bcap:Nat} {oo:Option Addr} {k ocap:Nat} {w0:World} {ts:List Typ} {known:List Pat} {own:Typ}
set_option maxRecDepth 8000 in
set_option maxHeartbeats 4000000 in
theorem sideKind_bad(hg:g<w0.heap.size)(o:Opd)(hk: ¬ (1≤o.kind∧o.kind≤3)):
  Calls Tryz.prog 149 #[.slice ao n cap,.slice bo m bcap,.agg #[.string own.name,.slice oo k ocap],.agg (opdC o).toArray] w0 (SidePost ts known own o w0):=by
 have hin:inB o.kind 1 3=false:=by rw[inB_false];exact hk
 have M:=Mem.begin hg ⟨0,0⟩
 have HV:Hid (sideE ts known own o=3):=by show _=_;unfold sideE;rw[if_pos hk]
 unfold opdC
 clear hg hk
 go_enter Tryz.func149,Tryz.ntmps149
 go_wp2_with (first|(with_reducible (first|(refine wB (L:=[]) M ?_;clear M;intro za w1 M)|(refine wB M ?_;clear M;intro zb w2 M)|refine wq M ?_|(refine wS M ?_;clear M;intro w M)|(refine wV M ?_;clear M;intro z w M)))|(go_at_call 21;refine(in_any _ _ _ _).mono ?_;rintro e w4 ⟨rfl,rfl⟩;(try rw[hin])))
 go_ret2
 exact side_out M.new HV.out (fun h=>absurd h (by decide))
set_option maxRecDepth 8000 in
set_option maxHeartbeats 4000000 in
theorem sideKind_one(hg:g<w0.heap.size)(o:Opd)(hk:o.kind=1)(hs:o.vtext.size≤maxLen):
  Calls Tryz.prog 149 #[.slice ao n cap,.slice bo m bcap,.agg #[.string own.name,.slice oo k ocap],.agg (opdC o).toArray] w0 (SidePost ts known own o w0):=by
 have hin:inB o.kind 1 3=true:=by rw[inB_true,hk];omega
 have M:=Mem.begin hg ⟨0,0⟩
 have HVF:=Lib.hid (fun wx=>valFault_any o.vkind o.vint o.vtext wx hs)
 have HV:Hid (sideE ts known own o=if opdBad o=true then 4 else valE ⟨o.vkind,o.vint,o.vtext⟩):=by
  show _=_
  unfold sideE
  rw[if_neg (by omega),if_neg (by omega),hk,if_pos rfl]
 have HK:Hid (sideK ts known own o=o.vkind):=by show _=_;unfold sideK;rw[if_pos hk]
 have HB:Hid (opdBad o=(!emS o.var||!emS o.field)):=by show _=_;unfold opdBad;rw[hk];simp
 unfold opdC
 rw[hk]at hin ⊢
 clear hg hk hs
 generalize o.vkind=vk at HVF HV HK
 generalize valE ⟨vk,o.vint,o.vtext⟩=q at HVF HV
 go_enter Tryz.func149,Tryz.ntmps149
 go_wp2_with (first|(with_reducible (first|(refine wB (L:=[]) M ?_;clear M;intro za w1 M)|(refine wB M ?_;clear M;intro zb w2 M)|refine wq M ?_|(refine wS M ?_;clear M;intro w M)|(refine wV M ?_;clear M;intro z w M)))|(go_at_call 21;refine(in_any _ _ _ _).mono ?_;rintro e w4 ⟨rfl,rfl⟩;(try rw[hin])))
 ·(refine wp_region_any (by kernel_rfl) ?_;(try(change wpAny _ _ _ _ _ _ _ (World.drew _)));replace M:=M.drew;generalize World.drew _=w at M ⊢;have S:=St.o;((refine tk 0 (v:=?_) rfl (by kernel_rfl) rfl ?_ ?_;rotate_left;focus(intro w;go_simp;try with_reducible rfl));(try go_simp);(refine tk 1 (v:=?_) rfl (by kernel_rfl) rfl ?_ ?_;rotate_left;focus(intro w;go_simp;try with_reducible rfl));(try go_simp);(refine tk 3 (v:=?_) rfl (by kernel_rfl) rfl ?_ ?_;rotate_left;focus(intro w;go_simp;try with_reducible rfl));(try go_simp);replace S:=S.add 11;refine rd2 2 4 (by kernel_rfl) rfl rfl ?_ rfl rfl ?_<;>intro K hK);all_goals(first|(refine o_dst (some 71) ?_;(refine q_get M (by exact rfl) ?_);(all_goals(refine hK _ _ ?_;clear hK K;replace S:=S.add 4)))|(refine o_dst (some 73) ?_;(refine q_prt M (by rfl) ?_);(all_goals(refine hK _ _ ?_;clear hK K;replace S:=S.add 16))));all_goals(first|(replace S:St 15:=S;refine rd1 4 (by kernel_rfl) rfl rfl ?_<;>intro K hK)|(replace S:St 27:=S;refine rd2 2 5 (by kernel_rfl) rfl rfl ?_ rfl rfl ?_<;>intro K hK));all_goals(first|(refine o_dst (some 73) ?_;(refine q_prt M (by rfl) ?_);(all_goals(refine hK _ _ ?_;clear hK K;replace S:=S.add 16)))|(refine o_dst (some 71) ?_;(refine q_get M (by exact rfl) ?_);(all_goals(refine hK _ _ ?_;clear hK K;replace S:=S.add 4)))|(refine o_dst (some 74) ?_;(refine owp_of ?_;go_simp;(go_at_call 89;with_reducible refine(HVF.out _).mono ?_;rintro e w5 ⟨rfl,hb5⟩;replace M:=M.below hb5;clear hb5);(try go_simp));(all_goals(refine hK _ _ ?_;clear hK K;replace S:=S.add 32))));all_goals(first|(replace S:St 31:=S;refine rd1 5 (by kernel_rfl) rfl rfl ?_<;>intro K hK)|(replace S:St 59:=S;refine rd1 2 (by kernel_rfl) rfl rfl ?_<;>intro K hK));all_goals(first|(refine o_dst (some 74) ?_;(refine owp_of ?_;go_simp;(go_at_call 89;with_reducible refine(HVF.out _).mono ?_;rintro e w5 ⟨rfl,hb5⟩;replace M:=M.below hb5;clear hb5);(try go_simp));(all_goals(refine hK _ _ ?_;clear hK K;replace S:=S.add 32)))|(refine o_dst (some 71) ?_;(refine q_get M (by exact rfl) ?_);(all_goals(refine hK _ _ ?_;clear hK K;replace S:=S.add 4))));all_goals(clear S;((refine tk 6 (v:=?_) rfl (by kernel_rfl) rfl ?_ ?_;rotate_left;focus(intro w;go_simp;try with_reducible rfl));(try go_simp);(refine tk 7 (v:=?_) rfl (by kernel_rfl) rfl ?_ ?_;rotate_left;focus(intro w;go_simp;try with_reducible rfl));(try go_simp);refine wpAny_done (by kernel_rfl) ?_ _)))
  all_goals go_wp2
  all_goals
   go_ret2
   exact side_out M.new (by rw[HV.out,HB.out];simp[emS, *]) (fun _=>HK.out.symm)
 ·go_ret2
  exact side_out M.new (by rw[HV.out,HB.out];simp[emS, *]) (fun h=>absurd h (by decide))
 ·go_ret2
  exact side_out M.new (by rw[HV.out,HB.out];simp[emS, *]) (fun h=>absurd h (by decide))
theorem side_look{o:Opd}(h1:1≤o.kind∧o.kind≤3)(hn:o.kind≠1)(h3:o.kind=3→patI known o.var<known.length):
  sideE ts known own o=if opdBad o=true then 4 else if fldAt (sideT ts known own o).fields o.field<(sideT ts known own o).fields.length then 0 else 6:=by
 unfold sideE
 rw[if_neg (by omega),if_neg (fun h=>by have:=h3 h.1;omega)]
 by_cases hb:opdBad o=true
 ·rw[if_pos hb,if_pos hb]
 ·rw[if_neg hb,if_neg hb,if_neg hn]
theorem atI_some{fs:List Fld}{nm:ByteArray}(h:fldAt fs nm<fs.length):atI fs nm=(fldAt fs nm:Nat):=by unfold atI;rw[if_pos h]
theorem atI_none{fs:List Fld}{nm:ByteArray}(h: ¬ fldAt fs nm<fs.length):atI fs nm= -1:=by unfold atI;rw[if_neg h]
set_option maxRecDepth 8000 in
set_option maxHeartbeats 4000000 in
theorem sideKind_two(hg:g<w0.heap.size)(o:Opd)(hk:o.kind=2)(hO:SlF H w0 2 (plainF fldC) oo k ocap own.fields)(hb: ∀ f∈own.fields,f.name.size≤maxLen):
  Calls Tryz.prog 149 #[.slice ao n cap,.slice bo m bcap,.agg #[.string own.name,.slice oo k ocap],.agg (opdC o).toArray] w0 (SidePost ts known own o w0):=by
 have hin:inB o.kind 1 3=true:=by rw[inB_true,hk];omega
 have M:=Mem.begin hg ⟨0,0⟩
 have HFA:Hid (∀ wx,Below w0.heap.size w0 wx→Calls Tryz.prog 54 #[.agg #[.string own.name,.slice oo k ocap],.string o.field] wx fun e w' =>e= .returned (.int .i64 (atI own.fields o.field))∧Below wx.heap.size wx w'):=fun wx hbx=>
  fieldAt_any own.name oo k ocap own.fields o.field wx (fld_R (hO.below (plainF_firm _) hbx) hb)
 have hT:sideT ts known own o=own:=by unfold sideT;rw[if_neg (by omega)]
 have HV:=side_look (ts:=ts) (known:=known) (own:=own) (o:=o) (by omega) (by omega) (fun h=>by omega)
 rw[hT]at HV
 have HB:Hid (opdBad o=(!emS o.var||!valZ o)):=by show _=_;unfold opdBad;rw[hk];simp
 have HK:Hid (sideK ts known own o=(own.fields.getD (fldAt own.fields o.field) default).kind):=by show _=_;unfold sideK;rw[if_neg (by omega),hT]
 have HV:=Lib.hid HV
 have HO:=Lib.hid hO
 have hlen:=hO.len
 have hle:=hO.le
 have NL:=Lib.hid hlen
 unfold opdC
 rw[hk]at hin ⊢
 by_cases hf:fldAt own.fields o.field<own.fields.length
 ·have HA:=Lib.hid (atI_some hf)
  have HF:=Lib.hid hf
  obtain⟨ca,oa,rowa,hixa, -,hrra,hwa⟩:=SlF.rowAt (P:=Tryz.prog) hO (plainF_firm _) Tryz.underlying67 size_fld (i:=fldAt own.fields o.field) hf
  have e1:rowa=fldC own.fields[fldAt own.fields o.field]:=hrra
  subst e1
  have HC1:Hid (∀ wx,Below w0.heap.size w0 wx→wx.cell? ⟨ca,oa+1,none⟩=some (.int .i64 own.fields[fldAt own.fields o.field].kind)):=fun wx hbx=>(hwa wx hbx).1 1 _ rfl
  have HKV:Hid (own.fields[fldAt own.fields o.field].kind=sideK ts known own o):=by show _=_;rw[HK.out,List.getD_eq_getElem?_getD,List.getElem?_eq_getElem hf];rfl
  generalize own.fields[fldAt own.fields o.field].kind=kd at HC1 HKV
  have hfn:(fldAt own.fields o.field:Int)<k:=by have:=NL.out;omega
  have hfp:(0:Int)≤(fldAt own.fields o.field:Nat):=by omega
  rw[HA.out]at HFA
  have HS:Hid (sideE ts known own o=if opdBad o=true then 4 else 0):=by show _=_;rw[HV.out,if_pos hf]
  generalize fldAt own.fields o.field=fi at HFA hixa hfn hfp
  clear hg hk hO hb hT HV hlen hf hwa hrra HK HA HF
  go_enter Tryz.func149,Tryz.ntmps149
  go_wp2_with (first|(with_reducible (first|(refine wB (L:=[]) M ?_;clear M;intro za w1 M)|(refine wB M ?_;clear M;intro zb w2 M)|refine wq M ?_|(refine wS M ?_;clear M;intro w M)|(refine wV M ?_;clear M;intro z w M)|refine wC (HC1.out _ M.new) ?_))|(go_at_call 21;refine(in_any _ _ _ _).mono ?_;rintro e w4 ⟨rfl,rfl⟩;(try rw[hin]))|(go_at_call 54;with_reducible refine(HFA.out _ M.new).mono ?_;rintro e w5 ⟨rfl,hb5⟩;replace M:=M.below hb5;clear hb5))
  ·go_ret2
   exact side_out M.new (by rw[HS.out,HB.out];simp[emS,valZ, *]) (fun _=>HKV.out)
  all_goals
   go_ret2
   exact side_out M.new (by rw[HS.out,HB.out];simp[emS,valZ, *]) (fun h=>absurd h (by decide))
 ·have HA:=Lib.hid (atI_none hf)
  rw[HA.out]at HFA
  have HS:Hid (sideE ts known own o=if opdBad o=true then 4 else 6):=by show _=_;rw[HV.out,if_neg hf]
  clear hg hk hO hb hT HV hlen hf HK HA
  go_enter Tryz.func149,Tryz.ntmps149
  go_wp2_with (first|(with_reducible (first|(refine wB (L:=[]) M ?_;clear M;intro za w1 M)|(refine wB M ?_;clear M;intro zb w2 M)|refine wq M ?_|(refine wS M ?_;clear M;intro w M)|(refine wV M ?_;clear M;intro z w M)))|(go_at_call 21;refine(in_any _ _ _ _).mono ?_;rintro e w4 ⟨rfl,rfl⟩;(try rw[hin]))|(go_at_call 54;with_reducible refine(HFA.out _ M.new).mono ?_;rintro e w5 ⟨rfl,hb5⟩;replace M:=M.below hb5;clear hb5))
  all_goals
   go_ret2
   exact side_out M.new (by rw[HS.out,HB.out];simp[emS,valZ, *]) (fun h=>absurd h (by decide))
set_option maxRecDepth 8000 in
set_option maxHeartbeats 8000000 in
theorem sideKind_three(hg:g<w0.heap.size)(o:Opd)(hk:o.kind=3)(hX:SlF F w0 2 typF ao n cap ts)(hts: ∀ t∈ts,typOk t)(hY:SlF G w0 18 patF bo m bcap known)(hkn: ∀ p∈known,typI ts p.type<ts.length):
  Calls Tryz.prog 149 #[.slice ao n cap,.slice bo m bcap,.agg #[.string own.name,.slice oo k ocap],.agg (opdC o).toArray] w0 (SidePost ts known own o w0):=by
 have hin:inB o.kind 1 3=true:=by rw[inB_true,hk];omega
 have M:=Mem.begin hg ⟨0,0⟩
 have HPN:Hid (∀ wx,Below w0.heap.size w0 wx→Calls Tryz.prog 81 #[.slice bo m bcap,.string o.var] wx fun e w' =>e= .returned (.int .i64 (placeV (patI known o.var) known.length))∧Below wx.heap.size wx w'):=fun wx hbx=>
  patternNamed_any (Nat.lt_of_lt_of_le hg hbx.size) (hY.below patF_firm hbx) o.var
 have hleX:=hX.le
 have hleY:=hY.le
 have NX:=Lib.hid hX.len
 have NY:=Lib.hid hY.len
 by_cases hf:patI known o.var<known.length
 ·have hT:sideT ts known own o=typAt ts known[patI known o.var].type:=by unfold sideT;rw[if_pos hk,List.getD_eq_getElem?_getD,List.getElem?_eq_getElem hf];rfl
  have HV:=side_look (ts:=ts) (known:=known) (own:=own) (o:=o) (by omega) (by omega) (fun h=>hf)
  have HB:Hid (opdBad o=!valZ o):=by show _=_;unfold opdBad;rw[hk];simp
  have HPV:placeV (patI known o.var) known.length=(patI known o.var:Nat):=by unfold placeV;rw[if_pos hf]
  rw[HPV]at HPN
  have htl:typI ts known[patI known o.var].type<ts.length:=hkn _ (List.getElem_mem hf)
  obtain⟨cp,op,rowp,hixp, -,hrrp,hwp⟩:=SlF.rowAt (P:=Tryz.prog) hY patF_firm Tryz.underlying53 size_pat (i:=patI known o.var) hf
  obtain⟨p1,q1,s1,ep,u1⟩:=hrrp
  subst ep
  have HP1:Hid (∀ wx,Below w0.heap.size w0 wx→wx.cell? ⟨cp,op+1,none⟩=some (.string known[patI known o.var].type)):=fun wx hbx=>(hwp wx hbx).1 1 _ rfl
  have HTN:Hid (∀ wx,Below w0.heap.size w0 wx→Calls Tryz.prog 66 #[.slice ao n cap,.string known[patI known o.var].type] wx fun e w' =>e= .returned (.int .i64 (typI ts known[patI known o.var].type:Nat))∧Below wx.heap.size wx w'):=fun wx hbx=>by
   have h:=typeNamed_any (Nat.lt_of_lt_of_le hg hbx.size) (hX.below typF_firm hbx) known[patI known o.var].type
   unfold placeV at h
   rw[if_pos htl]at h
   exact h
  generalize known[patI known o.var].type=ptype at hT HP1 HTN htl
  have hfn:(patI known o.var:Int)<m:=by have:=NY.out;omega
  generalize patI known o.var=pi at HPN hixp hfn
  obtain⟨ct,ot,rowt,hixt, -,hrrt,hwt⟩:=SlF.rowAt (P:=Tryz.prog) hX typF_firm Tryz.underlying22 size_typ (i:=typI ts ptype) htl
  obtain⟨t1,t2,t3,et,ut⟩:=hrrt
  subst et
  have HT0:Hid (∀ wx,Below w0.heap.size w0 wx→wx.rangeAt ct ot [.string ts[typI ts ptype].name,.slice t1 t2 t3]):=fun wx hbx=>(hwt wx hbx).1
  have hTT:typAt ts ptype=ts[typI ts ptype]:=by unfold typAt;rw[List.getD_eq_getElem?_getD,List.getElem?_eq_getElem htl];rfl
  rw[hTT]at hT
  have hok:typOk ts[typI ts ptype]:=hts _ (List.getElem_mem htl)
  have htn:(typI ts ptype:Int)<n:=by have:=NX.out;omega
  generalize ts[typI ts ptype]=tt at hT HT0 ut hok
  generalize typI ts ptype=ti at HTN hixt htn
  rw[hT]at HV
  have HK:Hid (sideK ts known own o=(tt.fields.getD (fldAt tt.fields o.field) default).kind):=by show _=_;unfold sideK;rw[if_neg (by omega),hT]
  have HFA:Hid (∀ wx,Below w0.heap.size w0 wx→Calls Tryz.prog 54 #[.agg #[.string tt.name,.slice t1 t2 t3],.string o.field] wx fun e w' =>e= .returned (.int .i64 (atI tt.fields o.field))∧Below wx.heap.size wx w'):=fun wx hbx=>
   fieldAt_any tt.name t1 t2 t3 tt.fields o.field wx (fld_R (ut.below (plainF_firm _) hbx) hok.2)
  have HV:=Lib.hid HV
  have hlet:=ut.le
  have NT:=Lib.hid ut.len
  unfold opdC
  rw[hk]at hin ⊢
  by_cases hff:fldAt tt.fields o.field<tt.fields.length
  ·have HA:=Lib.hid (atI_some hff)
   obtain⟨ca,oa,rowa,hixa, -,hrra,hwa⟩:=SlF.rowAt (P:=Tryz.prog) ut (plainF_firm _) Tryz.underlying67 size_fld (i:=fldAt tt.fields o.field) hff
   have e1:rowa=fldC tt.fields[fldAt tt.fields o.field]:=hrra
   subst e1
   have HC1:Hid (∀ wx,Below w0.heap.size w0 wx→wx.cell? ⟨ca,oa+1,none⟩=some (.int .i64 tt.fields[fldAt tt.fields o.field].kind)):=fun wx hbx=>(hwa wx hbx).1 1 _ rfl
   have HKV:Hid (tt.fields[fldAt tt.fields o.field].kind=sideK ts known own o):=by show _=_;rw[HK.out,List.getD_eq_getElem?_getD,List.getElem?_eq_getElem hff];rfl
   generalize tt.fields[fldAt tt.fields o.field].kind=kd at HC1 HKV
   have hfn2:(fldAt tt.fields o.field:Int)<t2:=by have:=NT.out;omega
   rw[HA.out]at HFA
   have HS:Hid (sideE ts known own o=if opdBad o=true then 4 else 0):=by show _=_;rw[HV.out,if_pos hff]
   generalize fldAt tt.fields o.field=fi at HFA hixa hfn2
   clear hg hk hX hY hkn hts hT HV hf hff hwa hrra HK HA hwp hwt u1 ut hok htl hTT HPV
   go_enter Tryz.func149,Tryz.ntmps149
   go_wp2_with (first|(with_reducible (first|(refine wB (L:=[]) M ?_;clear M;intro za w1 M)|(refine wB M ?_;clear M;intro zb w2 M)|refine wq M ?_|(refine wS M ?_;clear M;intro w M)|(refine wV M ?_;clear M;intro z w M)|refine wC (HC1.out _ M.new) ?_|refine wC (HP1.out _ M.new) ?_|refine wA (HT0.out _ M.new) ?_))|(go_at_call 21;refine(in_any _ _ _ _).mono ?_;rintro e w4 ⟨rfl,rfl⟩;(try rw[hin]))|(go_at_call 81;with_reducible refine(HPN.out _ M.new).mono ?_;rintro e w5 ⟨rfl,hb5⟩;replace M:=M.below hb5;clear hb5)|(go_at_call 66;with_reducible refine(HTN.out _ M.new).mono ?_;rintro e w5 ⟨rfl,hb5⟩;replace M:=M.below hb5;clear hb5)|(go_at_call 54;with_reducible refine(HFA.out _ M.new).mono ?_;rintro e w5 ⟨rfl,hb5⟩;replace M:=M.below hb5;clear hb5))
   ·go_ret2
    exact side_out M.new (by rw[HS.out,HB.out];simp[emS,valZ, *]) (fun _=>HKV.out)
   all_goals
    go_ret2
    exact side_out M.new (by rw[HS.out,HB.out];simp[emS,valZ, *]) (fun h=>absurd h (by decide))
  ·have HA:=Lib.hid (atI_none hff)
   rw[HA.out]at HFA
   have HS:Hid (sideE ts known own o=if opdBad o=true then 4 else 6):=by show _=_;rw[HV.out,if_neg hff]
   clear hg hk hX hY hkn hts hT HV hf hff HK HA hwp hwt u1 ut hok htl hTT HPV
   go_enter Tryz.func149,Tryz.ntmps149
   go_wp2_with (first|(with_reducible (first|(refine wB (L:=[]) M ?_;clear M;intro za w1 M)|(refine wB M ?_;clear M;intro zb w2 M)|refine wq M ?_|(refine wS M ?_;clear M;intro w M)|(refine wV M ?_;clear M;intro z w M)|refine wC (HP1.out _ M.new) ?_|refine wA (HT0.out _ M.new) ?_))|(go_at_call 21;refine(in_any _ _ _ _).mono ?_;rintro e w4 ⟨rfl,rfl⟩;(try rw[hin]))|(go_at_call 81;with_reducible refine(HPN.out _ M.new).mono ?_;rintro e w5 ⟨rfl,hb5⟩;replace M:=M.below hb5;clear hb5)|(go_at_call 66;with_reducible refine(HTN.out _ M.new).mono ?_;rintro e w5 ⟨rfl,hb5⟩;replace M:=M.below hb5;clear hb5)|(go_at_call 54;with_reducible refine(HFA.out _ M.new).mono ?_;rintro e w5 ⟨rfl,hb5⟩;replace M:=M.below hb5;clear hb5))
   all_goals
    go_ret2
    exact side_out M.new (by rw[HS.out,HB.out];simp[emS,valZ, *]) (fun h=>absurd h (by decide))
 ·have HPV:placeV (patI known o.var) known.length= -1:=by unfold placeV;rw[if_neg hf]
  rw[HPV]at HPN
  have HS:Hid (sideE ts known own o=6):=by show _=_;unfold sideE;rw[if_neg (by omega),if_pos ⟨hk,by omega⟩]
  unfold opdC
  rw[hk]at hin ⊢
  clear hg hk hX hY hkn hts hf HPV
  go_enter Tryz.func149,Tryz.ntmps149
  go_wp2_with (first|(with_reducible (first|(refine wB (L:=[]) M ?_;clear M;intro za w1 M)|(refine wB M ?_;clear M;intro zb w2 M)|refine wq M ?_|(refine wS M ?_;clear M;intro w M)|(refine wV M ?_;clear M;intro z w M)))|(go_at_call 21;refine(in_any _ _ _ _).mono ?_;rintro e w4 ⟨rfl,rfl⟩;(try rw[hin]))|(go_at_call 81;with_reducible refine(HPN.out _ M.new).mono ?_;rintro e w5 ⟨rfl,hb5⟩;replace M:=M.below hb5;clear hb5))
  go_ret2
  exact side_out M.new HS.out (fun h=>absurd h (by decide))
theorem sideKind_any(hg:g<w0.heap.size)(o:Opd)(hs:o.vtext.size≤maxLen)(hX:SlF F w0 2 typF ao n cap ts)(hts: ∀ t∈ts,typOk t)(hY:SlF G w0 18 patF bo m bcap known)(hkn: ∀ p∈known,typI ts p.type<ts.length)
  (hO:SlF H w0 2 (plainF fldC) oo k ocap own.fields)(hown:typOk own):
  Calls Tryz.prog 149 #[.slice ao n cap,.slice bo m bcap,.agg #[.string own.name,.slice oo k ocap],.agg (opdC o).toArray] w0 (SidePost ts known own o w0):=by
 by_cases hk:1≤o.kind∧o.kind≤3
 ·rcases(by omega:o.kind=1∨o.kind=2∨o.kind=3)with h|h|h
  ·exact sideKind_one hg o h hs
  ·exact sideKind_two hg o h hO hown.2
  ·exact sideKind_three hg o h hX hts hY hkn
 ·exact sideKind_bad hg o hk
end
end Go.Proofs.YtfahleafppfkaaaGreatDoor
/-
  The walks of a span's and a time's check.
-/
namespace Go.Proofs.YtfahleafppfkaaaGreatDoor
open Go.RowKit
set_option linter.unusedVariables false
set_option linter.unusedSimpArgs false
def spanE(a b:Int):Int:=if(0≤a∧a≤1099511627776)∧(0≤b∧b≤1099511627776)then(if b<a then 11 else 0)else 2
set_option maxHeartbeats 400000 in
theorem span_any(a b:Int)(w:World):
  Calls Tryz.prog 41 #[.agg #[.int .i64 a,.int .i64 b]] w fun e w' =>e= .returned (.int .i64 (spanE a b))∧Below w.heap.size w w' :=by
 go_enter Tryz.func41,Tryz.ntmps41
 go_wp2
 all_goals(go_ret;refine⟨?_,(by repeat(first|exact Below.refl _ _|(refine Below.alloc ?_ (by omega) _)))⟩;exact ret_int (by go_light;unfold spanE;(try simp only[Bool.not_eq_true',Bool.not_eq_false',decide_eq_true_eq,decide_eq_false_iff_not]at *);(repeat' split)<;>omega))
set_option maxHeartbeats 400000 in
theorem spanFault_any(a b:Int)(w:World):
  Calls Tryz.prog 49 #[.agg #[.int .i64 a,.int .i64 b]] w fun e w' =>e= .returned (.int .i64 (spanE a b))∧Below w.heap.size w w' :=by
 go_enter Tryz.func49,Tryz.ntmps49
 go_wp2
 all_goals(go_ret;refine⟨?_,(by repeat(first|exact Below.refl _ _|(refine Below.alloc ?_ (by omega) _)))⟩;exact ret_int (by go_light;unfold spanE;(try simp only[Bool.not_eq_true',Bool.not_eq_false',decide_eq_true_eq,decide_eq_false_iff_not]at *);(repeat' split)<;>omega))
end Go.Proofs.YtfahleafppfkaaaGreatDoor
/-
  The walks of value.CheckEvent and of its reference.
-/
namespace Go.Proofs.YtfahleafppfkaaaGreatDoor
open Go.RowKit
set_option linter.unusedVariables false
set_option linter.unusedSimpArgs false
instance :Inhabited Typ:=⟨⟨ByteArray.empty,[]⟩⟩
def typR:World→List Value→Typ→Prop:=fun w row t=> ∃ ao n cap,row=[.string t.name,.slice ao n cap]∧t.name.size≤maxLen∧SlR w 2 fldR ao n cap t.fields
theorem typR_stays:Stays typR:=fun w w' row t hb ⟨ao,n,cap,e,h1,h2⟩=>⟨ao,n,cap,e,h1,h2.mono fldR_stays hb⟩
theorem size_type:SizeIs Tryz.prog 69 2:=fun w=>by kernel_rfl
structure Evt where
 number:Int
 type:Int
 start:Int
 stop:Int
def Evt.val(x:Evt)(v:Value):Value:= .agg #[.int .i64 x.number,.int .i64 x.type,.int .i64 x.start,.int .i64 x.stop,v]
def eventE(ts:List Typ)(x:Evt)(vs:List Val):Int:=
 if 1≤x.number∧x.number≤1048576 then
  (if 0≤x.type∧x.type<ts.length then(if spanE x.start x.stop=0 then fitE (ts.getD x.type.toNat default).name (ts.getD x.type.toNat default).fields vs else spanE x.start x.stop)else 6)else 2
set_option maxHeartbeats 2000000 in
theorem event_any(tq:Option Addr)(tn tcap:Nat)(ts:List Typ)(x:Evt)(vo:Option Addr)(m vcap:Nat)(vs:List Val)(w:World)(hT:SlR w 2 typR tq tn tcap ts)(hV:SlR w 3 valR vo m vcap vs):
  Calls Tryz.prog 23 #[.slice tq tn tcap,x.val (.slice vo m vcap)] w fun e' w' =>e' = .returned (.int .i64 (eventE ts x vs))∧Below w.heap.size w w' :=by
 have TL:Hid (tn=ts.length):=hT.len
 have hvle:=hV.le
 have htle:=hT.le
 have hd:Below w.heap.size w (w.alloc (.cells #[.int .i64 x.number,.int .i64 x.type,.int .i64 x.start,.int .i64 x.stop,.slice vo m vcap] 65)):=Joins.below_alloc1 _ _
 have hV1:=hV.mono valR_stays hd
 have hT1:=hT.mono typR_stays hd
 unfold Evt.val
 by_cases hn:1≤x.number∧x.number≤1048576
 ·have N1:Hid (1≤x.number∧x.number≤1048576):=hn
  have n1:decide (x.number<1)=false:=by simp;omega
  have n2:decide ((1048576:Int)<x.number)=false:=by simp;omega
  have n3:inB x.number 1 1048576=true:=inB_true.2 hn
  clear hn
  by_cases ht:0≤x.type∧x.type<tn
  ·generalize hxt:x.type=xt at *
   obtain⟨j,rfl⟩:=Int.eq_ofNat_of_zero_le ht.1
   have hjt:j<ts.length:=by have:=TL.out;omega
   have T1:Hid (0≤x.type∧x.type<ts.length):=by have:=TL.out;rw[hxt];exact⟨ht.1,by omega⟩
   have TJ:Hid (ts.getD x.type.toNat default=ts[j]):=by show _=_;rw[hxt];simp[List.getD,List.getElem?_eq_getElem hjt]
   have t1:decide ((j:Int)<0)=false:=by simp
   have t2:decide ((tn:Int)≤(j:Int))=false:=by simp;omega
   have t3:inB (j:Int) 0 ((tn:Int) - 1)=true:=by rw[inB_true];omega
   have hjn:j<tn:=by omega
   obtain⟨b,off,row,hix,hblt,hrow,⟨ao,n,cap,rfl,hnm,hF⟩⟩:=hT1.index (P:=Tryz.prog) Tryz.underlying22 size_type hjt
   obtain⟨c0,c1⟩:=hrow.two
   clear hxt ht
   by_cases hs:spanE x.start x.stop=0
   ·have hs1:(spanE x.start x.stop !=0)=false:=by simp[hs]
    have hs2:(spanE x.start x.stop==0)=true:=by simp[hs]
    have S0:Hid (spanE x.start x.stop=0):=hs
    clear hs
    go_enter Tryz.func23,Tryz.ntmps23
    go_wp2_with fail
    refine(span_any _ _ _).mono ?_
    rintro e w1 ⟨rfl,hb1⟩
    obtain⟨hc_w1,hf_w1⟩:=bcell hb1;have hs_w1:=hb1.size;(try simp only[World.size_alloc,World.size_drew,World.size_setCell]at hs_w1);have z0_w1:w.heap.size<w1.heap.size:=(by omega)
    have hF1:=hF.mono fldR_stays hb1
    have hV2:=hV1.mono valR_stays hb1
    have d0:w1.cell? ⟨b,off+j*2,none⟩=some (.string ts[j].name):=(hb1.cell (p:=⟨b,off+j*2,none⟩) hblt).trans c0
    have d1:w1.cell? ⟨b,off+j*2+1,none⟩=some (.slice ao n cap):=(hb1.cell (p:=⟨b,off+j*2+1,none⟩) hblt).trans c1
    go_wp2_with fail
    go_region_with (go_at_call 42;refine(fit_any ts[j].name ao n cap ts[j].fields vo m vcap vs _ hnm (hF1.mono fldR_stays ((Below.refl _ _).drew)) (hV2.mono valR_stays ((Below.refl _ _).drew))).mono ?_;rintro e w2 ⟨rfl,hb2⟩)
    all_goals
     go_wp2
     go_ret
     exact⟨ret_int (by simp only[eventE,if_pos N1.out,if_pos T1.out,if_pos S0.out,TJ.out]),below_step (below_step hd hb1) (((Below.refl _ _).drew).trans hb2)⟩
   ·have hs1:(spanE x.start x.stop !=0)=true:=by simp[hs]
    have hs2:(spanE x.start x.stop==0)=false:=by simp[hs]
    have S0:Hid (¬ spanE x.start x.stop=0):=hs
    clear hs
    go_enter Tryz.func23,Tryz.ntmps23
    go_wp2_with fail
    refine(span_any _ _ _).mono ?_
    rintro e w1 ⟨rfl,hb1⟩
    go_wp2
    go_ret
    exact⟨ret_int (by simp only[eventE,if_pos N1.out,if_pos T1.out,if_neg S0.out]),(by repeat(first|assumption|refine below_step ?_ (by assumption)))⟩
  ·have T1:Hid (¬ (0≤x.type∧x.type<ts.length)):=by have:=TL.out;intro h;exact ht ⟨h.1,by omega⟩
   by_cases ht0:x.type<0
   ·have t1:decide (x.type<0)=true:=by simp;omega
    have t3:inB x.type 0 ((tn:Int) - 1)=false:=by rw[inB_false];omega
    clear ht
    go_enter Tryz.func23,Tryz.ntmps23
    go_wp2
    go_ret
    exact⟨ret_int (by simp only[eventE,if_pos N1.out,if_neg T1.out]),(by repeat(assumption))⟩
   ·have t1:decide (x.type<0)=false:=by simp;omega
    have t2:decide ((tn:Int)≤x.type)=true:=by simp;omega
    have t3:inB x.type 0 ((tn:Int) - 1)=false:=by rw[inB_false];omega
    clear ht
    go_enter Tryz.func23,Tryz.ntmps23
    go_wp2
    go_ret
    exact⟨ret_int (by simp only[eventE,if_pos N1.out,if_neg T1.out]),(by repeat(assumption))⟩
 ·have N1:Hid (¬ (1≤x.number∧x.number≤1048576)):=hn
  have n3:inB x.number 1 1048576=false:=inB_false.2 hn
  by_cases hn0:x.number<1
  ·have n1:decide (x.number<1)=true:=by simp;omega
   clear hn
   go_enter Tryz.func23,Tryz.ntmps23
   go_wp2
   go_ret
   exact⟨ret_int (by simp only[eventE,if_neg N1.out]),(by repeat(assumption))⟩
  ·have n1:decide (x.number<1)=false:=by simp;omega
   have n2:decide ((1048576:Int)<x.number)=true:=by simp;omega
   clear hn
   go_enter Tryz.func23,Tryz.ntmps23
   go_wp2
   go_ret
   exact⟨ret_int (by simp only[eventE,if_neg N1.out]),(by repeat(assumption))⟩
set_option maxHeartbeats 2000000 in
theorem eventFault_any(tq:Option Addr)(tn tcap:Nat)(ts:List Typ)(x:Evt)(vo:Option Addr)(m vcap:Nat)(vs:List Val)(w:World)(hT:SlR w 2 typR tq tn tcap ts)(hV:SlR w 3 valR vo m vcap vs):
  Calls Tryz.prog 26 #[.slice tq tn tcap,x.val (.slice vo m vcap)] w fun e' w' =>e' = .returned (.int .i64 (eventE ts x vs))∧Below w.heap.size w w' :=by
 have TL:Hid (tn=ts.length):=hT.len
 have hvle:=hV.le
 have htle:=hT.le
 have hd:Below w.heap.size w (w.alloc (.cells #[.int .i64 x.number,.int .i64 x.type,.int .i64 x.start,.int .i64 x.stop,.slice vo m vcap] 65)):=Joins.below_alloc1 _ _
 have hV1:=hV.mono valR_stays hd
 have hT1:=hT.mono typR_stays hd
 unfold Evt.val
 by_cases hn:1≤x.number∧x.number≤1048576
 ·have N1:Hid (1≤x.number∧x.number≤1048576):=hn
  have n1:decide (x.number<1)=false:=by simp;omega
  have n2:decide ((1048576:Int)<x.number)=false:=by simp;omega
  have n3:inB x.number 1 1048576=true:=inB_true.2 hn
  clear hn
  by_cases ht:0≤x.type∧x.type<tn
  ·generalize hxt:x.type=xt at *
   obtain⟨j,rfl⟩:=Int.eq_ofNat_of_zero_le ht.1
   have hjt:j<ts.length:=by have:=TL.out;omega
   have T1:Hid (0≤x.type∧x.type<ts.length):=by have:=TL.out;rw[hxt];exact⟨ht.1,by omega⟩
   have TJ:Hid (ts.getD x.type.toNat default=ts[j]):=by show _=_;rw[hxt];simp[List.getD,List.getElem?_eq_getElem hjt]
   have t1:decide ((j:Int)<0)=false:=by simp
   have t2:decide ((tn:Int)≤(j:Int))=false:=by simp;omega
   have t3:inB (j:Int) 0 ((tn:Int) - 1)=true:=by rw[inB_true];omega
   have hjn:j<tn:=by omega
   obtain⟨b,off,row,hix,hblt,hrow,⟨ao,n,cap,rfl,hnm,hF⟩⟩:=hT1.index (P:=Tryz.prog) Tryz.underlying22 size_type hjt
   obtain⟨c0,c1⟩:=hrow.two
   clear hxt ht
   by_cases hs:spanE x.start x.stop=0
   ·have hs1:(spanE x.start x.stop !=0)=false:=by simp[hs]
    have hs2:(spanE x.start x.stop==0)=true:=by simp[hs]
    have S0:Hid (spanE x.start x.stop=0):=hs
    clear hs
    go_enter Tryz.func26,Tryz.ntmps26
    go_wp2_with (go_at_call 21;refine(in_any _ _ _ _).mono ?_;rintro e w' ⟨rfl,rfl⟩)
    refine(spanFault_any _ _ _).mono ?_
    rintro e w1 ⟨rfl,hb1⟩
    obtain⟨hc_w1,hf_w1⟩:=bcell hb1;have hs_w1:=hb1.size;(try simp only[World.size_alloc,World.size_drew,World.size_setCell]at hs_w1);have z0_w1:w.heap.size<w1.heap.size:=(by omega)
    have hF1:=hF.mono fldR_stays hb1
    have hV2:=hV1.mono valR_stays hb1
    have d0:w1.cell? ⟨b,off+j*2,none⟩=some (.string ts[j].name):=(hb1.cell (p:=⟨b,off+j*2,none⟩) hblt).trans c0
    have d1:w1.cell? ⟨b,off+j*2+1,none⟩=some (.slice ao n cap):=(hb1.cell (p:=⟨b,off+j*2+1,none⟩) hblt).trans c1
    go_wp2_with fail
    go_region_with (go_at_call 50;refine(fitFault_any ts[j].name ao n cap ts[j].fields vo m vcap vs _ hnm (hF1.mono fldR_stays ((Below.refl _ _).drew)) (hV2.mono valR_stays ((Below.refl _ _).drew))).mono ?_;rintro e w2 ⟨rfl,hb2⟩)
    all_goals
     go_wp2
     go_ret
     exact⟨ret_int (by simp only[eventE,if_pos N1.out,if_pos T1.out,if_pos S0.out,TJ.out]),below_step (below_step hd hb1) (((Below.refl _ _).drew).trans hb2)⟩
   ·have hs1:(spanE x.start x.stop !=0)=true:=by simp[hs]
    have hs2:(spanE x.start x.stop==0)=false:=by simp[hs]
    have S0:Hid (¬ spanE x.start x.stop=0):=hs
    clear hs
    go_enter Tryz.func26,Tryz.ntmps26
    go_wp2_with (go_at_call 21;refine(in_any _ _ _ _).mono ?_;rintro e w' ⟨rfl,rfl⟩)
    refine(spanFault_any _ _ _).mono ?_
    rintro e w1 ⟨rfl,hb1⟩
    go_wp2
    go_ret
    exact⟨ret_int (by simp only[eventE,if_pos N1.out,if_pos T1.out,if_neg S0.out]),(by repeat(first|assumption|refine below_step ?_ (by assumption)))⟩
  ·have T1:Hid (¬ (0≤x.type∧x.type<ts.length)):=by have:=TL.out;intro h;exact ht ⟨h.1,by omega⟩
   by_cases ht0:x.type<0
   ·have t1:decide (x.type<0)=true:=by simp;omega
    have t3:inB x.type 0 ((tn:Int) - 1)=false:=by rw[inB_false];omega
    clear ht
    go_enter Tryz.func26,Tryz.ntmps26
    go_wp2_with (go_at_call 21;refine(in_any _ _ _ _).mono ?_;rintro e w' ⟨rfl,rfl⟩)
    go_ret
    exact⟨ret_int (by simp only[eventE,if_pos N1.out,if_neg T1.out]),(by repeat(assumption))⟩
   ·have t1:decide (x.type<0)=false:=by simp;omega
    have t2:decide ((tn:Int)≤x.type)=true:=by simp;omega
    have t3:inB x.type 0 ((tn:Int) - 1)=false:=by rw[inB_false];omega
    clear ht
    go_enter Tryz.func26,Tryz.ntmps26
    go_wp2_with (go_at_call 21;refine(in_any _ _ _ _).mono ?_;rintro e w' ⟨rfl,rfl⟩)
    go_ret
    exact⟨ret_int (by simp only[eventE,if_pos N1.out,if_neg T1.out]),(by repeat(assumption))⟩
 ·have N1:Hid (¬ (1≤x.number∧x.number≤1048576)):=hn
  have n3:inB x.number 1 1048576=false:=inB_false.2 hn
  by_cases hn0:x.number<1
  ·have n1:decide (x.number<1)=true:=by simp;omega
   clear hn
   go_enter Tryz.func26,Tryz.ntmps26
   go_wp2_with (go_at_call 21;refine(in_any _ _ _ _).mono ?_;rintro e w' ⟨rfl,rfl⟩)
   go_ret
   exact⟨ret_int (by simp only[eventE,if_neg N1.out]),(by repeat(assumption))⟩
  ·have n1:decide (x.number<1)=false:=by simp;omega
   have n2:decide ((1048576:Int)<x.number)=true:=by simp;omega
   clear hn
   go_enter Tryz.func26,Tryz.ntmps26
   go_wp2_with (go_at_call 21;refine(in_any _ _ _ _).mono ?_;rintro e w' ⟨rfl,rfl⟩)
   go_ret
   exact⟨ret_int (by simp only[eventE,if_neg N1.out]),(by repeat(assumption))⟩
end Go.Proofs.YtfahleafppfkaaaGreatDoor
/-
  Lists of events checked against a book, in plain Lean; their rows of cells.
-/
namespace Go.Proofs.YtfahleafppfkaaaGreatDoor
open Go.RowKit
set_option linter.unusedVariables false
set_option linter.unusedSimpArgs false
theorem s_skipU{P:Program}{opsl rest:List Oper}{w:World}{Q:Act→Prop}{dst:Option Tmp}{op:Op}{oty:TypeId}{pos:String}{after:Array Edge}{gi:Nat}{want:Bool}{t:Tmp}{l l' :List Value}{ds:List Deferred}[ho:NthO opsl gi t][hv:Nth l t undef][hp:PutI l dst undef l'](h:wpStill P opsl.toArray w Q rest ⟨l'.toArray,ds⟩):wpStill P opsl.toArray w Q (⟨dst,op,oty,pos,after,some (gi,want)⟩::rest) ⟨l.toArray,ds⟩:=
 wpStill_step fun K hK=>by
  have hn: ¬ Region.wanted (⟨dst,op,oty,pos,after,some (gi,want)⟩:Oper) (yielded opsl.toArray l.toArray)=true:=by
   obtain⟨o',h2,h3⟩:=ho.at_
   have h1:=hv.nth
   simp only[Region.wanted,yielded,List.getElem?_toArray,h2,Option.bind_some,h3,h1]
   cases want<;>simp[undef]
  rw[if_neg hn];refine hK _ ?_;rw[hp.put];exact h
structure Eve where
 e:Evt
 vals:List Val
instance :Inhabited Evt:=⟨⟨0,0,0,0⟩⟩
instance :Inhabited Eve:=⟨⟨default,[]⟩⟩
def evesE(ts:List Typ)(l:List Eve)(i:Nat):Int:=
 if eventE ts (l.getD i default).e (l.getD i default).vals≠0 then eventE ts (l.getD i default).e (l.getD i default).vals
 else if 0<i∧((l.getD i default).e.number≤(l.getD (i - 1) default).e.number∨(l.getD i default).e.stop<(l.getD (i - 1) default).e.stop)then 9 else 0
def eventsE(b:Bok)(l:List Eve):Int:=
 if bookE b≠0 then bookE b else if 120<l.length then 1 else firstN (evesE b.types l) l.length
def eveF(F:Nat→Prop)(w:World)(row:List Value)(x:Eve):Prop:= ∃ ao n cap,row=[.int .i64 x.e.number,.int .i64 x.e.type,.int .i64 x.e.start,.int .i64 x.e.stop,.slice ao n cap]∧SlF F w 3 (plainF valC) ao n cap x.vals
theorem eveF_firm:Firm eveF:=fun F G w w' row x hs ⟨ao,n,cap,h1,h2⟩=>⟨ao,n,cap,h1,h2.same (plainF_firm _) hs⟩
theorem size_eve:SizeIs Tryz.prog 65 5:=fun w=>by kernel_rfl
theorem stEve:StT Tryz.prog 65 5:=⟨by kernel_rfl,_,Tryz.underlying65,rfl⟩
theorem zeEve:ZeroT Tryz.prog 65 [.int .i64 0,.int .i64 0,.int .i64 0,.int .i64 0,.slice none 0 0]:=⟨by kernel_rfl⟩
theorem oneVals:OneT Tryz.prog 63:=⟨by kernel_rfl,_,Tryz.underlying63,rfl⟩
instance iStEve:StI Tryz.prog 65 5:=⟨stEve⟩
instance iZeEve:ZeI Tryz.prog 65 [.int .i64 0,.int .i64 0,.int .i64 0,.int .i64 0,.slice none 0 0]:=⟨zeEve⟩
instance iOneVals:OneI Tryz.prog 63:=⟨oneVals⟩
def eveOk(x:Eve):Prop:= ∀ v∈x.vals,v.text.size≤maxLen
theorem val_R{F:Nat→Prop}{w:World}{ao:Option Addr}{n cap:Nat}{vs:List Val}(h:SlF F w 3 (plainF valC) ao n cap vs)(hb: ∀ v∈vs,v.text.size≤maxLen):SlR w 3 valR ao n cap vs:=by
 obtain⟨h1,h2,h3,h4,h5⟩:=h.toR
 refine⟨h1,h2,h3,h4,fun i hi=>?_⟩
 obtain⟨b,off,row,e,hl,hr,hx⟩:=h5 i hi
 exact⟨b,off,row,e,hl,hr,hx,hb _ (List.getElem_mem hi)⟩
theorem typ_R{F:Nat→Prop}{w:World}{ao:Option Addr}{n cap:Nat}{ts:List Typ}(h:SlF F w 2 typF ao n cap ts)(hb: ∀ t∈ts,typOk t):SlR w 2 typR ao n cap ts:=by
 obtain⟨h1,h2,h3,h4,h5⟩:=h.toR
 refine⟨h1,h2,h3,h4,fun i hi=>?_⟩
 obtain⟨b,off,row,e,hl,hr,a1,n1,c1,hx,hf⟩:=h5 i hi
 have ht:=hb _ (List.getElem_mem hi)
 exact⟨b,off,row,e,hl,hr,a1,n1,c1,hx,ht.1,fld_R hf ht.2⟩
end Go.Proofs.YtfahleafppfkaaaGreatDoor
/-
  DERIVED: THE SHELF's CONTRACTS AT THIS DUMP, IN PLAIN WORDS (tools/lay-plain.mjs out of 'TrydShelf.lean', which tools/lay-shelf.mjs wrote): THE SAME DECLARATIONS UNDER THE SAME NAMES: 'import', 'namespace', 'open', 'def', 'theorem' AND NOTHING ELSE: no command of the shelf's: FOR A HAND-IN. Each laying: the table of numbers ('.._ren') and one theorem, a field a fact of the dump's own or the kernel's comparison; each contract: ONE APPLICATION.
-/
namespace Go.Proofs
open Go.Shelf
def Tryz.lays106_ren:Go.Shelf.Ren:=⟨fun|106=>155|213=>171|265=>180|n=>n,fun|9=>9|3=>3|n=>n,fun|n=>n⟩
theorem Tryz.lays106:Go.Proofs.Lays.n106 Tryz.prog Tryz.lays106_ren:={
 mixed:=by kernel_rfl
 f106:=Tryz.func155.trans (congrArg some (by kernel_rfl))
 f213:=Tryz.func171.trans (congrArg some (by kernel_rfl))
 f265:=Tryz.func180.trans (congrArg some (by kernel_rfl))
 t3:=Tryz.underlying3
 a3:=Tryz.isAgg3
 z3:=Tryz.sizeOf3
 v3:=Tryz.zeroValue3
 t9:=Tryz.underlying9
 a9:=Tryz.isAgg9
 z9:=Tryz.sizeOf9
 v9:=Tryz.zeroValue9}
open Go.RowKit in
theorem Tryz.strings_Compare(a b:ByteArray)(w:World):
  Calls Tryz.prog 155 #[.string a,.string b] w fun e w' =>e= .returned (.int .i64 (Lib.compareBytes a.data.toList b.data.toList))∧w' =w:=Any.strings_Compare Tryz.lays106 a b w
end Go.Proofs
