/-
  The walks of the reference's BookFault, second part: the sides of a comparison. Printed by chkb.py.
-/
import Derived.Test.YtncmghnhfipklaaGreatDoorPu16
namespace Go.Proofs.YtncmghnhfipklaaGreatDoor
open Go.RowKit
set_option linter.unusedVariables false
set_option linter.unusedSimpArgs false
theorem fld_R{F:Nat→Prop}{w:World}{ao:Option Addr}{n cap:Nat}{fs:List Fld}(h:SlF F w 2 (plainF fldC) ao n cap fs)(hb: ∀ f∈fs,f.name.size≤maxLen):SlR w 2 fldR ao n cap fs:=by
 obtain⟨h1,h2,h3,h5,h4⟩:=h
 refine⟨h1,h2,h3,h5,fun i hi=>?_⟩
 obtain⟨b,off,row,e,hF,hlt,hr,hR⟩:=h4 i hi
 exact⟨b,off,row,e,hlt,hr,hR,hb _ (List.getElem_mem hi)⟩
def typOk(t:Typ):Prop:=t.name.size≤maxLen∧ ∀ f∈t.fields,f.name.size≤maxLen
def SidePost(ts:List Typ)(known:List Pat)(own:Typ)(o:Opd)(w:World):Ending→World→Prop:=fun e w' =>
 ∃ k,e= .returned (.tuple #[.int .i64 k,.int .i64 (sideE ts known own o)])∧Below w.heap.size w w' ∧(sideE ts known own o=0→k=sideK ts known own o)
theorem side_out{ts:List Typ}{known:List Pat}{own:Typ}{o:Opd}{w w' :World}{k e:Int}(hb:Below w.heap.size w w')(he:sideE ts known own o=e)(hk:e=0→k=sideK ts known own o):
  SidePost ts known own o w (.returned (.tuple #[.int .i64 k,.int .i64 e])) w' :=⟨k,by rw[he],hb,fun h=>hk (he▸h)⟩
section
variable {g:Nat} {F G H:Nat→Prop} {ao:Option Addr} {n cap:Nat} {bo:Option Addr} {m bcap:Nat} {oo:Option Addr} {k ocap:Nat} {w0:World} {ts:List Typ} {known:List Pat} {own:Typ}
set_option maxRecDepth 8000 in
set_option maxHeartbeats 4000000 in
theorem sideKind_bad(hg:g<w0.heap.size)(o:Opd)(hk: ¬ (1≤o.kind∧o.kind≤3)):
  Calls Tryz.prog 87 #[.slice ao n cap,.slice bo m bcap,.agg #[.string own.name,.slice oo k ocap],.agg (opdC o).toArray] w0 (SidePost ts known own o w0):=by
 have hin:inB o.kind 1 3=false:=by rw[inB_false];exact hk
 have M:=Mem.begin hg ⟨0,0⟩
 have HV:Hid (sideE ts known own o=3):=by show _=_;unfold sideE;rw[if_pos hk]
 unfold opdC
 clear hg hk
 go_enter Tryz.func87,Tryz.ntmps87
 go_wp2_with (first|(with_reducible (first|(refine wB (L:=[]) M ?_;clear M;intro za w1 M)|(refine wB M ?_;clear M;intro zb w2 M)|refine wq M ?_|(refine wS M ?_;clear M;intro w M)|(refine wV M ?_;clear M;intro z w M)))|(go_at_call 14;refine(in_any _ _ _ _).mono ?_;rintro e w4 ⟨rfl,rfl⟩;(try rw[hin])))
 go_ret2
 exact side_out M.new HV.out (fun h=>absurd h (by decide))
set_option maxRecDepth 8000 in
set_option maxHeartbeats 4000000 in
theorem sideKind_one(hg:g<w0.heap.size)(o:Opd)(hk:o.kind=1)(hs:o.vtext.size≤maxLen):
  Calls Tryz.prog 87 #[.slice ao n cap,.slice bo m bcap,.agg #[.string own.name,.slice oo k ocap],.agg (opdC o).toArray] w0 (SidePost ts known own o w0):=by
 have hin:inB o.kind 1 3=true:=by rw[inB_true,hk];omega
 have M:=Mem.begin hg ⟨0,0⟩
 have HVF:=Lib.hid (fun wx=>valFault_any o.vkind o.vint o.vtext wx hs)
 have HV:Hid (sideE ts known own o=if opdBad o=true then 4 else valE ⟨o.vkind,o.vint,o.vtext⟩):=by
  show _=_
  unfold sideE
  rw[if_neg (by omega),if_neg (by omega),hk,if_pos rfl]
 have HK:Hid (sideK ts known own o=o.vkind):=by show _=_;unfold sideK;rw[if_pos hk]
 have HB:Hid (opdBad o=(!emS o.var||!emS o.field)):=by show _=_;unfold opdBad;rw[hk];simp
 unfold opdC
 rw[hk]at hin ⊢
 clear hg hk hs
 generalize o.vkind=vk at HVF HV HK
 generalize valE ⟨vk,o.vint,o.vtext⟩=q at HVF HV
 go_enter Tryz.func87,Tryz.ntmps87
 go_wp2_with (first|(with_reducible (first|(refine wB (L:=[]) M ?_;clear M;intro za w1 M)|(refine wB M ?_;clear M;intro zb w2 M)|refine wq M ?_|(refine wS M ?_;clear M;intro w M)|(refine wV M ?_;clear M;intro z w M)))|(go_at_call 14;refine(in_any _ _ _ _).mono ?_;rintro e w4 ⟨rfl,rfl⟩;(try rw[hin])))
 ·(refine wp_region_any (by kernel_rfl) ?_;(try(change wpAny _ _ _ _ _ _ _ (World.drew _)));replace M:=M.drew;generalize World.drew _=w at M ⊢;have S:=St.o;((refine tk 0 (v:=?_) rfl (by kernel_rfl) rfl ?_ ?_;rotate_left;focus(intro w;go_simp;try with_reducible rfl));(try go_simp);(refine tk 1 (v:=?_) rfl (by kernel_rfl) rfl ?_ ?_;rotate_left;focus(intro w;go_simp;try with_reducible rfl));(try go_simp);(refine tk 3 (v:=?_) rfl (by kernel_rfl) rfl ?_ ?_;rotate_left;focus(intro w;go_simp;try with_reducible rfl));(try go_simp);replace S:=S.add 11;refine rd2 2 4 (by kernel_rfl) rfl rfl ?_ rfl rfl ?_<;>intro K hK);all_goals(first|(refine o_dst (some 71) ?_;(refine q_get M (by exact rfl) ?_);(all_goals(refine hK _ _ ?_;clear hK K;replace S:=S.add 4)))|(refine o_dst (some 73) ?_;(refine q_prt M (by rfl) ?_);(all_goals(refine hK _ _ ?_;clear hK K;replace S:=S.add 16))));all_goals(first|(replace S:St 15:=S;refine rd1 4 (by kernel_rfl) rfl rfl ?_<;>intro K hK)|(replace S:St 27:=S;refine rd2 2 5 (by kernel_rfl) rfl rfl ?_ rfl rfl ?_<;>intro K hK));all_goals(first|(refine o_dst (some 73) ?_;(refine q_prt M (by rfl) ?_);(all_goals(refine hK _ _ ?_;clear hK K;replace S:=S.add 16)))|(refine o_dst (some 71) ?_;(refine q_get M (by exact rfl) ?_);(all_goals(refine hK _ _ ?_;clear hK K;replace S:=S.add 4)))|(refine o_dst (some 74) ?_;(refine owp_of ?_;go_simp;(go_at_call 101;with_reducible refine(HVF.out _).mono ?_;rintro e w5 ⟨rfl,hb5⟩;replace M:=M.below hb5;clear hb5);(try go_simp));(all_goals(refine hK _ _ ?_;clear hK K;replace S:=S.add 32))));all_goals(first|(replace S:St 31:=S;refine rd1 5 (by kernel_rfl) rfl rfl ?_<;>intro K hK)|(replace S:St 59:=S;refine rd1 2 (by kernel_rfl) rfl rfl ?_<;>intro K hK));all_goals(first|(refine o_dst (some 74) ?_;(refine owp_of ?_;go_simp;(go_at_call 101;with_reducible refine(HVF.out _).mono ?_;rintro e w5 ⟨rfl,hb5⟩;replace M:=M.below hb5;clear hb5);(try go_simp));(all_goals(refine hK _ _ ?_;clear hK K;replace S:=S.add 32)))|(refine o_dst (some 71) ?_;(refine q_get M (by exact rfl) ?_);(all_goals(refine hK _ _ ?_;clear hK K;replace S:=S.add 4))));all_goals(clear S;((refine tk 6 (v:=?_) rfl (by kernel_rfl) rfl ?_ ?_;rotate_left;focus(intro w;go_simp;try with_reducible rfl));(try go_simp);(refine tk 7 (v:=?_) rfl (by kernel_rfl) rfl ?_ ?_;rotate_left;focus(intro w;go_simp;try with_reducible rfl));(try go_simp);refine wpAny_done (by kernel_rfl) ?_ _)))
  all_goals go_wp2
  all_goals
   go_ret2
   exact side_out M.new (by rw[HV.out,HB.out];simp[emS, *]) (fun _=>HK.out.symm)
 ·go_ret2
  exact side_out M.new (by rw[HV.out,HB.out];simp[emS, *]) (fun h=>absurd h (by decide))
 ·go_ret2
  exact side_out M.new (by rw[HV.out,HB.out];simp[emS, *]) (fun h=>absurd h (by decide))
theorem side_look{o:Opd}(h1:1≤o.kind∧o.kind≤3)(hn:o.kind≠1)(h3:o.kind=3→patI known o.var<known.length):
  sideE ts known own o=if opdBad o=true then 4 else if fldAt (sideT ts known own o).fields o.field<(sideT ts known own o).fields.length then 0 else 6:=by
 unfold sideE
 rw[if_neg (by omega),if_neg (fun h=>by have:=h3 h.1;omega)]
 by_cases hb:opdBad o=true
 ·rw[if_pos hb,if_pos hb]
 ·rw[if_neg hb,if_neg hb,if_neg hn]
theorem atI_some{fs:List Fld}{nm:ByteArray}(h:fldAt fs nm<fs.length):atI fs nm=(fldAt fs nm:Nat):=by unfold atI;rw[if_pos h]
theorem atI_none{fs:List Fld}{nm:ByteArray}(h: ¬ fldAt fs nm<fs.length):atI fs nm= -1:=by unfold atI;rw[if_neg h]
set_option maxRecDepth 8000 in
set_option maxHeartbeats 4000000 in
theorem sideKind_two(hg:g<w0.heap.size)(o:Opd)(hk:o.kind=2)(hO:SlF H w0 2 (plainF fldC) oo k ocap own.fields)(hb: ∀ f∈own.fields,f.name.size≤maxLen):
  Calls Tryz.prog 87 #[.slice ao n cap,.slice bo m bcap,.agg #[.string own.name,.slice oo k ocap],.agg (opdC o).toArray] w0 (SidePost ts known own o w0):=by
 have hin:inB o.kind 1 3=true:=by rw[inB_true,hk];omega
 have M:=Mem.begin hg ⟨0,0⟩
 have HFA:Hid (∀ wx,Below w0.heap.size w0 wx→Calls Tryz.prog 85 #[.agg #[.string own.name,.slice oo k ocap],.string o.field] wx fun e w' =>e= .returned (.int .i64 (atI own.fields o.field))∧Below wx.heap.size wx w'):=fun wx hbx=>
  fieldAt_any own.name oo k ocap own.fields o.field wx (fld_R (hO.below (plainF_firm _) hbx) hb)
 have hT:sideT ts known own o=own:=by unfold sideT;rw[if_neg (by omega)]
 have HV:=side_look (ts:=ts) (known:=known) (own:=own) (o:=o) (by omega) (by omega) (fun h=>by omega)
 rw[hT]at HV
 have HB:Hid (opdBad o=(!emS o.var||!valZ o)):=by show _=_;unfold opdBad;rw[hk];simp
 have HK:Hid (sideK ts known own o=(own.fields.getD (fldAt own.fields o.field) default).kind):=by show _=_;unfold sideK;rw[if_neg (by omega),hT]
 have HV:=Lib.hid HV
 have HO:=Lib.hid hO
 have hlen:=hO.len
 have hle:=hO.le
 have NL:=Lib.hid hlen
 unfold opdC
 rw[hk]at hin ⊢
 by_cases hf:fldAt own.fields o.field<own.fields.length
 ·have HA:=Lib.hid (atI_some hf)
  have HF:=Lib.hid hf
  obtain⟨ca,oa,rowa,hixa, -,hrra,hwa⟩:=SlF.rowAt (P:=Tryz.prog) hO (plainF_firm _) Tryz.underlying49 size_fld (i:=fldAt own.fields o.field) hf
  have e1:rowa=fldC own.fields[fldAt own.fields o.field]:=hrra
  subst e1
  have HC1:Hid (∀ wx,Below w0.heap.size w0 wx→wx.cell? ⟨ca,oa+1,none⟩=some (.int .i64 own.fields[fldAt own.fields o.field].kind)):=fun wx hbx=>(hwa wx hbx).1 1 _ rfl
  have HKV:Hid (own.fields[fldAt own.fields o.field].kind=sideK ts known own o):=by show _=_;rw[HK.out,List.getD_eq_getElem?_getD,List.getElem?_eq_getElem hf];rfl
  generalize own.fields[fldAt own.fields o.field].kind=kd at HC1 HKV
  have hfn:(fldAt own.fields o.field:Int)<k:=by have:=NL.out;omega
  have hfp:(0:Int)≤(fldAt own.fields o.field:Nat):=by omega
  rw[HA.out]at HFA
  have HS:Hid (sideE ts known own o=if opdBad o=true then 4 else 0):=by show _=_;rw[HV.out,if_pos hf]
  generalize fldAt own.fields o.field=fi at HFA hixa hfn hfp
  clear hg hk hO hb hT HV hlen hf hwa hrra HK HA HF
  go_enter Tryz.func87,Tryz.ntmps87
  go_wp2_with (first|(with_reducible (first|(refine wB (L:=[]) M ?_;clear M;intro za w1 M)|(refine wB M ?_;clear M;intro zb w2 M)|refine wq M ?_|(refine wS M ?_;clear M;intro w M)|(refine wV M ?_;clear M;intro z w M)|refine wC (HC1.out _ M.new) ?_))|(go_at_call 14;refine(in_any _ _ _ _).mono ?_;rintro e w4 ⟨rfl,rfl⟩;(try rw[hin]))|(go_at_call 85;with_reducible refine(HFA.out _ M.new).mono ?_;rintro e w5 ⟨rfl,hb5⟩;replace M:=M.below hb5;clear hb5))
  ·go_ret2
   exact side_out M.new (by rw[HS.out,HB.out];simp[emS,valZ, *]) (fun _=>HKV.out)
  all_goals
   go_ret2
   exact side_out M.new (by rw[HS.out,HB.out];simp[emS,valZ, *]) (fun h=>absurd h (by decide))
 ·have HA:=Lib.hid (atI_none hf)
  rw[HA.out]at HFA
  have HS:Hid (sideE ts known own o=if opdBad o=true then 4 else 6):=by show _=_;rw[HV.out,if_neg hf]
  clear hg hk hO hb hT HV hlen hf HK HA
  go_enter Tryz.func87,Tryz.ntmps87
  go_wp2_with (first|(with_reducible (first|(refine wB (L:=[]) M ?_;clear M;intro za w1 M)|(refine wB M ?_;clear M;intro zb w2 M)|refine wq M ?_|(refine wS M ?_;clear M;intro w M)|(refine wV M ?_;clear M;intro z w M)))|(go_at_call 14;refine(in_any _ _ _ _).mono ?_;rintro e w4 ⟨rfl,rfl⟩;(try rw[hin]))|(go_at_call 85;with_reducible refine(HFA.out _ M.new).mono ?_;rintro e w5 ⟨rfl,hb5⟩;replace M:=M.below hb5;clear hb5))
  all_goals
   go_ret2
   exact side_out M.new (by rw[HS.out,HB.out];simp[emS,valZ, *]) (fun h=>absurd h (by decide))
set_option maxRecDepth 8000 in
set_option maxHeartbeats 8000000 in
theorem sideKind_three(hg:g<w0.heap.size)(o:Opd)(hk:o.kind=3)(hX:SlF F w0 2 typF ao n cap ts)(hts: ∀ t∈ts,typOk t)(hY:SlF G w0 18 patF bo m bcap known)(hkn: ∀ p∈known,typI ts p.type<ts.length):
  Calls Tryz.prog 87 #[.slice ao n cap,.slice bo m bcap,.agg #[.string own.name,.slice oo k ocap],.agg (opdC o).toArray] w0 (SidePost ts known own o w0):=by
 have hin:inB o.kind 1 3=true:=by rw[inB_true,hk];omega
 have M:=Mem.begin hg ⟨0,0⟩
 have HPN:Hid (∀ wx,Below w0.heap.size w0 wx→Calls Tryz.prog 59 #[.slice bo m bcap,.string o.var] wx fun e w' =>e= .returned (.int .i64 (placeV (patI known o.var) known.length))∧Below wx.heap.size wx w'):=fun wx hbx=>
  patternNamed_any (Nat.lt_of_lt_of_le hg hbx.size) (hY.below patF_firm hbx) o.var
 have hleX:=hX.le
 have hleY:=hY.le
 have NX:=Lib.hid hX.len
 have NY:=Lib.hid hY.len
 by_cases hf:patI known o.var<known.length
 ·have hT:sideT ts known own o=typAt ts known[patI known o.var].type:=by unfold sideT;rw[if_pos hk,List.getD_eq_getElem?_getD,List.getElem?_eq_getElem hf];rfl
  have HV:=side_look (ts:=ts) (known:=known) (own:=own) (o:=o) (by omega) (by omega) (fun h=>hf)
  have HB:Hid (opdBad o=!valZ o):=by show _=_;unfold opdBad;rw[hk];simp
  have HPV:placeV (patI known o.var) known.length=(patI known o.var:Nat):=by unfold placeV;rw[if_pos hf]
  rw[HPV]at HPN
  have htl:typI ts known[patI known o.var].type<ts.length:=hkn _ (List.getElem_mem hf)
  obtain⟨cp,op,rowp,hixp, -,hrrp,hwp⟩:=SlF.rowAt (P:=Tryz.prog) hY patF_firm Tryz.underlying40 size_pat (i:=patI known o.var) hf
  obtain⟨p1,q1,s1,ep,u1⟩:=hrrp
  subst ep
  have HP1:Hid (∀ wx,Below w0.heap.size w0 wx→wx.cell? ⟨cp,op+1,none⟩=some (.string known[patI known o.var].type)):=fun wx hbx=>(hwp wx hbx).1 1 _ rfl
  have HTN:Hid (∀ wx,Below w0.heap.size w0 wx→Calls Tryz.prog 29 #[.slice ao n cap,.string known[patI known o.var].type] wx fun e w' =>e= .returned (.int .i64 (typI ts known[patI known o.var].type:Nat))∧Below wx.heap.size wx w'):=fun wx hbx=>by
   have h:=typeNamed_any (Nat.lt_of_lt_of_le hg hbx.size) (hX.below typF_firm hbx) known[patI known o.var].type
   unfold placeV at h
   rw[if_pos htl]at h
   exact h
  generalize known[patI known o.var].type=ptype at hT HP1 HTN htl
  have hfn:(patI known o.var:Int)<m:=by have:=NY.out;omega
  generalize patI known o.var=pi at HPN hixp hfn
  obtain⟨ct,ot,rowt,hixt, -,hrrt,hwt⟩:=SlF.rowAt (P:=Tryz.prog) hX typF_firm Tryz.underlying22 size_typ (i:=typI ts ptype) htl
  obtain⟨t1,t2,t3,et,ut⟩:=hrrt
  subst et
  have HT0:Hid (∀ wx,Below w0.heap.size w0 wx→wx.rangeAt ct ot [.string ts[typI ts ptype].name,.slice t1 t2 t3]):=fun wx hbx=>(hwt wx hbx).1
  have hTT:typAt ts ptype=ts[typI ts ptype]:=by unfold typAt;rw[List.getD_eq_getElem?_getD,List.getElem?_eq_getElem htl];rfl
  rw[hTT]at hT
  have hok:typOk ts[typI ts ptype]:=hts _ (List.getElem_mem htl)
  have htn:(typI ts ptype:Int)<n:=by have:=NX.out;omega
  generalize ts[typI ts ptype]=tt at hT HT0 ut hok
  generalize typI ts ptype=ti at HTN hixt htn
  rw[hT]at HV
  have HK:Hid (sideK ts known own o=(tt.fields.getD (fldAt tt.fields o.field) default).kind):=by show _=_;unfold sideK;rw[if_neg (by omega),hT]
  have HFA:Hid (∀ wx,Below w0.heap.size w0 wx→Calls Tryz.prog 85 #[.agg #[.string tt.name,.slice t1 t2 t3],.string o.field] wx fun e w' =>e= .returned (.int .i64 (atI tt.fields o.field))∧Below wx.heap.size wx w'):=fun wx hbx=>
   fieldAt_any tt.name t1 t2 t3 tt.fields o.field wx (fld_R (ut.below (plainF_firm _) hbx) hok.2)
  have HV:=Lib.hid HV
  have hlet:=ut.le
  have NT:=Lib.hid ut.len
  unfold opdC
  rw[hk]at hin ⊢
  by_cases hff:fldAt tt.fields o.field<tt.fields.length
  ·have HA:=Lib.hid (atI_some hff)
   obtain⟨ca,oa,rowa,hixa, -,hrra,hwa⟩:=SlF.rowAt (P:=Tryz.prog) ut (plainF_firm _) Tryz.underlying49 size_fld (i:=fldAt tt.fields o.field) hff
   have e1:rowa=fldC tt.fields[fldAt tt.fields o.field]:=hrra
   subst e1
   have HC1:Hid (∀ wx,Below w0.heap.size w0 wx→wx.cell? ⟨ca,oa+1,none⟩=some (.int .i64 tt.fields[fldAt tt.fields o.field].kind)):=fun wx hbx=>(hwa wx hbx).1 1 _ rfl
   have HKV:Hid (tt.fields[fldAt tt.fields o.field].kind=sideK ts known own o):=by show _=_;rw[HK.out,List.getD_eq_getElem?_getD,List.getElem?_eq_getElem hff];rfl
   generalize tt.fields[fldAt tt.fields o.field].kind=kd at HC1 HKV
   have hfn2:(fldAt tt.fields o.field:Int)<t2:=by have:=NT.out;omega
   rw[HA.out]at HFA
   have HS:Hid (sideE ts known own o=if opdBad o=true then 4 else 0):=by show _=_;rw[HV.out,if_pos hff]
   generalize fldAt tt.fields o.field=fi at HFA hixa hfn2
   clear hg hk hX hY hkn hts hT HV hf hff hwa hrra HK HA hwp hwt u1 ut hok htl hTT HPV
   go_enter Tryz.func87,Tryz.ntmps87
   go_wp2_with (first|(with_reducible (first|(refine wB (L:=[]) M ?_;clear M;intro za w1 M)|(refine wB M ?_;clear M;intro zb w2 M)|refine wq M ?_|(refine wS M ?_;clear M;intro w M)|(refine wV M ?_;clear M;intro z w M)|refine wC (HC1.out _ M.new) ?_|refine wC (HP1.out _ M.new) ?_|refine wA (HT0.out _ M.new) ?_))|(go_at_call 14;refine(in_any _ _ _ _).mono ?_;rintro e w4 ⟨rfl,rfl⟩;(try rw[hin]))|(go_at_call 59;with_reducible refine(HPN.out _ M.new).mono ?_;rintro e w5 ⟨rfl,hb5⟩;replace M:=M.below hb5;clear hb5)|(go_at_call 29;with_reducible refine(HTN.out _ M.new).mono ?_;rintro e w5 ⟨rfl,hb5⟩;replace M:=M.below hb5;clear hb5)|(go_at_call 85;with_reducible refine(HFA.out _ M.new).mono ?_;rintro e w5 ⟨rfl,hb5⟩;replace M:=M.below hb5;clear hb5))
   ·go_ret2
    exact side_out M.new (by rw[HS.out,HB.out];simp[emS,valZ, *]) (fun _=>HKV.out)
   all_goals
    go_ret2
    exact side_out M.new (by rw[HS.out,HB.out];simp[emS,valZ, *]) (fun h=>absurd h (by decide))
  ·have HA:=Lib.hid (atI_none hff)
   rw[HA.out]at HFA
   have HS:Hid (sideE ts known own o=if opdBad o=true then 4 else 6):=by show _=_;rw[HV.out,if_neg hff]
   clear hg hk hX hY hkn hts hT HV hf hff HK HA hwp hwt u1 ut hok htl hTT HPV
   go_enter Tryz.func87,Tryz.ntmps87
   go_wp2_with (first|(with_reducible (first|(refine wB (L:=[]) M ?_;clear M;intro za w1 M)|(refine wB M ?_;clear M;intro zb w2 M)|refine wq M ?_|(refine wS M ?_;clear M;intro w M)|(refine wV M ?_;clear M;intro z w M)|refine wC (HP1.out _ M.new) ?_|refine wA (HT0.out _ M.new) ?_))|(go_at_call 14;refine(in_any _ _ _ _).mono ?_;rintro e w4 ⟨rfl,rfl⟩;(try rw[hin]))|(go_at_call 59;with_reducible refine(HPN.out _ M.new).mono ?_;rintro e w5 ⟨rfl,hb5⟩;replace M:=M.below hb5;clear hb5)|(go_at_call 29;with_reducible refine(HTN.out _ M.new).mono ?_;rintro e w5 ⟨rfl,hb5⟩;replace M:=M.below hb5;clear hb5)|(go_at_call 85;with_reducible refine(HFA.out _ M.new).mono ?_;rintro e w5 ⟨rfl,hb5⟩;replace M:=M.below hb5;clear hb5))
   all_goals
    go_ret2
    exact side_out M.new (by rw[HS.out,HB.out];simp[emS,valZ, *]) (fun h=>absurd h (by decide))
 ·have HPV:placeV (patI known o.var) known.length= -1:=by unfold placeV;rw[if_neg hf]
  rw[HPV]at HPN
  have HS:Hid (sideE ts known own o=6):=by show _=_;unfold sideE;rw[if_neg (by omega),if_pos ⟨hk,by omega⟩]
  unfold opdC
  rw[hk]at hin ⊢
  clear hg hk hX hY hkn hts hf HPV
  go_enter Tryz.func87,Tryz.ntmps87
  go_wp2_with (first|(with_reducible (first|(refine wB (L:=[]) M ?_;clear M;intro za w1 M)|(refine wB M ?_;clear M;intro zb w2 M)|refine wq M ?_|(refine wS M ?_;clear M;intro w M)|(refine wV M ?_;clear M;intro z w M)))|(go_at_call 14;refine(in_any _ _ _ _).mono ?_;rintro e w4 ⟨rfl,rfl⟩;(try rw[hin]))|(go_at_call 59;with_reducible refine(HPN.out _ M.new).mono ?_;rintro e w5 ⟨rfl,hb5⟩;replace M:=M.below hb5;clear hb5))
  go_ret2
  exact side_out M.new HS.out (fun h=>absurd h (by decide))
theorem sideKind_any(hg:g<w0.heap.size)(o:Opd)(hs:o.vtext.size≤maxLen)(hX:SlF F w0 2 typF ao n cap ts)(hts: ∀ t∈ts,typOk t)(hY:SlF G w0 18 patF bo m bcap known)(hkn: ∀ p∈known,typI ts p.type<ts.length)
  (hO:SlF H w0 2 (plainF fldC) oo k ocap own.fields)(hown:typOk own):
  Calls Tryz.prog 87 #[.slice ao n cap,.slice bo m bcap,.agg #[.string own.name,.slice oo k ocap],.agg (opdC o).toArray] w0 (SidePost ts known own o w0):=by
 by_cases hk:1≤o.kind∧o.kind≤3
 ·rcases(by omega:o.kind=1∨o.kind=2∨o.kind=3)with h|h|h
  ·exact sideKind_one hg o h hs
  ·exact sideKind_two hg o h hO hown.2
  ·exact sideKind_three hg o h hX hts hY hkn
 ·exact sideKind_bad hg o hk
end
end Go.Proofs.YtncmghnhfipklaaGreatDoor
/-
  The walks of the reference's BookFault, third part: conditions. Printed by chkc.py.
-/
namespace Go.Proofs.YtncmghnhfipklaaGreatDoor
open Go.RowKit
set_option linter.unusedVariables false
set_option linter.unusedSimpArgs false
inductive CondOk:Cond→Prop where
 |mk {k:Int} {subs:List Cond} {l r:Opd} (hl:l.vtext.size≤maxLen) (hr:r.vtext.size≤maxLen) (hs: ∀ s∈subs,CondOk s):CondOk (.mk k subs l r)
theorem CondOk.left{c:Cond}(h:CondOk c):c.left.vtext.size≤maxLen:=by cases h;assumption
theorem CondOk.right{c:Cond}(h:CondOk c):c.right.vtext.size≤maxLen:=by cases h;assumption
theorem CondOk.subs{c:Cond}(h:CondOk c): ∀ s∈c.subs,CondOk s:=by cases h;assumption
def CndPostR(r:Int×Int)(w:World):Ending→World→Prop:=fun e w' =>
 ∃ k,e= .returned (.tuple #[.int .i64 k,.int .i64 r.2])∧Below w.heap.size w w' ∧(r.2=0→k=r.1)
theorem cnd_out{r:Int×Int}{w w' :World}{k e:Int}(hb:Below w.heap.size w w')(he:r.2=e)(hk:e=0→k=r.1):
  CndPostR r w (.returned (.tuple #[.int .i64 k,.int .i64 e])) w' :=⟨k,by rw[he],hb,fun h=>hk (he▸h)⟩
section
variable {g:Nat} {F G H S:Nat→Prop} {ao:Option Addr} {n cap:Nat} {bo:Option Addr} {m bcap:Nat} {oo:Option Addr} {k ocap:Nat} {so:Option Addr} {sn scap:Nat} {w0:World} {ts:List Typ} {known:List Pat} {own:Typ}
set_option maxRecDepth 8000 in
set_option maxHeartbeats 4000000 in
theorem noCondition_any(hg:g<w0.heap.size)(c:Cond)(hS:SlF S w0 14 CondF so sn scap c.subs):
  Calls Tryz.prog 83 #[.agg (cnd14 c.kind so sn scap c.left c.right).toArray] w0 fun e w' =>e= .returned (.bool (noC c))∧Below w0.heap.size w0 w' :=by
 have M:=Mem.begin hg ⟨0,0⟩
 have hle:=hS.le
 have NL:=Lib.hid hS.len
 have HV:Hid (noC c=(c.kind==0&&decide ((sn:Int)=0)&&opdZ c.left&&opdZ c.right)):=by show _=_;unfold noC;rw[NL.out];simp
 unfold cnd14
 clear hg hS
 go_enter Tryz.func83,Tryz.ntmps83
 go_wp2_with (with_reducible (first|(refine wB (L:=[]) M ?_;clear M;intro za w1 M)|refine wq M ?_))
 all_goals
  go_ret
  exact⟨ret_bool' (by rw[HV.out];simp[opdZ,valZ,emS, *]),M.new⟩
theorem condR_kind{f:Nat}{c:Cond}(h: ¬ (1≤c.kind∧c.kind≤7)):condR ts known own f c=(0,3):=by
 cases f<;>(unfold condR;rw[if_neg h])
theorem condR_deep{c:Cond}(h:1≤c.kind∧c.kind≤7):condR ts known own 0 c=(0,14):=by unfold condR;rw[if_pos h]
theorem condR_test{f:Nat}{c:Cond}(h:4≤c.kind∧c.kind≤7):condR ts known own (f+1) c=(1,testE ts known own c):=by unfold condR;rw[if_pos ⟨by omega,h.2⟩,if_pos h.1]
theorem condR_tree{f:Nat}{c:Cond}(h:1≤c.kind∧c.kind≤3):condR ts known own (f+1) c=if condForm c=true then(0,4)else condL (condR ts known own f) c.subs 0:=by unfold condR;rw[if_pos ⟨h.1,by omega⟩,if_neg (by omega)]
theorem condL_bound{q:Cond→Int×Int}(hq: ∀ c,(q c).2=0→0≤(q c).1∧(q c).1≤12): ∀ (l:List Cond) (s:Int),0≤s∧s≤12→(condL q l s).2=0→0≤(condL q l s).1∧(condL q l s).1≤12
 |[],s,h,_=>h
 |c::r,s,h,he=>by
  unfold condL at he ⊢
  by_cases h1:(q c).2≠0
  ·rw[if_pos h1]at he
   exact absurd he h1
  ·rw[if_neg h1]at he ⊢
   by_cases h2:12<s+(q c).1
   ·rw[if_pos h2]at he
    cases he
   ·rw[if_neg h2]at he ⊢
    have:=hq c (Classical.byContradiction h1)
    exact condL_bound hq r _ (by omega) he
theorem condR_bound: ∀ (f:Nat) (c:Cond),(condR ts known own f c).2=0→0≤(condR ts known own f c).1∧(condR ts known own f c).1≤12
 |0,c,h=>by
  by_cases hk:1≤c.kind∧c.kind≤7
  ·rw[condR_deep hk]at h;cases h
  ·rw[condR_kind hk]at h;cases h
 |f+1,c,h=>by
  by_cases hk:1≤c.kind∧c.kind≤7
  ·by_cases h4:4≤c.kind
   ·rw[condR_test ⟨h4,hk.2⟩]
    show(0:Int)≤1∧(1:Int)≤12
    decide
   ·rw[condR_tree ⟨hk.1,by omega⟩]at h ⊢
    by_cases hc:condForm c=true
    ·rw[if_pos hc]at h;cases h
    ·rw[if_neg hc]at h ⊢
     exact condL_bound (condR_bound f) _ _ (by decide) h
  ·rw[condR_kind hk]at h;cases h
set_option maxRecDepth 8000 in
set_option maxHeartbeats 4000000 in
theorem condFault_kind(hg:g<w0.heap.size)(hX:SlF F w0 2 typF ao n cap ts)(hts: ∀ t∈ts,typOk t)(hY:SlF G w0 18 patF bo m bcap known)(hkn: ∀ p∈known,typI ts p.type<ts.length)(hO:SlF H w0 2 (plainF fldC) oo k ocap own.fields)(hown:typOk own)(c:Cond)(d:Int)(f:Nat)(hk: ¬ (1≤c.kind∧c.kind≤7)):
  Calls Tryz.prog 84 #[.slice ao n cap,.slice bo m bcap,.agg #[.string own.name,.slice oo k ocap],.agg (cnd14 c.kind so sn scap c.left c.right).toArray,.int .i64 d] w0 (CndPostR (condR ts known own f c) w0):=by
 have hin:inB c.kind 1 7=false:=by rw[inB_false];exact hk
 have M:=Mem.begin hg ⟨0,0⟩
 rw[condR_kind hk]
 unfold cnd14
 clear hg hk hX hY hts hkn hO hown
 go_enter Tryz.func84,Tryz.ntmps84
 go_wp2_with (first|(with_reducible (first|(refine wB (L:=[]) M ?_;clear M;intro za w1 M)|(refine wB M ?_;clear M;intro zb w2 M)|refine wq M ?_))|(go_at_call 14;refine(in_any _ _ _ _).mono ?_;rintro e w4 ⟨rfl,rfl⟩;(try rw[hin])))
 go_ret2
 exact cnd_out M.new rfl (fun h=>absurd h (by decide))
set_option maxRecDepth 8000 in
set_option maxHeartbeats 4000000 in
theorem condFault_deep(hg:g<w0.heap.size)(hX:SlF F w0 2 typF ao n cap ts)(hts: ∀ t∈ts,typOk t)(hY:SlF G w0 18 patF bo m bcap known)(hkn: ∀ p∈known,typI ts p.type<ts.length)(hO:SlF H w0 2 (plainF fldC) oo k ocap own.fields)(hown:typOk own)(c:Cond)(d:Int)(hd:d=9)(hk:1≤c.kind∧c.kind≤7):
  Calls Tryz.prog 84 #[.slice ao n cap,.slice bo m bcap,.agg #[.string own.name,.slice oo k ocap],.agg (cnd14 c.kind so sn scap c.left c.right).toArray,.int .i64 d] w0 (CndPostR (condR ts known own 0 c) w0):=by
 have hin:inB c.kind 1 7=true:=by rw[inB_true];exact hk
 have M:=Mem.begin hg ⟨0,0⟩
 rw[condR_deep hk]
 unfold cnd14
 subst hd
 clear hg hk hX hY hts hkn hO hown
 go_enter Tryz.func84,Tryz.ntmps84
 go_wp2_with (first|(with_reducible (first|(refine wB (L:=[]) M ?_;clear M;intro za w1 M)|(refine wB M ?_;clear M;intro zb w2 M)|refine wq M ?_))|(go_at_call 14;refine(in_any _ _ _ _).mono ?_;rintro e w4 ⟨rfl,rfl⟩;(try rw[hin])))
 go_ret2
 exact cnd_out M.new rfl (fun h=>absurd h (by decide))
theorem testE_subs{c:Cond}(h:c.subs.length≠0):testE ts known own c=4:=by unfold testE;rw[if_pos h]
theorem testE_left{c:Cond}(h:c.subs.length=0)(h1:sideE ts known own c.left≠0):testE ts known own c=sideE ts known own c.left:=by unfold testE;rw[if_neg (by omega),if_pos h1]
theorem testE_right{c:Cond}(h:c.subs.length=0)(h1:sideE ts known own c.left=0)(h2:sideE ts known own c.right≠0):testE ts known own c=sideE ts known own c.right:=by unfold testE;rw[if_neg (by omega),if_neg (by omega),if_pos h2]
theorem testE_both{c:Cond}(h:c.subs.length=0)(h1:sideE ts known own c.left=0)(h2:sideE ts known own c.right=0):testE ts known own c=if sideK ts known own c.left=sideK ts known own c.right then 0 else 13:=by unfold testE;rw[if_neg (by omega),if_neg (by omega),if_neg (by omega)]
set_option maxRecDepth 8000 in
set_option maxHeartbeats 4000000 in
theorem condFault_test(hg:g<w0.heap.size)(hX:SlF F w0 2 typF ao n cap ts)(hts: ∀ t∈ts,typOk t)(hY:SlF G w0 18 patF bo m bcap known)(hkn: ∀ p∈known,typI ts p.type<ts.length)(hO:SlF H w0 2 (plainF fldC) oo k ocap own.fields)(hown:typOk own)(c:Cond)(hS:SlF S w0 14 CondF so sn scap c.subs)(hok:CondOk c)(d:Int)(f:Nat)(hd:1≤d∧d≤8)(hk:4≤c.kind∧c.kind≤7):
  Calls Tryz.prog 84 #[.slice ao n cap,.slice bo m bcap,.agg #[.string own.name,.slice oo k ocap],.agg (cnd14 c.kind so sn scap c.left c.right).toArray,.int .i64 d] w0 (CndPostR (condR ts known own (f+1) c) w0):=by
 have hin:inB c.kind 1 7=true:=by rw[inB_true];omega
 have M:=Mem.begin hg ⟨0,0⟩
 rw[condR_test hk]
 have hle:=hS.le
 have NL:=Lib.hid hS.len
 obtain⟨hd1,hd8⟩:=hd
 obtain⟨hk4,hk7⟩:=hk
 have HSL:Hid (∀ wx,Below w0.heap.size w0 wx→Calls Tryz.prog 87 #[.slice ao n cap,.slice bo m bcap,.agg #[.string own.name,.slice oo k ocap],.agg (opdC c.left).toArray] wx (SidePost ts known own c.left wx)):=fun wx hbx=>
  sideKind_any (Nat.lt_of_lt_of_le hg hbx.size) c.left hok.left (hX.below typF_firm hbx) hts (hY.below patF_firm hbx) hkn (hO.below (plainF_firm _) hbx) hown
 have HSR:Hid (∀ wx,Below w0.heap.size w0 wx→Calls Tryz.prog 87 #[.slice ao n cap,.slice bo m bcap,.agg #[.string own.name,.slice oo k ocap],.agg (opdC c.right).toArray] wx (SidePost ts known own c.right wx)):=fun wx hbx=>
  sideKind_any (Nat.lt_of_lt_of_le hg hbx.size) c.right hok.right (hX.below typF_firm hbx) hts (hY.below patF_firm hbx) hkn (hO.below (plainF_firm _) hbx) hown
 unfold cnd14
 unfold opdC SidePost at HSL HSR
 clear hg hX hY hts hkn hO hown hS hok
 by_cases hs:c.subs.length=0
 ·have hsn:sn=0:=by have:=NL.out;omega
  subst hsn
  by_cases h1:sideE ts known own c.left=0
  ·by_cases h2:sideE ts known own c.right=0
   ·have HV:=Lib.hid (testE_both hs h1 h2)
    simp only[h1,true_implies]at HSL
    simp only[h2,true_implies]at HSR
    generalize sideK ts known own c.left=kl at HV HSL
    generalize sideK ts known own c.right=kr at HV HSR
    clear hs h1 h2
    by_cases hkk:kl=kr
    ·subst hkk
     rw[if_pos rfl]at HV
     go_enter Tryz.func84,Tryz.ntmps84
     go_wp2_with (first|(with_reducible (first|(refine wB (L:=[]) M ?_;clear M;intro za w1 M)|(refine wB M ?_;clear M;intro zb w2 M)|refine wq M ?_))|(go_at_call 14;refine(in_any _ _ _ _).mono ?_;rintro e w4 ⟨rfl,rfl⟩;(try rw[hin]))|(go_at_call 87;with_reducible refine(HSL.out _ M.new).mono ?_;rintro e w5 ⟨kk,rfl,hb5,rfl⟩;replace M:=M.below hb5;clear hb5)|(go_at_call 87;with_reducible refine(HSR.out _ M.new).mono ?_;rintro e w5 ⟨kk,rfl,hb5,rfl⟩;replace M:=M.below hb5;clear hb5))
     go_ret2
     exact cnd_out M.new HV.out (fun _=>rfl)
    ·have hkb:(kl !=kr)=true:=by simpa using hkk
     rw[if_neg hkk]at HV
     clear hkk
     go_enter Tryz.func84,Tryz.ntmps84
     go_wp2_with (first|(with_reducible (first|(refine wB (L:=[]) M ?_;clear M;intro za w1 M)|(refine wB M ?_;clear M;intro zb w2 M)|refine wq M ?_))|(go_at_call 14;refine(in_any _ _ _ _).mono ?_;rintro e w4 ⟨rfl,rfl⟩;(try rw[hin]))|(go_at_call 87;with_reducible refine(HSL.out _ M.new).mono ?_;rintro e w5 ⟨kk,rfl,hb5,rfl⟩;replace M:=M.below hb5;clear hb5)|(go_at_call 87;with_reducible refine(HSR.out _ M.new).mono ?_;rintro e w5 ⟨kk,rfl,hb5,rfl⟩;replace M:=M.below hb5;clear hb5))
     go_ret2
     exact cnd_out M.new HV.out (fun h=>absurd h (by decide))
   ·have HV:=Lib.hid (testE_right hs h1 h2)
    simp only[h1,true_implies]at HSL
    have hb:(sideE ts known own c.right==0)=false:=by simpa using h2
    have H2:=Lib.hid h2
    generalize sideE ts known own c.right=er at HV HSR hb H2
    clear hs h1 h2
    go_enter Tryz.func84,Tryz.ntmps84
    go_wp2_with (first|(with_reducible (first|(refine wB (L:=[]) M ?_;clear M;intro za w1 M)|(refine wB M ?_;clear M;intro zb w2 M)|refine wq M ?_))|(go_at_call 14;refine(in_any _ _ _ _).mono ?_;rintro e w4 ⟨rfl,rfl⟩;(try rw[hin]))|(go_at_call 87;with_reducible refine(HSL.out _ M.new).mono ?_;rintro e w5 ⟨kk,rfl,hb5,rfl⟩;replace M:=M.below hb5;clear hb5)|(go_at_call 87;with_reducible refine(HSR.out _ M.new).mono ?_;rintro e w5 ⟨kk,rfl,hb5, -⟩;replace M:=M.below hb5;clear hb5))
    go_ret2
    exact cnd_out M.new HV.out (fun h=>absurd h H2.out)
  ·have HV:=Lib.hid (testE_left hs h1)
   have hb:(sideE ts known own c.left !=0)=true:=by simpa using h1
   have H1:=Lib.hid h1
   generalize sideE ts known own c.left=el at HV HSL hb H1
   clear hs h1
   go_enter Tryz.func84,Tryz.ntmps84
   go_wp2_with (first|(with_reducible (first|(refine wB (L:=[]) M ?_;clear M;intro za w1 M)|(refine wB M ?_;clear M;intro zb w2 M)|refine wq M ?_))|(go_at_call 14;refine(in_any _ _ _ _).mono ?_;rintro e w4 ⟨rfl,rfl⟩;(try rw[hin]))|(go_at_call 87;with_reducible refine(HSL.out _ M.new).mono ?_;rintro e w5 ⟨kk,rfl,hb5, -⟩;replace M:=M.below hb5;clear hb5))
   go_ret2
   exact cnd_out M.new HV.out (fun h=>absurd h H1.out)
 ·have HV:=Lib.hid (testE_subs (ts:=ts) (known:=known) (own:=own) hs)
  have hsn:(0:Int)<sn:=by have:=NL.out;omega
  clear hs HSL HSR
  go_enter Tryz.func84,Tryz.ntmps84
  go_wp2_with (first|(with_reducible (first|(refine wB (L:=[]) M ?_;clear M;intro za w1 M)|(refine wB M ?_;clear M;intro zb w2 M)|refine wq M ?_))|(go_at_call 14;refine(in_any _ _ _ _).mono ?_;rintro e w4 ⟨rfl,rfl⟩;(try rw[hin])))
  go_ret2
  exact cnd_out M.new HV.out (fun h=>absurd h (by decide))
end
end Go.Proofs.YtncmghnhfipklaaGreatDoor
