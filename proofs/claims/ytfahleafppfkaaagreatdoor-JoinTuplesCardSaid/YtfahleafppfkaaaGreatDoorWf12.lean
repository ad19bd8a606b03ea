/-
  The walks of sift: a side of a comparison.
-/
import Derived.Test.YtfahleafppfkaaaGreatDoorWf11
import Derived.Test.YtfahleafppfkaaaGreatDoorWf09
namespace Go.Proofs.YtfahleafppfkaaaGreatDoor
open Go.RowKit
set_option linter.unusedVariables false
set_option linter.unusedSimpArgs false
variable {F G:Nat→Prop} {w0:World} {zv:Nat} {v:VA} {ts:List Typ} {wh:List Pat} {names:List ByteArray} {known:List Eve} {me:Eve}
theorem View.owns(h:View F w0 zv v ts names known me):w0.rangeAt zv 1 [.int .i64 me.e.number,.int .i64 me.e.type,.int .i64 me.e.start,.int .i64 me.e.stop,.slice v.p v.q v.r]:=fun j x hj=>by
  have key:(v.cells me.e)[1+j]?=some x:=by
    rcases j with _|_|_|_|_|j
    · simpa[VA.cells]using hj
    · simpa[VA.cells]using hj
    · simpa[VA.cells]using hj
    · simpa[VA.cells]using hj
    · simpa[VA.cells]using hj
    · simp at hj
  have:=h.cells (1+j) x key
  rwa[Nat.zero_add]at this
theorem sideX_own{o:Opd}(h:o.kind≠3):sideX wh known me o=me:=by unfold sideX;rw[if_neg h]
theorem sideV_look{o:Opd}(h:o.kind≠1):sideV ts wh known me o=fldV ts (sideX wh known me o) o.field:=by unfold sideV;rw[if_neg h]
set_option maxRecDepth 8000 in
set_option maxHeartbeats 4000000 in
theorem viewSide_one(V:View F w0 zv v ts names known me)(o:Opd)(hk:o.kind=1):
    Calls Tryz.prog 118 #[.pointer (some ⟨zv,0,none⟩),.agg (opdC o).toArray] w0 fun e w' =>e= .returned (valR3 (sideV ts wh known me o))∧Below w0.heap.size w0 w' :=by
  have M:=Mem.begin V.lt ⟨0,0⟩
  have HV:Hid (sideV ts wh known me o=⟨o.vkind,o.vint,o.vtext⟩):=by show _=_;unfold sideV;rw[if_pos hk]
  unfold opdC
  rw[hk]
  clear V hk
  go_enter Tryz.func118,Tryz.ntmps118
  go_wp2_with (with_reducible (first|(refine wB (L:=[]) M ?_;clear M;intro za w1 M)|(refine wV M ?_;clear M;intro zr w M)|refine wq M ?_|(refine wS M ?_;clear M;intro w M)))
  ((with_reducible refine body_id ?_);(refine q_ret M Tryz.results118 (by rfl) ?_))
  rw[HV.out]
  exact⟨rfl,M.new⟩
set_option maxRecDepth 8000 in
set_option maxHeartbeats 4000000 in
theorem viewSide_own(V:View F w0 zv v ts names known me)(o:Opd)(hk:o.kind=2)(hx:EvGood ts me)(hf:fldAt (evT ts me).fields o.field<(evT ts me).fields.length):
    Calls Tryz.prog 118 #[.pointer (some ⟨zv,0,none⟩),.agg (opdC o).toArray] w0 fun e w' =>e= .returned (valR3 (sideV ts wh known me o))∧Below w0.heap.size w0 w' :=by
  have M:=Mem.begin V.lt ⟨0,0⟩
  have HV:Hid (sideV ts wh known me o=fldV ts me o.field):=by show _=_;rw[sideV_look (by omega),sideX_own (by omega)]
  have HVO:Hid (∀ wx,Below w0.heap.size w0 wx→wx.rangeAt zv 1 [.int .i64 me.e.number,.int .i64 me.e.type,.int .i64 me.e.start,.int .i64 me.e.stop,.slice v.p v.q v.r]):=fun wx hb=>(V.below hb).owns
  have HL:Hid (∀ wx,Below w0.heap.size w0 wx→Calls Tryz.prog 156 #[.pointer (some ⟨zv,0,none⟩),.agg #[.int .i64 me.e.number,.int .i64 me.e.type,.int .i64 me.e.start,.int .i64 me.e.stop,.slice v.p v.q v.r],.string o.field] wx fun e w' =>e= .returned (valR3 (fldV ts me o.field))∧Below wx.heap.size wx w'):=fun wx hb=>look_any (V.below hb) me v.p v.q v.r (V.below hb).vals V.okO hx o.field hf
  unfold opdC
  rw[hk]
  unfold valR3 at HL ⊢
  clear V hk hx hf
  go_enter Tryz.func118,Tryz.ntmps118
  go_wp2_with (with_reducible (first|(refine wB (L:=[]) M ?_;clear M;intro za w1 M)|(refine wV M ?_;clear M;intro zr w M)|refine wq M ?_))
  ((refine wp_region_still_tail 7 (by kernel_rfl) (by kernel_rfl) ?_);(simp only[List.take_succ_cons,List.take_zero,List.drop_succ_cons,List.drop_zero]);(change wpStill _ _ (World.drew _) (fun a' =>wpList _ _ _ _ a' (World.drew _)) _ _);replace M:=M.drew;generalize World.drew _=wd at M ⊢;(repeat(first|((with_reducible refine s_list rfl fun K hK=>?_);refine s_load ?_;(first|(refine q_at (HVO.out _ M.new) (by rfl) ?_)|refine q_get M (by exact rfl) ?_);refine⟨rfl,hK _ ?_⟩;clear hK K)|((with_reducible refine s_list rfl fun K hK=>?_);refine s_pure ?_;go_simp;refine hK _ ?_;clear hK K)));(refine wpStill_nil ?_))
  go_wp2_with (first|(go_at_call 156;with_reducible refine(HL.out _ M.new).mono ?_;rintro e w5 ⟨rfl,hb5⟩;replace M:=M.below hb5;clear hb5)|(with_reducible (refine wS M ?_;clear M;intro w M)))
  ((with_reducible refine body_id ?_);(refine q_ret M Tryz.results118 (by rfl) ?_))
  rw[HV.out]
  exact⟨rfl,M.new⟩
set_option maxRecDepth 8000 in
set_option maxHeartbeats 4000000 in
theorem viewSide_other(V:View F w0 zv v ts names known me)(hN:names=vars (wh.take known.length))(hle:known.length≤wh.length)(o:Opd)(hk:o.kind=3)(hi:patI wh o.var<known.length)(hx:EvGood ts (sideX wh known me o))(hf:fldAt (evT ts (sideX wh known me o)).fields o.field<(evT ts (sideX wh known me o)).fields.length):
    Calls Tryz.prog 118 #[.pointer (some ⟨zv,0,none⟩),.agg (opdC o).toArray] w0 fun e w' =>e= .returned (valR3 (sideV ts wh known me o))∧Below w0.heap.size w0 w' :=by
  have M:=Mem.begin V.lt ⟨0,0⟩
  have hsx:sideX wh known me o=known[patI wh o.var]:=by unfold sideX;rw[if_pos hk];simp[List.getD,List.getElem?_eq_getElem hi]
  rw[hsx]at hx hf
  have HV:Hid (sideV ts wh known me o=fldV ts known[patI wh o.var] o.field):=by show _=_;rw[sideV_look (by omega),hsx]
  have hnl:names.length=known.length:=by rw[hN];unfold vars;rw[List.length_map,List.length_take];omega
  have NN:=V.named.len
  have NK:=V.knows.len
  have HV6:Hid (∀ wx,Below w0.heap.size w0 wx→wx.cell? ⟨zv,6,none⟩=some (.slice v.an v.nn v.cn)):=fun wx hb=>(V.below hb).cells 6 _ rfl
  have HV7:Hid (∀ wx,Below w0.heap.size w0 wx→wx.cell? ⟨zv,7,none⟩=some (.slice v.a3 v.n3 v.c3)):=fun wx hb=>(V.below hb).cells 7 _ rfl
  obtain⟨ck,ok,rowk,hixk, -,hrrk,hwk⟩:=SlF.rowAt (P:=Tryz.prog) V.knows eveF_firm Tryz.underlying26 size_eve (i:=patI wh o.var) hi
  obtain⟨p1,q1,s1,ek,uk⟩:=hrrk
  subst ek
  have HRK:=Lib.hid (fun wx hb=>(hwk wx hb).1)
  have HL:Hid (∀ wx,Below w0.heap.size w0 wx→Calls Tryz.prog 156 #[.pointer (some ⟨zv,0,none⟩),.agg #[.int .i64 known[patI wh o.var].e.number,.int .i64 known[patI wh o.var].e.type,.int .i64 known[patI wh o.var].e.start,.int .i64 known[patI wh o.var].e.stop,.slice p1 q1 s1],.string o.field] wx fun e w' =>e= .returned (valR3 (fldV ts known[patI wh o.var] o.field))∧Below wx.heap.size wx w'):=fun wx hb=>
    look_any (V.below hb) known[patI wh o.var] p1 q1 s1 (uk.below (plainF_firm _) hb) (V.okK _ (List.getElem_mem hi)) hx o.field hf
  have HNM:Hid (∀ j (hj:j<names.length),sameS names[j] o.var=decide (j=patI wh o.var)∨patI wh o.var<j):=fun j hj=>by
    have hjw:j<wh.length:=by omega
    have e:names[j]=wh[j].var:=by subst hN;simp[vars]
    rw[e]
    rcases Nat.lt_trichotomy j (patI wh o.var)with h|h|h
    · left
      have:=List.not_of_lt_findIdx (p:=fun p:Pat=>sameS p.var o.var) (xs:=wh) (i:=j) h
      rw[show decide (j=patI wh o.var)=false by simp;omega]
      simpa using this
    · left
      have h2:=List.findIdx_getElem (p:=fun p:Pat=>sameS p.var o.var) (xs:=wh) (w:=by show patI wh o.var<_;omega)
      rw[show decide (j=patI wh o.var)=true by simp[h]]
      have h3:wh[j]=wh[wh.findIdx (fun p=>sameS p.var o.var)]'(by show patI wh o.var<_;omega):=by congr 1
      rw[h3]
      exact h2
    · exact .inr h
  have hjn:patI wh o.var<v.nn:=by omega
  have HNS:=Lib.hid V.named
  have HNN:Hid (v.nn=names.length):=NN
  generalize fldV ts known[patI wh o.var] o.field=y at HL HV
  generalize known[patI wh o.var]=x at HL HRK
  generalize patI wh o.var=J at *
  have hle7:=V.named.le
  unfold opdC
  rw[hk]
  unfold valR3 at HL ⊢
  clear V hk hx hf uk hwk hsx hi hN hle hnl NN NK
  go_enter Tryz.func118,Tryz.ntmps118
  go_wp2_with (with_reducible (first|(refine wB (L:=[]) M ?_;clear M;intro za w1 M)|(refine wV M ?_;clear M;intro zr w M)|refine wq M ?_|refine wC (HV6.out _ M.new) ?_))
  go_loopg [28] v.nn (fun f i wr=> ∃ (j:Nat),j+f=v.nn∧j≤J∧i= .int .i64 j∧Mem (StaysB zv w0) zv w0 wr ⟨0,0⟩ (own zr [.int .i64 0,.int .i64 0,.string ByteArray.empty] 72::own za [.int .i64 3,.int .i64 o.vkind,.int .i64 o.vint,.string o.vtext,.string o.var,.string o.field] 74::[]))
  case atStart=>exact⟨0,by omega,by omega,rfl,M⟩
  case round=>
    clear M
    obtain⟨j,hj,hjJ,rfl,M⟩:=hrel
    have hlt:j<v.nn:=by omega
    have hjl:j<names.length:=by have:=HNN.out;omega
    obtain⟨cs,os,rows,hixs, -,hrrs,hws⟩:=SlF.rowAt (P:=Tryz.prog) HNS.out wordF_firm Tryz.underlying125 size_word (i:=j) hjl
    have es:rows=[.string names[j]]:=hrrs
    subst es
    have HY0:Hid (∀ wx,Below w0.heap.size w0 wx→wx.cell? ⟨cs,os,none⟩=some (.string names[j])):=fun wx hb=>(hws wx hb).1 0 _ rfl
    have hsm:=(HNM.out j hjl).resolve_right (by omega)
    clear hws hrrs
    generalize names[j]=nm at HY0 hsm
    by_cases he:j=J
    · have hsb:(nm.toList==o.var.toList)=true:=by
                                                          have h:sameS nm o.var=true:=by rw[hsm];simp[he]
                                                          exact h
      subst he
      clear hsm hjJ hjl
      go_wp2_with (with_reducible (first|refine wq M ?_|refine wC (HY0.out _ M.new) ?_))
      ((refine wp_region_still_tail 10 (by kernel_rfl) (by kernel_rfl) ?_);(simp only[List.take_succ_cons,List.take_zero,List.drop_succ_cons,List.drop_zero]);(change wpStill _ _ (World.drew _) (fun a' =>wpList _ _ _ _ a' (World.drew _)) _ _);replace M:=M.drew;generalize World.drew _=wd at M ⊢;(repeat(first|((with_reducible refine s_list rfl fun K hK=>?_);refine s_load ?_;(first|(refine q_cellat (HV7.out _ M.new) ?_)|(refine q_at (HRK.out _ M.new) (by rfl) ?_)|refine q_get M (by exact rfl) ?_);refine⟨rfl,hK _ ?_⟩;clear hK K)|((with_reducible refine s_list rfl fun K hK=>?_);refine s_pure ?_;go_simp;refine hK _ ?_;clear hK K)));(refine wpStill_nil ?_))
      go_wp2_with (first|(go_at_call 156;with_reducible refine(HL.out _ M.new).mono ?_;rintro e w5 ⟨rfl,hb5⟩;replace M:=M.below hb5;clear hb5)|(with_reducible (refine wS M ?_;clear M;intro w M)))
      ((with_reducible refine body_id ?_);(refine q_ret M Tryz.results118 (by rfl) ?_))
      rw[HV.out]
      exact⟨rfl,M.new⟩
    · have hsb:(nm.toList==o.var.toList)=false:=by
                                                           have h:sameS nm o.var=false:=by rw[hsm];simp[he]
                                                           exact h
      have hjJ2:j+1≤J:=by omega
      clear hsm hjJ hjl he
      go_wp2_with (with_reducible (first|refine wq M ?_|refine wC (HY0.out _ M.new) ?_))
      go_roundg (v.nn - (j+1))
      case measure=>omega
      case rel=>exact⟨j+1,by omega,hjJ2,by go_num,M⟩
theorem viewSide_any(V:View F w0 zv v ts names known me)(hN:names=vars (wh.take known.length))(hle:known.length≤wh.length)(o:Opd)(hG:SideGood ts wh known me o):
    Calls Tryz.prog 118 #[.pointer (some ⟨zv,0,none⟩),.agg (opdC o).toArray] w0 fun e w' =>e= .returned (valR3 (sideV ts wh known me o))∧Below w0.heap.size w0 w' :=by
  rcases hG with h|⟨h|⟨h,hi⟩,hx,hf⟩
  · exact viewSide_one V o h
  · rw[sideX_own (by omega)]at hx hf
    exact viewSide_own V o h hx hf
  · exact viewSide_other V hN hle o h hi hx hf
end Go.Proofs.YtfahleafppfkaaaGreatDoor
/-
  The walks of the reference's BookFault, sixth part: patterns. Printed by chkf.py.
-/
namespace Go.Proofs.YtfahleafppfkaaaGreatDoor
open Go.RowKit
set_option linter.unusedVariables false
set_option linter.unusedSimpArgs false
theorem size_str:SizeIs Tryz.prog 9 1:=fun w=>by kernel_rfl
section
variable {g:Nat} {F G H S:Nat→Prop} {ao:Option Addr} {n cap:Nat} {bo:Option Addr} {m bcap:Nat} {lo:Option Addr} {an acap:Nat} {so:Option Addr} {sn scap:Nat} {w0:World} {ts:List Typ} {known:List Pat} {ahead:List ByteArray}
set_option maxRecDepth 8000 in
set_option maxHeartbeats 4000000 in
theorem patFault_name(hg:g<w0.heap.size)(hX:SlF F w0 2 typF ao n cap ts)(hts: ∀ t∈ts,typOk t)(hY:SlF G w0 18 patF bo m bcap known)(hkn: ∀ p∈known,typI ts p.type<ts.length)(hA:SlF H w0 1 wordF lo an acap ahead)(p:Pat)(hS:SlF S w0 14 CondF so sn scap p.wher.subs)(hv:p.var.size≤maxLen)(hok:CondOk p.wher)(part:Nat)(hp:part≤2)(h0:freeE p.var≠0):
  Calls Tryz.prog 109 #[.slice ao n cap,.slice bo m bcap,.slice lo an acap,.agg (pat18 p so sn scap).toArray,.int .i64 part] w0 fun e w' =>e= .returned (.int .i64 (patE ts known ahead p part))∧Below w0.heap.size w0 w' :=by
 have M:=Mem.begin hg ⟨0,0⟩
 have hleA:=hA.le
 have NA:=Lib.hid hA.len
 have HAA:=Lib.hid hA
 have HFN:Hid (∀ wx,Below w0.heap.size w0 wx→Calls Tryz.prog 108 #[.string p.var] wx fun e w' =>e= .returned (.int .i64 (freeE p.var))∧Below wx.heap.size wx w'):=fun wx hbx=>freeName_any p.var wx hv
 have HTN:Hid (∀ wx,Below w0.heap.size w0 wx→Calls Tryz.prog 66 #[.slice ao n cap,.string p.type] wx fun e w' =>e= .returned (.int .i64 (placeV (typI ts p.type) ts.length))∧Below wx.heap.size wx w'):=fun wx hbx=>
  typeNamed_any (Nat.lt_of_lt_of_le hg hbx.size) (hX.below typF_firm hbx) p.type
 have HV:Hid (patE ts known ahead p part=freeE p.var):=by show _=_;unfold patE;rw[if_pos h0]
 rw[HV.out]
 have hb:(freeE p.var !=0)=true:=by simpa using h0
 generalize freeE p.var=q at HFN hb
 unfold pat18
 clear hg hX hts hY hkn hA hS hv hok hp h0 HV
 go_enter Tryz.func109,Tryz.ntmps109
 go_wp2_with (first|(with_reducible (first|(refine wB (L:=[]) M ?_;clear M;intro za w1 M)|refine wq M ?_))|(go_at_call 108;with_reducible refine(HFN.out _ M.new).mono ?_;rintro e w5 ⟨rfl,hb5⟩;replace M:=M.below hb5;clear hb5))
 go_ret
 exact⟨rfl,M.new⟩
set_option maxRecDepth 8000 in
set_option maxHeartbeats 4000000 in
theorem patFault_twice(hg:g<w0.heap.size)(hX:SlF F w0 2 typF ao n cap ts)(hts: ∀ t∈ts,typOk t)(hY:SlF G w0 18 patF bo m bcap known)(hkn: ∀ p∈known,typI ts p.type<ts.length)(hA:SlF H w0 1 wordF lo an acap ahead)(p:Pat)(hS:SlF S w0 14 CondF so sn scap p.wher.subs)(hv:p.var.size≤maxLen)(hok:CondOk p.wher)(part:Nat)(hp:part≤2)(h0:freeE p.var=0)(hin:inS ahead p.var=true):
  Calls Tryz.prog 109 #[.slice ao n cap,.slice bo m bcap,.slice lo an acap,.agg (pat18 p so sn scap).toArray,.int .i64 part] w0 fun e w' =>e= .returned (.int .i64 (patE ts known ahead p part))∧Below w0.heap.size w0 w' :=by
 have M:=Mem.begin hg ⟨0,0⟩
 have hleA:=hA.le
 have NA:=Lib.hid hA.len
 have HAA:=Lib.hid hA
 have HFN:Hid (∀ wx,Below w0.heap.size w0 wx→Calls Tryz.prog 108 #[.string p.var] wx fun e w' =>e= .returned (.int .i64 (freeE p.var))∧Below wx.heap.size wx w'):=fun wx hbx=>freeName_any p.var wx hv
 have HTN:Hid (∀ wx,Below w0.heap.size w0 wx→Calls Tryz.prog 66 #[.slice ao n cap,.string p.type] wx fun e w' =>e= .returned (.int .i64 (placeV (typI ts p.type) ts.length))∧Below wx.heap.size wx w'):=fun wx hbx=>
  typeNamed_any (Nat.lt_of_lt_of_le hg hbx.size) (hX.below typF_firm hbx) p.type
 have HV:Hid (patE ts known ahead p part=7):=by show _=_;unfold patE;rw[if_neg (by omega),if_pos hin]
 rw[HV.out]
 rw[h0]at HFN
 have HIN:=Lib.hid hin
 unfold pat18
 clear hg hX hts hY hkn hA hS hv hok hp h0 HV hin
 go_enter Tryz.func109,Tryz.ntmps109
 go_wp2_with (first|(with_reducible (first|(refine wB (L:=[]) M ?_;clear M;intro za w1 M)|refine wq M ?_))|(go_at_call 108;with_reducible refine(HFN.out _ M.new).mono ?_;rintro e w5 ⟨rfl,hb5⟩;replace M:=M.below hb5;clear hb5))
 go_loopw [12] (fun i wr=> ∃ j:Nat,j≤an∧i= .int .i64 j∧Mem (StaysB g w0) g w0 wr ⟨0,0⟩ (own za [.string p.var,.string p.type,.int .i64 p.wher.kind,.slice so sn scap,.int .i64 p.wher.left.kind,.int .i64 p.wher.left.vkind,.int .i64 p.wher.left.vint,.string p.wher.left.vtext,.string p.wher.left.var,.string p.wher.left.field,.int .i64 p.wher.right.kind,.int .i64 p.wher.right.vkind,.int .i64 p.wher.right.vint,.string p.wher.right.vtext,.string p.wher.right.var,.string p.wher.right.field,.int .i64 p.window,.int .i64 p.n] 78::[])∧Hid (NoB ahead (fun x=>sameS x p.var) j)) (fun i _=>an - (intOf i).toNat)
 case atStart=>exact⟨0,by omega,rfl,M,noB_zero _ _⟩
 case round=>
  clear M
  obtain⟨j,hj,rfl,M,HB⟩:=hrel
  by_cases hlt:j<an
  ·have hkl:j<ahead.length:=by have:=NA.out;omega
   obtain⟨ca,oa,rowa,hixa, -,hrra,hwa⟩:=SlF.rowAt (P:=Tryz.prog) HAA.out wordF_firm Tryz.underlying125 size_str (i:=j) hkl
   have e1:rowa=[.string ahead[j]]:=hrra
   subst e1
   have HA0:Hid (∀ wx,Below w0.heap.size w0 wx→wx.cell? ⟨ca,oa,none⟩=some (.string ahead[j])):=fun wx hb=>(hwa wx hb).1 0 _ rfl
   have HP:Hid (∀ b,sameS ahead[j] p.var=b→(ahead[j].toList==p.var.toList)=b):=fun b h=>h
   have HT:Hid (sameS ahead[j] p.var=false→NoB ahead (fun x=>sameS x p.var) (j+1)):=fun h=>noB_succ HB.out hkl h
   have HN:Hid (sameS ahead[j] p.var=true→inS ahead p.var=true):=fun h=>List.any_eq_true.2 ⟨_,List.getElem_mem hkl,h⟩
   clear hwa hrra HB
   generalize ahead[j]=x at HA0 HP HT HN
   cases hsm:sameS x p.var with
   |true=>
    have hq:=HP.out _ hsm
    clear HP HT HN hsm
    go_wp2_with (with_reducible (first|refine wq M ?_|(refine wS M ?_;clear M;intro w M)|(refine wV M ?_;clear M;intro z w M)|(refine wR M ?_;clear M;intro q w M)))
    ((refine wp_region_still_lit (by kernel_rfl) (by kernel_rfl) ?_);(change wpStill _ _ (World.drew _) _ _ _);replace M:=M.drew;(repeat(first|((with_reducible refine s_list rfl fun K hK=>?_);refine s_load ?_;(first|(refine q_cellat (HA0.out _ M.new) ?_)|refine q_get M (by exact rfl) ?_);refine⟨rfl,hK _ ?_⟩;clear hK K)|((with_reducible refine s_list rfl fun K hK=>?_);refine s_pure ?_;go_simp;refine hK _ ?_;clear hK K)));(refine wpStill_nil ?_))
    go_wp2_with (with_reducible (first|refine wq M ?_|(refine wS M ?_;clear M;intro w M)|(refine wV M ?_;clear M;intro z w M)|(refine wR M ?_;clear M;intro q w M)))
    go_ret
    exact⟨rfl,M.new⟩
   |false=>
    have hq:=HP.out _ hsm
    have HV2:=Lib.hid (HT.out hsm)
    clear HP HT HN hsm
    go_wp2_with (with_reducible (first|refine wq M ?_|(refine wS M ?_;clear M;intro w M)|(refine wV M ?_;clear M;intro z w M)|(refine wR M ?_;clear M;intro q w M)))
    ((refine wp_region_still_lit (by kernel_rfl) (by kernel_rfl) ?_);(change wpStill _ _ (World.drew _) _ _ _);replace M:=M.drew;(repeat(first|((with_reducible refine s_list rfl fun K hK=>?_);refine s_load ?_;(first|(refine q_cellat (HA0.out _ M.new) ?_)|refine q_get M (by exact rfl) ?_);refine⟨rfl,hK _ ?_⟩;clear hK K)|((with_reducible refine s_list rfl fun K hK=>?_);refine s_pure ?_;go_simp;refine hK _ ?_;clear hK K)));(refine wpStill_nil ?_))
    go_wp2_with (with_reducible (first|refine wq M ?_|(refine wS M ?_;clear M;intro w M)|(refine wV M ?_;clear M;intro z w M)|(refine wR M ?_;clear M;intro q w M)))
    go_roundw
    case rel=>exact⟨j+1,by omega,by go_num,M,HV2⟩
    case measure=>simp[intOf];omega
  ·exact absurd HIN.out (by rw[Bool.not_eq_true];exact List.any_eq_false.2 (fun x hx=>by obtain⟨q,hq,rfl⟩:=List.mem_iff_getElem.1 hx;have e:sameS ahead[q] p.var=false:=HB.out q hq (by have:=NA.out;omega);rw[e];simp))
set_option maxRecDepth 8000 in
set_option maxHeartbeats 4000000 in
theorem patFault_none(hg:g<w0.heap.size)(hX:SlF F w0 2 typF ao n cap ts)(hts: ∀ t∈ts,typOk t)(hY:SlF G w0 18 patF bo m bcap known)(hkn: ∀ p∈known,typI ts p.type<ts.length)(hA:SlF H w0 1 wordF lo an acap ahead)(p:Pat)(hS:SlF S w0 14 CondF so sn scap p.wher.subs)(hv:p.var.size≤maxLen)(hok:CondOk p.wher)(part:Nat)(hp:part≤2)(h0:freeE p.var=0)(hin:inS ahead p.var=false)(ht:ts.length≤typI ts p.type):
  Calls Tryz.prog 109 #[.slice ao n cap,.slice bo m bcap,.slice lo an acap,.agg (pat18 p so sn scap).toArray,.int .i64 part] w0 fun e w' =>e= .returned (.int .i64 (patE ts known ahead p part))∧Below w0.heap.size w0 w' :=by
 have M:=Mem.begin hg ⟨0,0⟩
 have hleA:=hA.le
 have NA:=Lib.hid hA.len
 have HAA:=Lib.hid hA
 have HFN:Hid (∀ wx,Below w0.heap.size w0 wx→Calls Tryz.prog 108 #[.string p.var] wx fun e w' =>e= .returned (.int .i64 (freeE p.var))∧Below wx.heap.size wx w'):=fun wx hbx=>freeName_any p.var wx hv
 have HTN:Hid (∀ wx,Below w0.heap.size w0 wx→Calls Tryz.prog 66 #[.slice ao n cap,.string p.type] wx fun e w' =>e= .returned (.int .i64 (placeV (typI ts p.type) ts.length))∧Below wx.heap.size wx w'):=fun wx hbx=>
  typeNamed_any (Nat.lt_of_lt_of_le hg hbx.size) (hX.below typF_firm hbx) p.type
 have HV:Hid (patE ts known ahead p part=6):=by show _=_;unfold patE;rw[if_neg (by omega),hin,if_neg (by simp),if_pos ht]
 rw[HV.out]
 rw[h0]at HFN
 have hpv:placeV (typI ts p.type) ts.length= -1:=by unfold placeV;rw[if_neg (by omega)]
 rw[hpv]at HTN
 unfold pat18
 clear hg hX hts hY hkn hA hS hv hok hp h0 HV ht hpv
 go_enter Tryz.func109,Tryz.ntmps109
 go_wp2_with (first|(with_reducible (first|(refine wB (L:=[]) M ?_;clear M;intro za w1 M)|refine wq M ?_))|(go_at_call 108;with_reducible refine(HFN.out _ M.new).mono ?_;rintro e w5 ⟨rfl,hb5⟩;replace M:=M.below hb5;clear hb5))
 go_loopw [12] (fun i wr=> ∃ j:Nat,j≤an∧i= .int .i64 j∧Mem (StaysB g w0) g w0 wr ⟨0,0⟩ (own za [.string p.var,.string p.type,.int .i64 p.wher.kind,.slice so sn scap,.int .i64 p.wher.left.kind,.int .i64 p.wher.left.vkind,.int .i64 p.wher.left.vint,.string p.wher.left.vtext,.string p.wher.left.var,.string p.wher.left.field,.int .i64 p.wher.right.kind,.int .i64 p.wher.right.vkind,.int .i64 p.wher.right.vint,.string p.wher.right.vtext,.string p.wher.right.var,.string p.wher.right.field,.int .i64 p.window,.int .i64 p.n] 78::[])∧Hid (NoB ahead (fun x=>sameS x p.var) j)) (fun i _=>an - (intOf i).toNat)
 case atStart=>exact⟨0,by omega,rfl,M,noB_zero _ _⟩
 case round=>
  clear M
  obtain⟨j,hj,rfl,M,HB⟩:=hrel
  by_cases hlt:j<an
  ·have hkl:j<ahead.length:=by have:=NA.out;omega
   obtain⟨ca,oa,rowa,hixa, -,hrra,hwa⟩:=SlF.rowAt (P:=Tryz.prog) HAA.out wordF_firm Tryz.underlying125 size_str (i:=j) hkl
   have e1:rowa=[.string ahead[j]]:=hrra
   subst e1
   have HA0:Hid (∀ wx,Below w0.heap.size w0 wx→wx.cell? ⟨ca,oa,none⟩=some (.string ahead[j])):=fun wx hb=>(hwa wx hb).1 0 _ rfl
   have HP:Hid (∀ b,sameS ahead[j] p.var=b→(ahead[j].toList==p.var.toList)=b):=fun b h=>h
   have HT:Hid (sameS ahead[j] p.var=false→NoB ahead (fun x=>sameS x p.var) (j+1)):=fun h=>noB_succ HB.out hkl h
   have HN:Hid (sameS ahead[j] p.var=true→inS ahead p.var=true):=fun h=>List.any_eq_true.2 ⟨_,List.getElem_mem hkl,h⟩
   clear hwa hrra HB
   generalize ahead[j]=x at HA0 HP HT HN
   cases hsm:sameS x p.var with
   |true=>
    rw[HN.out hsm]at hin;cases hin
   |false=>
    have hq:=HP.out _ hsm
    have HV2:=Lib.hid (HT.out hsm)
    clear HP HT HN hsm
    go_wp2_with (with_reducible (first|refine wq M ?_|(refine wS M ?_;clear M;intro w M)|(refine wV M ?_;clear M;intro z w M)|(refine wR M ?_;clear M;intro q w M)))
    ((refine wp_region_still_lit (by kernel_rfl) (by kernel_rfl) ?_);(change wpStill _ _ (World.drew _) _ _ _);replace M:=M.drew;(repeat(first|((with_reducible refine s_list rfl fun K hK=>?_);refine s_load ?_;(first|(refine q_cellat (HA0.out _ M.new) ?_)|refine q_get M (by exact rfl) ?_);refine⟨rfl,hK _ ?_⟩;clear hK K)|((with_reducible refine s_list rfl fun K hK=>?_);refine s_pure ?_;go_simp;refine hK _ ?_;clear hK K)));(refine wpStill_nil ?_))
    go_wp2_with (with_reducible (first|refine wq M ?_|(refine wS M ?_;clear M;intro w M)|(refine wV M ?_;clear M;intro z w M)|(refine wR M ?_;clear M;intro q w M)))
    go_roundw
    case rel=>exact⟨j+1,by omega,by go_num,M,HV2⟩
    case measure=>simp[intOf];omega
  ·go_wp2_with (first|(with_reducible refine wq M ?_)|(go_at_call 66;with_reducible refine(HTN.out _ M.new).mono ?_;rintro e w5 ⟨rfl,hb5⟩;replace M:=M.below hb5;clear hb5))
   go_ret
   exact⟨rfl,M.new⟩
end
end Go.Proofs.YtfahleafppfkaaaGreatDoor
