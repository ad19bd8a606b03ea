/-
  The walks of the reference's BookFault, first part: names, places.
-/
import Derived.Test.YtncmghnhfipklaaGreatDoorPw07
namespace Go.Proofs.YtncmghnhfipklaaGreatDoor
open Go.RowKit
set_option linter.unusedVariables false
set_option linter.unusedSimpArgs false
def NoB{α:Type}(l:List α)(p:α→Bool)(k:Nat):Prop:= ∀ j (h:j<l.length),j<k→p l[j]=false
theorem noB_zero{α:Type}(l:List α)(p:α→Bool):NoB l p 0:=fun j _ h=>absurd h (Nat.not_lt_zero j)
theorem noB_succ{α:Type}{l:List α}{p:α→Bool}{k:Nat}(h:NoB l p k)(hk:k<l.length)(hp:p l[k]=false):NoB l p (k+1):=fun j hj hjk=>by
 rcases Nat.lt_succ_iff_lt_or_eq.1 hjk with h' |rfl
 ·exact h j hj h'
 ·exact hp
theorem noB_at{α:Type}{l:List α}{p:α→Bool}{k:Nat}(h:NoB l p k)(hk:k<l.length)(hp:p l[k]=true):l.findIdx p=k:=by
 rw[List.findIdx_eq hk]
 exact⟨hp,fun j hj=>h j (by omega) hj⟩
theorem noB_none{α:Type}{l:List α}{p:α→Bool}(h:NoB l p l.length):l.findIdx p=l.length:=by
 rw[List.findIdx_eq_length]
 intro x hx
 obtain⟨j,hj,rfl⟩:=List.mem_iff_getElem.1 hx
 exact h j hj hj
def placeV(i n:Nat):Int:=if i<n then(i:Int)else -1
theorem place_at{α:Type}{l:List α}{p:α→Bool}{k:Nat}(h:NoB l p k)(hk:k<l.length)(hp:p l[k]=true):placeV (l.findIdx p) l.length=k:=by
 rw[noB_at h hk hp];unfold placeV;rw[if_pos hk]
theorem place_none{α:Type}{l:List α}{p:α→Bool}(h:NoB l p l.length):placeV (l.findIdx p) l.length= -1:=by
 rw[noB_none h];unfold placeV;rw[if_neg (by omega)]
set_option maxHeartbeats 2000000 in
theorem freeName_any(s:ByteArray)(w:World)(hs:s.size≤maxLen):
  Calls Tryz.prog 52 #[.string s] w fun e w' =>e= .returned (.int .i64 (freeE s))∧Below w.heap.size w w' :=by
 have HN:=Lib.hid (fun wx=>nameFault_any s wx hs)
 have HK:Hid (∀ wx,Calls Tryz.prog 28 #[.string s] wx fun e w' =>e= .returned (.bool (keptB s))∧Below wx.heap.size wx w'):=fun wx=>by rw[kept_same];exact keptWord_any s wx
 by_cases h0:nameE s=0
 ·have HF:Hid (freeE s=if keptB s=true then 4 else 0):=by show _=_;unfold freeE;rw[if_pos h0]
  rw[HF.out]
  rw[h0]at HN
  generalize keptB s=k at HK
  clear h0 HF hs
  cases k
  ·go_enter Tryz.func52,Tryz.ntmps52
   go_wp2_with (first|(go_at_call 50;refine(HN.out _).mono ?_;rintro e w1 ⟨rfl,hb1⟩)|(go_at_call 28;refine(HK.out _).mono ?_;rintro e w2 ⟨rfl,hb2⟩))
   go_ret
   exact⟨rfl,(by repeat(assumption))⟩
  ·go_enter Tryz.func52,Tryz.ntmps52
   go_wp2_with (first|(go_at_call 50;refine(HN.out _).mono ?_;rintro e w1 ⟨rfl,hb1⟩)|(go_at_call 28;refine(HK.out _).mono ?_;rintro e w2 ⟨rfl,hb2⟩))
   go_ret
   exact⟨rfl,(by repeat(assumption))⟩
 ·have HF:Hid (freeE s=nameE s):=by show _=_;unfold freeE;rw[if_neg h0]
  rw[HF.out]
  have h0b:(nameE s==0)=false:=by simpa using h0
  clear h0 HF hs
  generalize nameE s=q at HN h0b
  go_enter Tryz.func52,Tryz.ntmps52
  go_wp2_with (go_at_call 50;refine(HN.out _).mono ?_;rintro e w1 ⟨rfl,hb1⟩)
  go_ret
  exact⟨rfl,(by repeat(exact Below.refl _ _))⟩
section
variable {g:Nat} {F:Nat→Prop} {ao:Option Addr} {n cap:Nat} {w:World}
set_option maxHeartbeats 2000000 in
theorem typeNamed_any(hg:g<w.heap.size){ts:List Typ}(hX:SlF F w 2 typF ao n cap ts)(nm:ByteArray):
  Calls Tryz.prog 29 #[.slice ao n cap,.string nm] w fun e w' =>e= .returned (.int .i64 (placeV (typI ts nm) ts.length))∧Below w.heap.size w w' :=by
 have NL:Hid (n=ts.length):=hX.len
 have hle:=hX.le
 have M:=Mem.begin hg ⟨0,0⟩
 have HX:=Lib.hid hX
 clear hX hg
 go_enter Tryz.func29,Tryz.ntmps29
 go_wp2_with fail
 go_loopw [5] (fun i wr=> ∃ k:Nat,k≤n∧i= .int .i64 k∧Mem (StaysB g w) g w wr ⟨0,0⟩ []∧Hid (NoB ts (fun t=>sameS t.name nm) k)) (fun i _=>n - (intOf i).toNat)
 case atStart=>exact⟨0,by omega,rfl,M,noB_zero _ _⟩
 case round=>
  clear M
  obtain⟨k,hk,rfl,M,HB⟩:=hrel
  by_cases hlt:k<n
  ·have hkl:k<ts.length:=by have:=NL.out;omega
   obtain⟨ca,oa,rowa,hixa, -,hrra,hwa⟩:=SlF.rowAt (P:=Tryz.prog) HX.out typF_firm Tryz.underlying22 size_typ (i:=k) hkl
   obtain⟨p1,q1,s1,ea,u1⟩:=hrra
   subst ea
   have HA0:Hid (∀ wx,Below w.heap.size w wx→wx.cell? ⟨ca,oa,none⟩=some (.string ts[k].name)):=fun wx hb=>(hwa wx hb).1 0 _ rfl
   have HP:Hid (∀ b,sameS ts[k].name nm=b→(ts[k].name.toList==nm.toList)=b):=fun b h=>h
   have HS:Hid (sameS ts[k].name nm=true→placeV (typI ts nm) ts.length=k):=fun h=>place_at HB.out hkl h
   have HT:Hid (sameS ts[k].name nm=false→NoB ts (fun t=>sameS t.name nm) (k+1)):=fun h=>noB_succ HB.out hkl h
   clear hwa u1 HB
   generalize ts[k].name=tn at HA0 HP HS HT
   cases hsm:sameS tn nm with
   |true=>
    have hq:=HP.out _ hsm
    have HV:=Lib.hid (HS.out hsm)
    clear HP HS HT hsm
    go_wp2_with (with_reducible refine wC (HA0.out _ M.new) ?_)
    go_ret
    rw[HV.out]
    exact⟨rfl,M.new⟩
   |false=>
    have hq:=HP.out _ hsm
    have HV:=Lib.hid (HT.out hsm)
    clear HP HS HT hsm
    go_wp2_with (with_reducible refine wC (HA0.out _ M.new) ?_)
    go_roundw
    case rel=>exact⟨k+1,by omega,by go_num,M,HV⟩
    case measure=>simp[intOf];omega
  ·have HV:Hid (placeV (typI ts nm) ts.length= -1):=by
    have e:k=ts.length:=by have:=NL.out;omega
    exact place_none (e▸HB.out)
   go_wp2
   go_ret
   rw[HV.out]
   exact⟨rfl,M.new⟩
set_option maxHeartbeats 2000000 in
theorem patternNamed_any(hg:g<w.heap.size){ts:List Pat}(hX:SlF F w 18 patF ao n cap ts)(nm:ByteArray):
  Calls Tryz.prog 59 #[.slice ao n cap,.string nm] w fun e w' =>e= .returned (.int .i64 (placeV (patI ts nm) ts.length))∧Below w.heap.size w w' :=by
 have NL:Hid (n=ts.length):=hX.len
 have hle:=hX.le
 have M:=Mem.begin hg ⟨0,0⟩
 have HX:=Lib.hid hX
 clear hX hg
 go_enter Tryz.func59,Tryz.ntmps59
 go_wp2_with fail
 go_loopw [5] (fun i wr=> ∃ k:Nat,k≤n∧i= .int .i64 k∧Mem (StaysB g w) g w wr ⟨0,0⟩ []∧Hid (NoB ts (fun t=>sameS t.var nm) k)) (fun i _=>n - (intOf i).toNat)
 case atStart=>exact⟨0,by omega,rfl,M,noB_zero _ _⟩
 case round=>
  clear M
  obtain⟨k,hk,rfl,M,HB⟩:=hrel
  by_cases hlt:k<n
  ·have hkl:k<ts.length:=by have:=NL.out;omega
   obtain⟨ca,oa,rowa,hixa, -,hrra,hwa⟩:=SlF.rowAt (P:=Tryz.prog) HX.out patF_firm Tryz.underlying40 size_pat (i:=k) hkl
   obtain⟨p1,q1,s1,ea,u1⟩:=hrra
   subst ea
   have HA0:Hid (∀ wx,Below w.heap.size w wx→wx.cell? ⟨ca,oa,none⟩=some (.string ts[k].var)):=fun wx hb=>(hwa wx hb).1 0 _ rfl
   have HP:Hid (∀ b,sameS ts[k].var nm=b→(ts[k].var.toList==nm.toList)=b):=fun b h=>h
   have HS:Hid (sameS ts[k].var nm=true→placeV (patI ts nm) ts.length=k):=fun h=>place_at HB.out hkl h
   have HT:Hid (sameS ts[k].var nm=false→NoB ts (fun t=>sameS t.var nm) (k+1)):=fun h=>noB_succ HB.out hkl h
   clear hwa u1 HB
   generalize ts[k].var=tn at HA0 HP HS HT
   cases hsm:sameS tn nm with
   |true=>
    have hq:=HP.out _ hsm
    have HV:=Lib.hid (HS.out hsm)
    clear HP HS HT hsm
    go_wp2_with (with_reducible refine wC (HA0.out _ M.new) ?_)
    go_ret
    rw[HV.out]
    exact⟨rfl,M.new⟩
   |false=>
    have hq:=HP.out _ hsm
    have HV:=Lib.hid (HT.out hsm)
    clear HP HS HT hsm
    go_wp2_with (with_reducible refine wC (HA0.out _ M.new) ?_)
    go_roundw
    case rel=>exact⟨k+1,by omega,by go_num,M,HV⟩
    case measure=>simp[intOf];omega
  ·have HV:Hid (placeV (patI ts nm) ts.length= -1):=by
    have e:k=ts.length:=by have:=NL.out;omega
    exact place_none (e▸HB.out)
   go_wp2
   go_ret
   rw[HV.out]
   exact⟨rfl,M.new⟩
end
instance :StI Tryz.prog 55 3:=⟨⟨by kernel_rfl,_,Tryz.underlying55,rfl⟩⟩
instance :ZeI Tryz.prog 55 [.int .i64 0,.int .i64 0,.string ByteArray.empty]:=⟨⟨by kernel_rfl⟩⟩
instance :StI Tryz.prog 90 2:=⟨⟨by kernel_rfl,_,Tryz.underlying90,rfl⟩⟩
instance :OneI Tryz.prog 4:=⟨⟨by kernel_rfl,_,Tryz.underlying4,rfl⟩⟩
instance :OneI Tryz.prog 84:=⟨⟨by kernel_rfl,_,Tryz.underlying84,rfl⟩⟩
instance :OneI Tryz.prog 88:=⟨⟨by kernel_rfl,_,Tryz.underlying88,rfl⟩⟩
instance :RowI Tryz.prog 84 9 1:=⟨⟨Tryz.underlying84,⟨.string ByteArray.empty,by kernel_rfl,rfl⟩,by kernel_rfl,by kernel_rfl,by omega,by omega⟩⟩
theorem fld_R{F:Nat→Prop}{w:World}{ao:Option Addr}{n cap:Nat}{fs:List Fld}(h:SlF F w 2 (plainF fldC) ao n cap fs)(hb: ∀ f∈fs,f.name.size≤maxLen):SlR w 2 fldR ao n cap fs:=by
 obtain⟨h1,h2,h3,h5,h4⟩:=h
 refine⟨h1,h2,h3,h5,fun i hi=>?_⟩
 obtain⟨b,off,row,e,hF,hlt,hr,hR⟩:=h4 i hi
 exact⟨b,off,row,e,hlt,hr,hR,hb _ (List.getElem_mem hi)⟩
def typOk(t:Typ):Prop:=t.name.size≤maxLen∧ ∀ f∈t.fields,f.name.size≤maxLen
def SidePost(ts:List Typ)(known:List Pat)(own:Typ)(o:Opd)(w:World):Ending→World→Prop:=fun e w' =>
 ∃ k,e= .returned (.tuple #[.int .i64 k,.int .i64 (sideE ts known own o)])∧Below w.heap.size w w' ∧(sideE ts known own o=0→k=sideK ts known own o)
theorem side_out{ts:List Typ}{known:List Pat}{own:Typ}{o:Opd}{w w' :World}{k e:Int}(hb:Below w.heap.size w w')(he:sideE ts known own o=e)(hk:e=0→k=sideK ts known own o):
  SidePost ts known own o w (.returned (.tuple #[.int .i64 k,.int .i64 e])) w' :=⟨k,by rw[he],hb,fun h=>hk (he▸h)⟩
section
variable {g:Nat} {F G H:Nat→Prop} {ao:Option Addr} {n cap:Nat} {bo:Option Addr} {m bcap:Nat} {oo:Option Addr} {k ocap:Nat} {w0:World} {ts:List Typ} {known:List Pat} {own:Typ}
set_option maxRecDepth 8000 in
set_option maxHeartbeats 4000000 in
theorem sideKind_bad(hg:g<w0.heap.size)(o:Opd)(hk: ¬ (1≤o.kind∧o.kind≤3)):
  Calls Tryz.prog 87 #[.slice ao n cap,.slice bo m bcap,.agg #[.string own.name,.slice oo k ocap],.agg (opdC o).toArray] w0 (SidePost ts known own o w0):=by
 have hin:inB o.kind 1 3=false:=by rw[inB_false];exact hk
 have M:=Mem.begin hg ⟨0,0⟩
 have HV:Hid (sideE ts known own o=3):=by show _=_;unfold sideE;rw[if_pos hk]
 unfold opdC
 clear hg hk
 go_enter Tryz.func87,Tryz.ntmps87
 go_wp2_with (first|(with_reducible (first|(refine wB (L:=[]) M ?_;clear M;intro za w1 M)|(refine wB M ?_;clear M;intro zb w2 M)|refine wq M ?_|(refine wS M ?_;clear M;intro w M)|(refine wV M ?_;clear M;intro z w M)))|(go_at_call 14;refine(in_any _ _ _ _).mono ?_;rintro e w4 ⟨rfl,rfl⟩;(try rw[hin])))
 go_ret2
 exact side_out M.new HV.out (fun h=>absurd h (by decide))
set_option maxRecDepth 8000 in
set_option maxHeartbeats 4000000 in
theorem sideKind_one(hg:g<w0.heap.size)(o:Opd)(hk:o.kind=1)(hs:o.vtext.size≤maxLen):
  Calls Tryz.prog 87 #[.slice ao n cap,.slice bo m bcap,.agg #[.string own.name,.slice oo k ocap],.agg (opdC o).toArray] w0 (SidePost ts known own o w0):=by
 have hin:inB o.kind 1 3=true:=by rw[inB_true,hk];omega
 have M:=Mem.begin hg ⟨0,0⟩
 have HVF:=Lib.hid (fun wx=>valFault_any o.vkind o.vint o.vtext wx hs)
 have HV:Hid (sideE ts known own o=if opdBad o=true then 4 else valE ⟨o.vkind,o.vint,o.vtext⟩):=by
  show _=_
  unfold sideE
  rw[if_neg (by omega),if_neg (by omega),hk,if_pos rfl]
 have HK:Hid (sideK ts known own o=o.vkind):=by show _=_;unfold sideK;rw[if_pos hk]
 have HB:Hid (opdBad o=(!emS o.var||!emS o.field)):=by show _=_;unfold opdBad;rw[hk];simp
 unfold opdC
 rw[hk]at hin ⊢
 clear hg hk hs
 generalize o.vkind=vk at HVF HV HK
 generalize valE ⟨vk,o.vint,o.vtext⟩=q at HVF HV
 go_enter Tryz.func87,Tryz.ntmps87
 go_wp2_with (first|(with_reducible (first|(refine wB (L:=[]) M ?_;clear M;intro za w1 M)|(refine wB M ?_;clear M;intro zb w2 M)|refine wq M ?_|(refine wS M ?_;clear M;intro w M)|(refine wV M ?_;clear M;intro z w M)))|(go_at_call 14;refine(in_any _ _ _ _).mono ?_;rintro e w4 ⟨rfl,rfl⟩;(try rw[hin])))
 ·(refine wp_region_any (by kernel_rfl) ?_;(try(change wpAny _ _ _ _ _ _ _ (World.drew _)));replace M:=M.drew;generalize World.drew _=w at M ⊢;have S:=St.o;((refine tk 0 (v:=?_) rfl (by kernel_rfl) rfl ?_ ?_;rotate_left;focus(intro w;go_simp;try with_reducible rfl));(try go_simp);(refine tk 1 (v:=?_) rfl (by kernel_rfl) rfl ?_ ?_;rotate_left;focus(intro w;go_simp;try with_reducible rfl));(try go_simp);(refine tk 3 (v:=?_) rfl (by kernel_rfl) rfl ?_ ?_;rotate_left;focus(intro w;go_simp;try with_reducible rfl));(try go_simp);replace S:=S.add 11;refine rd2 2 4 (by kernel_rfl) rfl rfl ?_ rfl rfl ?_<;>intro K hK);all_goals(first|(refine o_dst (some 71) ?_;(refine q_get M (by exact rfl) ?_);(all_goals(refine hK _ _ ?_;clear hK K;replace S:=S.add 4)))|(refine o_dst (some 73) ?_;(refine q_prt M (by rfl) ?_);(all_goals(refine hK _ _ ?_;clear hK K;replace S:=S.add 16))));all_goals(first|(replace S:St 15:=S;refine rd1 4 (by kernel_rfl) rfl rfl ?_<;>intro K hK)|(replace S:St 27:=S;refine rd2 2 5 (by kernel_rfl) rfl rfl ?_ rfl rfl ?_<;>intro K hK));all_goals(first|(refine o_dst (some 73) ?_;(refine q_prt M (by rfl) ?_);(all_goals(refine hK _ _ ?_;clear hK K;replace S:=S.add 16)))|(refine o_dst (some 71) ?_;(refine q_get M (by exact rfl) ?_);(all_goals(refine hK _ _ ?_;clear hK K;replace S:=S.add 4)))|(refine o_dst (some 74) ?_;(refine owp_of ?_;go_simp;(go_at_call 101;with_reducible refine(HVF.out _).mono ?_;rintro e w5 ⟨rfl,hb5⟩;replace M:=M.below hb5;clear hb5);(try go_simp));(all_goals(refine hK _ _ ?_;clear hK K;replace S:=S.add 32))));all_goals(first|(replace S:St 31:=S;refine rd1 5 (by kernel_rfl) rfl rfl ?_<;>intro K hK)|(replace S:St 59:=S;refine rd1 2 (by kernel_rfl) rfl rfl ?_<;>intro K hK));all_goals(first|(refine o_dst (some 74) ?_;(refine owp_of ?_;go_simp;(go_at_call 101;with_reducible refine(HVF.out _).mono ?_;rintro e w5 ⟨rfl,hb5⟩;replace M:=M.below hb5;clear hb5);(try go_simp));(all_goals(refine hK _ _ ?_;clear hK K;replace S:=S.add 32)))|(refine o_dst (some 71) ?_;(refine q_get M (by exact rfl) ?_);(all_goals(refine hK _ _ ?_;clear hK K;replace S:=S.add 4))));all_goals(clear S;((refine tk 6 (v:=?_) rfl (by kernel_rfl) rfl ?_ ?_;rotate_left;focus(intro w;go_simp;try with_reducible rfl));(try go_simp);(refine tk 7 (v:=?_) rfl (by kernel_rfl) rfl ?_ ?_;rotate_left;focus(intro w;go_simp;try with_reducible rfl));(try go_simp);refine wpAny_done (by kernel_rfl) ?_ _)))
  all_goals go_wp2
  all_goals
   go_ret2
   exact side_out M.new (by rw[HV.out,HB.out];simp[emS, *]) (fun _=>HK.out.symm)
 ·go_ret2
  exact side_out M.new (by rw[HV.out,HB.out];simp[emS, *]) (fun h=>absurd h (by decide))
 ·go_ret2
  exact side_out M.new (by rw[HV.out,HB.out];simp[emS, *]) (fun h=>absurd h (by decide))
theorem side_look{o:Opd}(h1:1≤o.kind∧o.kind≤3)(hn:o.kind≠1)(h3:o.kind=3→patI known o.var<known.length):
  sideE ts known own o=if opdBad o=true then 4 else if fldAt (sideT ts known own o).fields o.field<(sideT ts known own o).fields.length then 0 else 6:=by
 unfold sideE
 rw[if_neg (by omega),if_neg (fun h=>by have:=h3 h.1;omega)]
 by_cases hb:opdBad o=true
 ·rw[if_pos hb,if_pos hb]
 ·rw[if_neg hb,if_neg hb,if_neg hn]
theorem atI_some{fs:List Fld}{nm:ByteArray}(h:fldAt fs nm<fs.length):atI fs nm=(fldAt fs nm:Nat):=by unfold atI;rw[if_pos h]
theorem atI_none{fs:List Fld}{nm:ByteArray}(h: ¬ fldAt fs nm<fs.length):atI fs nm= -1:=by unfold atI;rw[if_neg h]
set_option maxRecDepth 8000 in
set_option maxHeartbeats 4000000 in
theorem sideKind_two(hg:g<w0.heap.size)(o:Opd)(hk:o.kind=2)(hO:SlF H w0 2 (plainF fldC) oo k ocap own.fields)(hb: ∀ f∈own.fields,f.name.size≤maxLen):
  Calls Tryz.prog 87 #[.slice ao n cap,.slice bo m bcap,.agg #[.string own.name,.slice oo k ocap],.agg (opdC o).toArray] w0 (SidePost ts known own o w0):=by
 have hin:inB o.kind 1 3=true:=by rw[inB_true,hk];omega
 have M:=Mem.begin hg ⟨0,0⟩
 have HFA:Hid (∀ wx,Below w0.heap.size w0 wx→Calls Tryz.prog 85 #[.agg #[.string own.name,.slice oo k ocap],.string o.field] wx fun e w' =>e= .returned (.int .i64 (atI own.fields o.field))∧Below wx.heap.size wx w'):=fun wx hbx=>
  fieldAt_any own.name oo k ocap own.fields o.field wx (fld_R (hO.below (plainF_firm _) hbx) hb)
 have hT:sideT ts known own o=own:=by unfold sideT;rw[if_neg (by omega)]
 have HV:=side_look (ts:=ts) (known:=known) (own:=own) (o:=o) (by omega) (by omega) (fun h=>by omega)
 rw[hT]at HV
 have HB:Hid (opdBad o=(!emS o.var||!valZ o)):=by show _=_;unfold opdBad;rw[hk];simp
 have HK:Hid (sideK ts known own o=(own.fields.getD (fldAt own.fields o.field) default).kind):=by show _=_;unfold sideK;rw[if_neg (by omega),hT]
 have HV:=Lib.hid HV
 have HO:=Lib.hid hO
 have hlen:=hO.len
 have hle:=hO.le
 have NL:=Lib.hid hlen
 unfold opdC
 rw[hk]at hin ⊢
 by_cases hf:fldAt own.fields o.field<own.fields.length
 ·have HA:=Lib.hid (atI_some hf)
  have HF:=Lib.hid hf
  obtain⟨ca,oa,rowa,hixa, -,hrra,hwa⟩:=SlF.rowAt (P:=Tryz.prog) hO (plainF_firm _) Tryz.underlying49 size_fld (i:=fldAt own.fields o.field) hf
  have e1:rowa=fldC own.fields[fldAt own.fields o.field]:=hrra
  subst e1
  have HC1:Hid (∀ wx,Below w0.heap.size w0 wx→wx.cell? ⟨ca,oa+1,none⟩=some (.int .i64 own.fields[fldAt own.fields o.field].kind)):=fun wx hbx=>(hwa wx hbx).1 1 _ rfl
  have HKV:Hid (own.fields[fldAt own.fields o.field].kind=sideK ts known own o):=by show _=_;rw[HK.out,List.getD_eq_getElem?_getD,List.getElem?_eq_getElem hf];rfl
  generalize own.fields[fldAt own.fields o.field].kind=kd at HC1 HKV
  have hfn:(fldAt own.fields o.field:Int)<k:=by have:=NL.out;omega
  have hfp:(0:Int)≤(fldAt own.fields o.field:Nat):=by omega
  rw[HA.out]at HFA
  have HS:Hid (sideE ts known own o=if opdBad o=true then 4 else 0):=by show _=_;rw[HV.out,if_pos hf]
  generalize fldAt own.fields o.field=fi at HFA hixa hfn hfp
  clear hg hk hO hb hT HV hlen hf hwa hrra HK HA HF
  go_enter Tryz.func87,Tryz.ntmps87
  go_wp2_with (first|(with_reducible (first|(refine wB (L:=[]) M ?_;clear M;intro za w1 M)|(refine wB M ?_;clear M;intro zb w2 M)|refine wq M ?_|(refine wS M ?_;clear M;intro w M)|(refine wV M ?_;clear M;intro z w M)|refine wC (HC1.out _ M.new) ?_))|(go_at_call 14;refine(in_any _ _ _ _).mono ?_;rintro e w4 ⟨rfl,rfl⟩;(try rw[hin]))|(go_at_call 85;with_reducible refine(HFA.out _ M.new).mono ?_;rintro e w5 ⟨rfl,hb5⟩;replace M:=M.below hb5;clear hb5))
  ·go_ret2
   exact side_out M.new (by rw[HS.out,HB.out];simp[emS,valZ, *]) (fun _=>HKV.out)
  all_goals
   go_ret2
   exact side_out M.new (by rw[HS.out,HB.out];simp[emS,valZ, *]) (fun h=>absurd h (by decide))
 ·have HA:=Lib.hid (atI_none hf)
  rw[HA.out]at HFA
  have HS:Hid (sideE ts known own o=if opdBad o=true then 4 else 6):=by show _=_;rw[HV.out,if_neg hf]
  clear hg hk hO hb hT HV hlen hf HK HA
  go_enter Tryz.func87,Tryz.ntmps87
  go_wp2_with (first|(with_reducible (first|(refine wB (L:=[]) M ?_;clear M;intro za w1 M)|(refine wB M ?_;clear M;intro zb w2 M)|refine wq M ?_|(refine wS M ?_;clear M;intro w M)|(refine wV M ?_;clear M;intro z w M)))|(go_at_call 14;refine(in_any _ _ _ _).mono ?_;rintro e w4 ⟨rfl,rfl⟩;(try rw[hin]))|(go_at_call 85;with_reducible refine(HFA.out _ M.new).mono ?_;rintro e w5 ⟨rfl,hb5⟩;replace M:=M.below hb5;clear hb5))
  all_goals
   go_ret2
   exact side_out M.new (by rw[HS.out,HB.out];simp[emS,valZ, *]) (fun h=>absurd h (by decide))
set_option maxRecDepth 8000 in
set_option maxHeartbeats 8000000 in
theorem sideKind_three(hg:g<w0.heap.size)(o:Opd)(hk:o.kind=3)(hX:SlF F w0 2 typF ao n cap ts)(hts: ∀ t∈ts,typOk t)(hY:SlF G w0 18 patF bo m bcap known)(hkn: ∀ p∈known,typI ts p.type<ts.length):
  Calls Tryz.prog 87 #[.slice ao n cap,.slice bo m bcap,.agg #[.string own.name,.slice oo k ocap],.agg (opdC o).toArray] w0 (SidePost ts known own o w0):=by
 have hin:inB o.kind 1 3=true:=by rw[inB_true,hk];omega
 have M:=Mem.begin hg ⟨0,0⟩
 have HPN:Hid (∀ wx,Below w0.heap.size w0 wx→Calls Tryz.prog 59 #[.slice bo m bcap,.string o.var] wx fun e w' =>e= .returned (.int .i64 (placeV (patI known o.var) known.length))∧Below wx.heap.size wx w'):=fun wx hbx=>
  patternNamed_any (Nat.lt_of_lt_of_le hg hbx.size) (hY.below patF_firm hbx) o.var
 have hleX:=hX.le
 have hleY:=hY.le
 have NX:=Lib.hid hX.len
 have NY:=Lib.hid hY.len
 by_cases hf:patI known o.var<known.length
 ·have hT:sideT ts known own o=typAt ts known[patI known o.var].type:=by unfold sideT;rw[if_pos hk,List.getD_eq_getElem?_getD,List.getElem?_eq_getElem hf];rfl
  have HV:=side_look (ts:=ts) (known:=known) (own:=own) (o:=o) (by omega) (by omega) (fun h=>hf)
  have HB:Hid (opdBad o=!valZ o):=by show _=_;unfold opdBad;rw[hk];simp
  have HPV:placeV (patI known o.var) known.length=(patI known o.var:Nat):=by unfold placeV;rw[if_pos hf]
  rw[HPV]at HPN
  have htl:typI ts known[patI known o.var].type<ts.length:=hkn _ (List.getElem_mem hf)
  obtain⟨cp,op,rowp,hixp, -,hrrp,hwp⟩:=SlF.rowAt (P:=Tryz.prog) hY patF_firm Tryz.underlying40 size_pat (i:=patI known o.var) hf
  obtain⟨p1,q1,s1,ep,u1⟩:=hrrp
  subst ep
  have HP1:Hid (∀ wx,Below w0.heap.size w0 wx→wx.cell? ⟨cp,op+1,none⟩=some (.string known[patI known o.var].type)):=fun wx hbx=>(hwp wx hbx).1 1 _ rfl
  have HTN:Hid (∀ wx,Below w0.heap.size w0 wx→Calls Tryz.prog 29 #[.slice ao n cap,.string known[patI known o.var].type] wx fun e w' =>e= .returned (.int .i64 (typI ts known[patI known o.var].type:Nat))∧Below wx.heap.size wx w'):=fun wx hbx=>by
   have h:=typeNamed_any (Nat.lt_of_lt_of_le hg hbx.size) (hX.below typF_firm hbx) known[patI known o.var].type
   unfold placeV at h
   rw[if_pos htl]at h
   exact h
  generalize known[patI known o.var].type=ptype at hT HP1 HTN htl
  have hfn:(patI known o.var:Int)<m:=by have:=NY.out;omega
  generalize patI known o.var=pi at HPN hixp hfn
  obtain⟨ct,ot,rowt,hixt, -,hrrt,hwt⟩:=SlF.rowAt (P:=Tryz.prog) hX typF_firm Tryz.underlying22 size_typ (i:=typI ts ptype) htl
  obtain⟨t1,t2,t3,et,ut⟩:=hrrt
  subst et
  have HT0:Hid (∀ wx,Below w0.heap.size w0 wx→wx.rangeAt ct ot [.string ts[typI ts ptype].name,.slice t1 t2 t3]):=fun wx hbx=>(hwt wx hbx).1
  have hTT:typAt ts ptype=ts[typI ts ptype]:=by unfold typAt;rw[List.getD_eq_getElem?_getD,List.getElem?_eq_getElem htl];rfl
  rw[hTT]at hT
  have hok:typOk ts[typI ts ptype]:=hts _ (List.getElem_mem htl)
  have htn:(typI ts ptype:Int)<n:=by have:=NX.out;omega
  generalize ts[typI ts ptype]=tt at hT HT0 ut hok
  generalize typI ts ptype=ti at HTN hixt htn
  rw[hT]at HV
  have HK:Hid (sideK ts known own o=(tt.fields.getD (fldAt tt.fields o.field) default).kind):=by show _=_;unfold sideK;rw[if_neg (by omega),hT]
  have HFA:Hid (∀ wx,Below w0.heap.size w0 wx→Calls Tryz.prog 85 #[.agg #[.string tt.name,.slice t1 t2 t3],.string o.field] wx fun e w' =>e= .returned (.int .i64 (atI tt.fields o.field))∧Below wx.heap.size wx w'):=fun wx hbx=>
   fieldAt_any tt.name t1 t2 t3 tt.fields o.field wx (fld_R (ut.below (plainF_firm _) hbx) hok.2)
  have HV:=Lib.hid HV
  have hlet:=ut.le
  have NT:=Lib.hid ut.len
  unfold opdC
  rw[hk]at hin ⊢
  by_cases hff:fldAt tt.fields o.field<tt.fields.length
  ·have HA:=Lib.hid (atI_some hff)
   obtain⟨ca,oa,rowa,hixa, -,hrra,hwa⟩:=SlF.rowAt (P:=Tryz.prog) ut (plainF_firm _) Tryz.underlying49 size_fld (i:=fldAt tt.fields o.field) hff
   have e1:rowa=fldC tt.fields[fldAt tt.fields o.field]:=hrra
   subst e1
   have HC1:Hid (∀ wx,Below w0.heap.size w0 wx→wx.cell? ⟨ca,oa+1,none⟩=some (.int .i64 tt.fields[fldAt tt.fields o.field].kind)):=fun wx hbx=>(hwa wx hbx).1 1 _ rfl
   have HKV:Hid (tt.fields[fldAt tt.fields o.field].kind=sideK ts known own o):=by show _=_;rw[HK.out,List.getD_eq_getElem?_getD,List.getElem?_eq_getElem hff];rfl
   generalize tt.fields[fldAt tt.fields o.field].kind=kd at HC1 HKV
   have hfn2:(fldAt tt.fields o.field:Int)<t2:=by have:=NT.out;omega
   rw[HA.out]at HFA
   have HS:Hid (sideE ts known own o=if opdBad o=true then 4 else 0):=by show _=_;rw[HV.out,if_pos hff]
   generalize fldAt tt.fields o.field=fi at HFA hixa hfn2
   clear hg hk hX hY hkn hts hT HV hf hff hwa hrra HK HA hwp hwt u1 ut hok htl hTT HPV
   go_enter Tryz.func87,Tryz.ntmps87
   go_wp2_with (first|(with_reducible (first|(refine wB (L:=[]) M ?_;clear M;intro za w1 M)|(refine wB M ?_;clear M;intro zb w2 M)|refine wq M ?_|(refine wS M ?_;clear M;intro w M)|(refine wV M ?_;clear M;intro z w M)|refine wC (HC1.out _ M.new) ?_|refine wC (HP1.out _ M.new) ?_|refine wA (HT0.out _ M.new) ?_))|(go_at_call 14;refine(in_any _ _ _ _).mono ?_;rintro e w4 ⟨rfl,rfl⟩;(try rw[hin]))|(go_at_call 59;with_reducible refine(HPN.out _ M.new).mono ?_;rintro e w5 ⟨rfl,hb5⟩;replace M:=M.below hb5;clear hb5)|(go_at_call 29;with_reducible refine(HTN.out _ M.new).mono ?_;rintro e w5 ⟨rfl,hb5⟩;replace M:=M.below hb5;clear hb5)|(go_at_call 85;with_reducible refine(HFA.out _ M.new).mono ?_;rintro e w5 ⟨rfl,hb5⟩;replace M:=M.below hb5;clear hb5))
   ·go_ret2
    exact side_out M.new (by rw[HS.out,HB.out];simp[emS,valZ, *]) (fun _=>HKV.out)
   all_goals
    go_ret2
    exact side_out M.new (by rw[HS.out,HB.out];simp[emS,valZ, *]) (fun h=>absurd h (by decide))
  ·have HA:=Lib.hid (atI_none hff)
   rw[HA.out]at HFA
   have HS:Hid (sideE ts known own o=if opdBad o=true then 4 else 6):=by show _=_;rw[HV.out,if_neg hff]
   clear hg hk hX hY hkn hts hT HV hf hff HK HA hwp hwt u1 ut hok htl hTT HPV
   go_enter Tryz.func87,Tryz.ntmps87
   go_wp2_with (first|(with_reducible (first|(refine wB (L:=[]) M ?_;clear M;intro za w1 M)|(refine wB M ?_;clear M;intro zb w2 M)|refine wq M ?_|(refine wS M ?_;clear M;intro w M)|(refine wV M ?_;clear M;intro z w M)|refine wC (HP1.out _ M.new) ?_|refine wA (HT0.out _ M.new) ?_))|(go_at_call 14;refine(in_any _ _ _ _).mono ?_;rintro e w4 ⟨rfl,rfl⟩;(try rw[hin]))|(go_at_call 59;with_reducible refine(HPN.out _ M.new).mono ?_;rintro e w5 ⟨rfl,hb5⟩;replace M:=M.below hb5;clear hb5)|(go_at_call 29;with_reducible refine(HTN.out _ M.new).mono ?_;rintro e w5 ⟨rfl,hb5⟩;replace M:=M.below hb5;clear hb5)|(go_at_call 85;with_reducible refine(HFA.out _ M.new).mono ?_;rintro e w5 ⟨rfl,hb5⟩;replace M:=M.below hb5;clear hb5))
   all_goals
    go_ret2
    exact side_out M.new (by rw[HS.out,HB.out];simp[emS,valZ, *]) (fun h=>absurd h (by decide))
 ·have HPV:placeV (patI known o.var) known.length= -1:=by unfold placeV;rw[if_neg hf]
  rw[HPV]at HPN
  have HS:Hid (sideE ts known own o=6):=by show _=_;unfold sideE;rw[if_neg (by omega),if_pos ⟨hk,by omega⟩]
  unfold opdC
  rw[hk]at hin ⊢
  clear hg hk hX hY hkn hts hf HPV
  go_enter Tryz.func87,Tryz.ntmps87
  go_wp2_with (first|(with_reducible (first|(refine wB (L:=[]) M ?_;clear M;intro za w1 M)|(refine wB M ?_;clear M;intro zb w2 M)|refine wq M ?_|(refine wS M ?_;clear M;intro w M)|(refine wV M ?_;clear M;intro z w M)))|(go_at_call 14;refine(in_any _ _ _ _).mono ?_;rintro e w4 ⟨rfl,rfl⟩;(try rw[hin]))|(go_at_call 59;with_reducible refine(HPN.out _ M.new).mono ?_;rintro e w5 ⟨rfl,hb5⟩;replace M:=M.below hb5;clear hb5))
  go_ret2
  exact side_out M.new HS.out (fun h=>absurd h (by decide))
theorem sideKind_any(hg:g<w0.heap.size)(o:Opd)(hs:o.vtext.size≤maxLen)(hX:SlF F w0 2 typF ao n cap ts)(hts: ∀ t∈ts,typOk t)(hY:SlF G w0 18 patF bo m bcap known)(hkn: ∀ p∈known,typI ts p.type<ts.length)
  (hO:SlF H w0 2 (plainF fldC) oo k ocap own.fields)(hown:typOk own):
  Calls Tryz.prog 87 #[.slice ao n cap,.slice bo m bcap,.agg #[.string own.name,.slice oo k ocap],.agg (opdC o).toArray] w0 (SidePost ts known own o w0):=by
 by_cases hk:1≤o.kind∧o.kind≤3
 ·rcases(by omega:o.kind=1∨o.kind=2∨o.kind=3)with h|h|h
  ·exact sideKind_one hg o h hs
  ·exact sideKind_two hg o h hO hown.2
  ·exact sideKind_three hg o h hX hts hY hkn
 ·exact sideKind_bad hg o hk
end
end Go.Proofs.YtncmghnhfipklaaGreatDoor
