/-
  The walks of watch: a not's links. Printed by wal.py.
-/
import Derived.Test.YtfahleafppfkaaaGreatDoorWf32
import Derived.Test.YtfahleafppfkaaaGreatDoorWf23
namespace Go.Proofs.YtfahleafppfkaaaGreatDoor
open Go.RowKit
set_option linter.unusedVariables false
set_option linter.unusedSimpArgs false
structure GA where
 a1:Option Addr
 n1:Nat
 c1:Nat
 a2:Option Addr
 n2:Nat
 c2:Nat
 a3:Option Addr
 n3:Nat
 c3:Nat
 a4:Option Addr
 n4:Nat
 c4:Nat
structure Grd (F:Nat→Prop) (w:World) (zg:Nat) (v:GA) (b:Bok) (rule:Nat) (R:Rul) (tuple all:List Eve):Prop where
 lt:zg<w.heap.size
 cells:w.rangeAt zg 0 [.slice v.a1 v.n1 v.c1,.slice v.a2 v.n2 v.c2,.int .i64 rule,.slice v.a3 v.n3 v.c3,.slice v.a4 v.n4 v.c4]
 env:Env F w
 far: ∀ b,F b→b<w.heap.size
 types:SlF F w 2 typF v.a1 v.n1 v.c1 b.types
 rules:SlF F w 7 rulF v.a2 v.n2 v.c2 b.rules
 tup:SlF (under w.heap.size) w 5 eveF v.a3 v.n3 v.c3 tuple
 alls:SlF (under w.heap.size) w 5 eveF v.a4 v.n4 v.c4 all
 okT: ∀ t∈b.types,typOk t
 okR: ∀ x∈b.rules,RulFit x
 okE: ∀ x∈b.rules,x.etype.size≤maxLen
 okU: ∀ x∈tuple,eveOk x
 okA: ∀ x∈all,eveOk x
 fewA:all.length≤120
 book:bookE b=0
 is:b.rules[rule]?=some R
 may:Tup b R tuple
 evU: ∀ x∈tuple,eventE b.types x.e x.vals=0
 evA: ∀ x∈all,eventE b.types x.e x.vals=0
section
variable {F:Nat→Prop} {w0:World} {zg:Nat} {v:GA} {b:Bok} {rule:Nat} {R:Rul} {tuple all:List Eve}
theorem Grd.below{w' :World}(h:Grd F w0 zg v b rule R tuple all)(hb:Below w0.heap.size w0 w'):Grd F w' zg v b rule R tuple all:=
 { h with
  lt:=Nat.lt_of_lt_of_le h.lt hb.size
  cells:=keep_range h.lt h.cells w' hb
  env:=h.env.below hb
  far:=fun k hk=>Nat.lt_of_lt_of_le (h.far k hk) hb.size
  types:=h.types.below typF_firm hb
  rules:=h.rules.below rulF_firm hb
  tup:=(h.tup.below eveF_firm hb).wide eveF_firm (fun b hb2 _=>Nat.lt_of_lt_of_le hb2 hb.size)
  alls:=(h.alls.below eveF_firm hb).wide eveF_firm (fun b hb2 _=>Nat.lt_of_lt_of_le hb2 hb.size)}
theorem Grd.rl(h:Grd F w0 zg v b rule R tuple all):rule<b.rules.length∧ ∀ hr:rule<b.rules.length,b.rules[rule]=R:=by
 obtain⟨h1,h2⟩:=List.getElem?_eq_some_iff.1 h.is
 exact⟨h1,fun _=>h2⟩
theorem Grd.zero(h:Grd F w0 zg v b rule R tuple all):ruleE b.types R=0:=by
 obtain⟨h1,h2⟩:=h.rl
 have:=rule_zero h.book h1
 rwa[h2 h1]at this
theorem Grd.few(h:Grd F w0 zg v b rule R tuple all):R.whens.length≤3∧R.nots.length≤2∧R.manies.length≤2∧R.links.length≤6:=by
 have hz:=h.zero
 unfold ruleE at hz
 by_cases h1:freeE R.name≠0
 ·rw[if_pos h1]at hz;exact absurd hz h1
 rw[if_neg h1]at hz
 by_cases h2:sizeB R=true
 ·rw[if_pos h2]at hz;exact absurd hz (by decide)
 simp[sizeB]at h2
 omega
theorem Grd.rule0(h:Grd F w0 zg v b rule R tuple all): ∃ (cr or:Nat) (b1:Option Addr) (m1 e1:Nat) (b2:Option Addr) (m2 e2:Nat) (b3:Option Addr) (m3 e3:Nat) (b4:Option Addr) (m4 e4:Nat) (b6:Option Addr) (m6 e6:Nat),
  (∀ wx,(Instr.indexAt 23 (.slice v.a2 v.n2 v.c2) (.int .i64 rule)).run Tryz.prog wx= .ok (.pointer (some ⟨cr,or,none⟩)) wx)∧
  (∀ wx,Below w0.heap.size w0 wx→wx.rangeAt cr or [.string R.name,.slice b1 m1 e1,.slice b2 m2 e2,.slice b3 m3 e3,.slice b4 m4 e4,.string R.etype,.slice b6 m6 e6])∧
  SlF F w0 18 patF b1 m1 e1 R.whens∧SlF F w0 18 patF b2 m2 e2 R.nots∧SlF F w0 20 manF b3 m3 e3 R.manies∧SlF F w0 3 lnkF b4 m4 e4 R.links:=by
 obtain⟨h1,h2⟩:=h.rl
 obtain⟨cr,or,rowr,hixr, -,hrrr,hwr⟩:=SlF.rowAt (P:=Tryz.prog) h.rules rulF_firm Tryz.underlying23 size_rul (i:=rule) h1
 obtain⟨b1,m1,e1,b2,m2,e2,b3,m3,e3,b4,m4,e4,b6,m6,e6,er,Y1,Y2,Y3,Y4, -⟩:=hrrr
 subst er
 rw[h2 h1]at Y1 Y2 Y3 Y4 hwr
 exact⟨cr,or,b1,m1,e1,b2,m2,e2,b3,m3,e3,b4,m4,e4,b6,m6,e6,hixr,fun wx hb=>(hwr wx hb).1,Y1,Y2,Y3,Y4⟩
set_option maxRecDepth 8000 in
set_option maxHeartbeats 8000000 in
theorem span_name(G:Grd F w0 zg v b rule R tuple all)(zn zx zr zp:Nat)(nm s:ByteArray)(x:Eve)(p:Option Addr)(q r:Nat){b1 b2 b3 b4 b6:Option Addr}{m1 e1 m2 e2 m3 e3 m4 e4 m6 e6:Nat}(Y1:SlF F w0 18 patF b1 m1 e1 R.whens)
  (hn:zn<w0.heap.size)(h1:w0.cell? ⟨zn,0,none⟩=some (.string nm))(hx:zx<w0.heap.size)(h2:w0.rangeAt zx 0 [.int .i64 x.e.number,.int .i64 x.e.type,.int .i64 x.e.start,.int .i64 x.e.stop,.slice p q r])(hr:zr<w0.heap.size)(h3:w0.rangeAt zr 0 [.string R.name,.slice b1 m1 e1,.slice b2 m2 e2,.slice b3 m3 e3,.slice b4 m4 e4,.string R.etype,.slice b6 m6 e6])(hp:zp<w0.heap.size)(h4:w0.cell? ⟨zp,0,none⟩=some (.pointer (some ⟨zg,0,none⟩))):
  Calls Tryz.prog 85 #[.string s,.pointer (some ⟨zn,0,none⟩),.pointer (some ⟨zx,0,none⟩),.pointer (some ⟨zr,0,none⟩),.pointer (some ⟨zp,0,none⟩)] w0 fun e w' =>e= .returned (.tuple #[.agg #[.int .i64 (spanN R.whens tuple nm x s).1,.int .i64 (spanN R.whens tuple nm x s).2],.bool (sameS s nm||hasP R.whens s)])∧Below w0.heap.size w0 w' :=by
 have M:=Mem.begin G.lt ⟨0,0⟩
 have HN:=Lib.hid (keep_cell hn h1)
 have HXS:=Lib.hid (keep_range hx (range_part h2 2 [.int .i64 x.e.start,.int .i64 x.e.stop] rfl))
 have HR1:Hid (∀ wx,Below w0.heap.size w0 wx→wx.cell? ⟨zr,1,none⟩=some (.slice b1 m1 e1)):=keep_cell hr (by have:=h3 1 _ rfl;simpa using this)
 have HP:=Lib.hid (keep_cell hp h4)
 have HG3:Hid (∀ wx,Below w0.heap.size w0 wx→wx.cell? ⟨zg,3,none⟩=some (.slice v.a3 v.n3 v.c3)):=keep_cell G.lt (by have:=G.cells 3 _ rfl;simpa using this)
 have HIX:Hid (∀ wx zs,Below w0.heap.size w0 wx→zs<wx.heap.size→wx.cell? ⟨zs,0,none⟩=some (.string s)→Calls Tryz.prog 76 #[.slice b1 m1 e1,.func (Fn.func 86) #[] #[.pointer (some ⟨zs,0,none⟩)]] wx fun e w' =>e= .returned (.int .i64 (placeV (patI R.whens s) R.whens.length))∧Below wx.heap.size wx w'):=fun wx zs hb hz hc=>
  ixPat2 hz (Y1.below patF_firm hb) (fun p=>sameS p.var s) zs (fun p _ so sn sc wy hby=>varEq_any (Nat.lt_of_lt_of_le hz hby.size) p so sn sc zs s (Nat.lt_of_lt_of_le hz hby.size) (keep_cell hz hc wy hby))
 have hsb:(s.toList==nm.toList)=sameS s nm:=rfl
 have hwl:R.whens.length≤3:=G.few.1
 by_cases hs:sameS s nm=true
 ·rw[hs]at hsb
  have HV:Hid (spanN R.whens tuple nm x s=(x.e.start,x.e.stop)∧(sameS s nm||hasP R.whens s)=true):=⟨by unfold spanN spanX;rw[if_pos hs],by rw[hs];rfl⟩
  generalize (sameS s nm||hasP R.whens s)=bb at HV ⊢
  generalize spanN R.whens tuple nm x s=sp at HV ⊢
  clear G hn h1 hx h2 hr h3 hp h4 Y1 hs HIX HG3 HP hwl
  go_enter Tryz.func85,Tryz.ntmps85
  go_wp2_with (with_reducible (first|(refine w_ (q_boxv M ?_);clear M;intro zs w M)|(refine wV M ?_;clear M;intro zq w M)|refine wq M ?_|(refine wS M ?_;clear M;intro w M)|refine wC (HN.out _ M.new) ?_|refine wA (HXS.out _ M.new) ?_))
  ((try show bodyPost _ _ _ _ _ _);refine q_ret2c M Tryz.results85 (by rfl) ⟨_,Tryz.underlying62,rfl⟩ ?_)
  rw[HV.out.1,HV.out.2]
  exact⟨rfl,M.new⟩
 ·have hs' :sameS s nm=false:=by simpa using hs
  rw[hs']at hsb
  by_cases hi:patI R.whens s<R.whens.length
  ·have hit:patI R.whens s<tuple.length:=by rw[G.may.len];exact hi
   obtain⟨ck,ok,rowk,hixk, -,hrrk,hwk⟩:=SlF.rowAt (P:=Tryz.prog) G.tup eveF_firm Tryz.underlying26 size_eve (i:=patI R.whens s) hit
   obtain⟨p1,q1,s1,ek,uk⟩:=hrrk
   subst ek
   have HV:Hid (spanN R.whens tuple nm x s=(tuple[patI R.whens s].e.start,tuple[patI R.whens s].e.stop)∧(sameS s nm||hasP R.whens s)=true):=⟨by unfold spanN spanX;rw[if_neg hs,if_pos hi];simp[List.getD,List.getElem?_eq_getElem hit],by simp[hasP,hi]⟩
   have HK:Hid (∀ wx,Below w0.heap.size w0 wx→wx.rangeAt ck (ok+2) [.int .i64 tuple[patI R.whens s].e.start,.int .i64 tuple[patI R.whens s].e.stop]):=fun wx hb=>range_sub (hwk wx hb).1 2 _ rfl
   have hpv:placeV (patI R.whens s) R.whens.length=(patI R.whens s:Nat):=by unfold placeV;rw[if_pos hi]
   have hlb:patI R.whens s≤3:=by omega
   rw[hpv]at HIX
   generalize tuple[patI R.whens s]=y at HK HV
   generalize (sameS s nm||hasP R.whens s)=bb at HV ⊢
   generalize spanN R.whens tuple nm x s=sp at HV ⊢
   generalize patI R.whens s=J at *
   clear G hn h1 hx h2 hr h3 hp h4 Y1 hs hs' hi hit hwk uk hpv hwl
   go_enter Tryz.func85,Tryz.ntmps85
   go_wp2_with (first|(with_reducible (first|(refine w_ (q_boxv M ?_);clear M;intro zs w M)|(refine wV M ?_;clear M;intro zq w M)|refine wq M ?_|(refine wS M ?_;clear M;intro w M)|refine wC (HN.out _ M.new) ?_|refine wC (HR1.out _ M.new) ?_|refine wC (HP.out _ M.new) ?_|refine wC (HG3.out _ M.new) ?_|refine wA (HK.out _ M.new) ?_|refine w_ (q_funcs _ ?_)))|(go_at_call 76;with_reducible refine(HIX.out _ _ M.new (M.lt0 (i:=1) rfl) (M.cell0 (i:=1) rfl)).mono ?_;rintro e w5 ⟨rfl,hb5⟩;replace M:=M.below hb5;clear hb5))
   ((try show bodyPost _ _ _ _ _ _);refine q_ret2c M Tryz.results85 (by rfl) ⟨_,Tryz.underlying62,rfl⟩ ?_)
   rw[HV.out.1,HV.out.2]
   exact⟨rfl,M.new⟩
  ·have HV:Hid (spanN R.whens tuple nm x s=(0,0)∧(sameS s nm||hasP R.whens s)=false):=⟨by unfold spanN;rw[if_neg hs,if_neg hi],by simp[hasP,hi,hs']⟩
   have hpv:placeV (patI R.whens s) R.whens.length= -1:=by unfold placeV;rw[if_neg hi]
   rw[hpv]at HIX
   generalize (sameS s nm||hasP R.whens s)=bb at HV ⊢
   generalize spanN R.whens tuple nm x s=sp at HV ⊢
   clear G hn h1 hx h2 hr h3 hp h4 Y1 hs hs' hi hpv hwl
   go_enter Tryz.func85,Tryz.ntmps85
   go_wp2_with (first|(with_reducible (first|(refine w_ (q_boxv M ?_);clear M;intro zs w M)|(refine wV M ?_;clear M;intro zq w M)|refine wq M ?_|(refine wS M ?_;clear M;intro w M)|refine wC (HN.out _ M.new) ?_|refine wC (HR1.out _ M.new) ?_|refine w_ (q_funcs _ ?_)))|(go_at_call 76;with_reducible refine(HIX.out _ _ M.new (M.lt0 (i:=1) rfl) (M.cell0 (i:=1) rfl)).mono ?_;rintro e w5 ⟨rfl,hb5⟩;replace M:=M.below hb5;clear hb5))
   ((try show bodyPost _ _ _ _ _ _);refine q_ret2c M Tryz.results85 (by rfl) ⟨_,Tryz.underlying62,rfl⟩ ?_)
   rw[HV.out.1,HV.out.2]
   exact⟨rfl,M.new⟩
set_option maxRecDepth 8000 in
set_option maxHeartbeats 8000000 in
theorem linked_any(G:Grd F w0 zg v b rule R tuple all)(nm:ByteArray)(x:Eve)(p:Option Addr)(q r:Nat)(hev:eventE b.types x.e x.vals=0):
  Calls Tryz.prog 44 #[.pointer (some ⟨zg,0,none⟩),.string nm,.agg #[.int .i64 x.e.number,.int .i64 x.e.type,.int .i64 x.e.start,.int .i64 x.e.stop,.slice p q r]] w0 fun e w' =>e= .returned (.bool (linkedG R tuple nm x))∧Below w0.heap.size w0 w' :=by
 have M:=Mem.begin G.lt ⟨0,0⟩
 obtain⟨cr,or,b1,m1,e1,b2,m2,e2,b3,m3,e3,b4,m4,e4,b6,m6,e6,hixr,hRr,Y1,Y2,Y3,Y4⟩:=G.rule0
 have HR:=Lib.hid hRr
 have HG1:Hid (∀ wx,Below w0.heap.size w0 wx→wx.cell? ⟨zg,1,none⟩=some (.slice v.a2 v.n2 v.c2)):=keep_cell G.lt (by have:=G.cells 1 _ rfl;simpa using this)
 have HG2:Hid (∀ wx,Below w0.heap.size w0 wx→wx.cell? ⟨zg,2,none⟩=some (.int .i64 rule)):=keep_cell G.lt (by have:=G.cells 2 _ rfl;simpa using this)
 have HSP:Hid (∀ wx,Below w0.heap.size w0 wx→ ∀ zn zx zr zp s,zn<wx.heap.size→wx.cell? ⟨zn,0,none⟩=some (.string nm)→zx<wx.heap.size→wx.rangeAt zx 0 [.int .i64 x.e.number,.int .i64 x.e.type,.int .i64 x.e.start,.int .i64 x.e.stop,.slice p q r]→zr<wx.heap.size→wx.rangeAt zr 0 [.string R.name,.slice b1 m1 e1,.slice b2 m2 e2,.slice b3 m3 e3,.slice b4 m4 e4,.string R.etype,.slice b6 m6 e6]→zp<wx.heap.size→wx.cell? ⟨zp,0,none⟩=some (.pointer (some ⟨zg,0,none⟩))→Calls Tryz.prog 85 #[.string s,.pointer (some ⟨zn,0,none⟩),.pointer (some ⟨zx,0,none⟩),.pointer (some ⟨zr,0,none⟩),.pointer (some ⟨zp,0,none⟩)] wx fun e w' =>e= .returned (.tuple #[.agg #[.int .i64 (spanN R.whens tuple nm x s).1,.int .i64 (spanN R.whens tuple nm x s).2],.bool (sameS s nm||hasP R.whens s)])∧Below wx.heap.size wx w'):=fun wx hb zn zx zr zp s a1 a2 a3 a4 a5 a6 a7 a8=>
  span_name (G.below hb) zn zx zr zp nm s x p q r (Y1.below patF_firm hb) a1 a2 a3 a4 a5 a6 a7 a8
 have HY4:=Lib.hid Y4
 have hle4:=Y4.le
 have NL:Hid (m4=R.links.length):=Y4.len
 have HLZ:Hid (∀ j (hj:j<R.links.length),linkE R R.links[j]=0):=fun j hj=>by have:=(rule_parts G.zero).2.2 j hj;simpa[List.getD,List.getElem?_eq_getElem hj]using this
 have HSZ:Hid (∀ s,spanE (spanN R.whens tuple nm x s).1 (spanN R.whens tuple nm x s).2=0):=fun s=>by
  unfold spanN
  by_cases h1:sameS s nm=true
  ·rw[if_pos h1];exact span_of hev
  rw[if_neg h1]
  by_cases h2:patI R.whens s<R.whens.length
  ·rw[if_pos h2]
   have hit:patI R.whens s<tuple.length:=by rw[G.may.len];exact h2
   rw[show tuple.getD (patI R.whens s) default=tuple[patI R.whens s]by simp[List.getD,List.getElem?_eq_getElem hit]]
   exact G.may.span _ hit
  ·rw[if_neg h2];decide
 have HLG:Hid (∀ j (hj:j<R.links.length),linkG R.whens tuple nm x R.links[j]=false→linkedG R tuple nm x=false):=fun j hj h=>by unfold linkedG;exact List.all_eq_false.2 ⟨_,List.getElem_mem hj,by simp[h]⟩
 have HLT:Hid (NoB R.links (fun k=>linkG R.whens tuple nm x k==false) R.links.length→linkedG R tuple nm x=true):=fun h=>by
  unfold linkedG
  refine List.all_eq_true.2 fun k hk=>?_
  obtain⟨i,hi,rfl⟩:=List.mem_iff_getElem.1 hk
  simpa using h i hi hi
 have hzg:=G.lt
 clear G Y1 Y2 Y3 Y4 hRr hev
 generalize linkedG R tuple nm x=T at HLG HLT ⊢
 go_enter Tryz.func44,Tryz.ntmps44
 go_upto_region 1 with(with_reducible (first|(refine w_ (q_box1 M ?_);clear M;intro zn w M)|(refine w_ (q_boxv M ?_);clear M;intro zp w M)|(refine wB (L:=[_,_]) M ?_;clear M;intro zx w1 M)))
 go_cut [7] (fun vv wx=> ∃ zr,vv= .pointer (some ⟨zr,0,none⟩)∧Mem (StaysB zg w0) zg w0 wx ⟨0,0⟩ (own zr [.string R.name,.slice b1 m1 e1,.slice b2 m2 e2,.slice b3 m3 e3,.slice b4 m4 e4,.string R.etype,.slice b6 m6 e6] 60::own zx [.int .i64 x.e.number,.int .i64 x.e.type,.int .i64 x.e.start,.int .i64 x.e.stop,.slice p q r] 65::own zn [.string nm] 9::own zp [.pointer (some ⟨zg,0,none⟩)] 79::[]))
 case first=>
  (refine wp_region_any (by kernel_rfl) ?_;(try(change wpAny _ _ _ _ _ _ _ (World.drew _)));replace M:=M.drew;generalize World.drew _=w at M ⊢;have S:=St.o;(refine rd3 0 5 11 (by kernel_rfl) rfl rfl ?_ rfl rfl ?_ rfl rfl ?_<;>intro K hK);all_goals(first|(refine o_dst (some 15) ?_;(refine q_get M (by exact rfl) ?_);(all_goals(refine hK _ _ ?_;clear hK K;replace S:=S.add 1)))|(refine o_dst (some 20) ?_;(refine q_get M (by exact rfl) ?_);(all_goals(refine hK _ _ ?_;clear hK K;replace S:=S.add 32)))|(refine o_dst (some 7) ?_;(refine q_var M ?_;clear M;intro z w M);(all_goals(refine hK _ _ ?_;clear hK K;replace S:=S.add 2048))));all_goals(first|(replace S:St 1:=S;(refine tk 1 (v:=?_) rfl (by kernel_rfl) rfl ?_ ?_;rotate_left;focus(intro w;go_simp;try with_reducible rfl));(try go_simp);(refine tk 2 (v:=?_) rfl (by kernel_rfl) rfl ?_ ?_;rotate_left;focus(intro w;go_simp;try with_reducible rfl));(try go_simp);(refine tk 3 (v:=?_) rfl (by kernel_rfl) rfl ?_ ?_;rotate_left;focus(intro w;go_simp;try with_reducible rfl));(try go_simp);replace S:=S.add 14;refine rd3 4 5 11 (by kernel_rfl) rfl rfl ?_ rfl rfl ?_ rfl rfl ?_<;>intro K hK)|(replace S:St 32:=S;(refine tk 6 (v:=?_) rfl (by kernel_rfl) rfl ?_ ?_;rotate_left;focus(intro w;go_simp;try with_reducible rfl));(try go_simp);(refine tk 7 (v:=?_) rfl (by kernel_rfl) rfl ?_ ?_;rotate_left;focus(intro w;go_simp;try with_reducible rfl));(try go_simp);replace S:=S.add 192;refine rd3 0 8 11 (by kernel_rfl) rfl rfl ?_ rfl rfl ?_ rfl rfl ?_<;>intro K hK)|(replace S:St 2048:=S;refine rd2 0 5 (by kernel_rfl) rfl rfl ?_ rfl rfl ?_<;>intro K hK));all_goals(first|(refine o_dst (some 19) ?_;(refine q_cellat (HG1.out _ M.new) ?_);(all_goals(refine hK _ _ ?_;clear hK K;replace S:=S.add 16)))|(refine o_dst (some 20) ?_;(refine q_get M (by exact rfl) ?_);(all_goals(refine hK _ _ ?_;clear hK K;replace S:=S.add 32)))|(refine o_dst (some 7) ?_;(refine q_var M ?_;clear M;intro z w M);(all_goals(refine hK _ _ ?_;clear hK K;replace S:=S.add 2048)))|(refine o_dst (some 15) ?_;(refine q_get M (by exact rfl) ?_);(all_goals(refine hK _ _ ?_;clear hK K;replace S:=S.add 1)))|(refine o_dst (some 23) ?_;(refine q_cellat (HG2.out _ M.new) ?_);(all_goals(refine hK _ _ ?_;clear hK K;replace S:=S.add 256))));all_goals(first|(replace S:St 31:=S;refine rd2 5 11 (by kernel_rfl) rfl rfl ?_ rfl rfl ?_<;>intro K hK)|(replace S:St 47:=S;(refine tk 6 (v:=?_) rfl (by kernel_rfl) rfl ?_ ?_;rotate_left;focus(intro w;go_simp;try with_reducible rfl));(try go_simp);(refine tk 7 (v:=?_) rfl (by kernel_rfl) rfl ?_ ?_;rotate_left;focus(intro w;go_simp;try with_reducible rfl));(try go_simp);replace S:=S.add 192;refine rd3 4 8 11 (by kernel_rfl) rfl rfl ?_ rfl rfl ?_ rfl rfl ?_<;>intro K hK)|(replace S:St 2063:=S;refine rd2 4 5 (by kernel_rfl) rfl rfl ?_ rfl rfl ?_<;>intro K hK)|(replace S:St 225:=S;(refine tk 1 (v:=?_) rfl (by kernel_rfl) rfl ?_ ?_;rotate_left;focus(intro w;go_simp;try with_reducible rfl));(try go_simp);(refine tk 2 (v:=?_) rfl (by kernel_rfl) rfl ?_ ?_;rotate_left;focus(intro w;go_simp;try with_reducible rfl));(try go_simp);(refine tk 3 (v:=?_) rfl (by kernel_rfl) rfl ?_ ?_;rotate_left;focus(intro w;go_simp;try with_reducible rfl));(try go_simp);replace S:=S.add 14;refine rd3 4 8 11 (by kernel_rfl) rfl rfl ?_ rfl rfl ?_ rfl rfl ?_<;>intro K hK)|(replace S:St 480:=S;refine rd2 0 11 (by kernel_rfl) rfl rfl ?_ rfl rfl ?_<;>intro K hK)|(replace S:St 2272:=S;refine rd2 0 8 (by kernel_rfl) rfl rfl ?_ rfl rfl ?_<;>intro K hK)|(replace S:St 2049:=S;(refine tk 1 (v:=?_) rfl (by kernel_rfl) rfl ?_ ?_;rotate_left;focus(intro w;go_simp;try with_reducible rfl));(try go_simp);(refine tk 2 (v:=?_) rfl (by kernel_rfl) rfl ?_ ?_;rotate_left;focus(intro w;go_simp;try with_reducible rfl));(try go_simp);(refine tk 3 (v:=?_) rfl (by kernel_rfl) rfl ?_ ?_;rotate_left;focus(intro w;go_simp;try with_reducible rfl));(try go_simp);replace S:=S.add 14;refine rd2 4 5 (by kernel_rfl) rfl rfl ?_ rfl rfl ?_<;>intro K hK)|(replace S:St 2080:=S;(refine tk 6 (v:=?_) rfl (by kernel_rfl) rfl ?_ ?_;rotate_left;focus(intro w;go_simp;try with_reducible rfl));(try go_simp);(refine tk 7 (v:=?_) rfl (by kernel_rfl) rfl ?_ ?_;rotate_left;focus(intro w;go_simp;try with_reducible rfl));(try go_simp);replace S:=S.add 192;refine rd2 0 8 (by kernel_rfl) rfl rfl ?_ rfl rfl ?_<;>intro K hK));all_goals(first|(refine o_dst (some 20) ?_;(refine q_get M (by exact rfl) ?_);(all_goals(refine hK _ _ ?_;clear hK K;replace S:=S.add 32)))|(refine o_dst (some 7) ?_;(refine q_var M ?_;clear M;intro z w M);(all_goals(refine hK _ _ ?_;clear hK K;replace S:=S.add 2048)))|(refine o_dst (some 19) ?_;(refine q_cellat (HG1.out _ M.new) ?_);(all_goals(refine hK _ _ ?_;clear hK K;replace S:=S.add 16)))|(refine o_dst (some 23) ?_;(refine q_cellat (HG2.out _ M.new) ?_);(all_goals(refine hK _ _ ?_;clear hK K;replace S:=S.add 256)))|(refine o_dst (some 15) ?_;(refine q_get M (by exact rfl) ?_);(all_goals(refine hK _ _ ?_;clear hK K;replace S:=S.add 1))));all_goals(first|(replace S:St 63:=S;(refine tk 6 (v:=?_) rfl (by kernel_rfl) rfl ?_ ?_;rotate_left;focus(intro w;go_simp;try with_reducible rfl));(try go_simp);(refine tk 7 (v:=?_) rfl (by kernel_rfl) rfl ?_ ?_;rotate_left;focus(intro w;go_simp;try with_reducible rfl));(try go_simp);replace S:=S.add 192;refine rd2 8 11 (by kernel_rfl) rfl rfl ?_ rfl rfl ?_<;>intro K hK)|(replace S:St 2079:=S;refine rd1 5 (by kernel_rfl) rfl rfl ?_<;>intro K hK)|(replace S:St 255:=S;refine rd2 8 11 (by kernel_rfl) rfl rfl ?_ rfl rfl ?_<;>intro K hK)|(replace S:St 495:=S;refine rd2 4 11 (by kernel_rfl) rfl rfl ?_ rfl rfl ?_<;>intro K hK)|(replace S:St 2287:=S;refine rd2 4 8 (by kernel_rfl) rfl rfl ?_ rfl rfl ?_<;>intro K hK)|(replace S:St 2095:=S;(refine tk 6 (v:=?_) rfl (by kernel_rfl) rfl ?_ ?_;rotate_left;focus(intro w;go_simp;try with_reducible rfl));(try go_simp);(refine tk 7 (v:=?_) rfl (by kernel_rfl) rfl ?_ ?_;rotate_left;focus(intro w;go_simp;try with_reducible rfl));(try go_simp);replace S:=S.add 192;refine rd2 4 8 (by kernel_rfl) rfl rfl ?_ rfl rfl ?_<;>intro K hK)|(replace S:St 481:=S;(refine tk 1 (v:=?_) rfl (by kernel_rfl) rfl ?_ ?_;rotate_left;focus(intro w;go_simp;try with_reducible rfl));(try go_simp);(refine tk 2 (v:=?_) rfl (by kernel_rfl) rfl ?_ ?_;rotate_left;focus(intro w;go_simp;try with_reducible rfl));(try go_simp);(refine tk 3 (v:=?_) rfl (by kernel_rfl) rfl ?_ ?_;rotate_left;focus(intro w;go_simp;try with_reducible rfl));(try go_simp);replace S:=S.add 14;refine rd2 4 11 (by kernel_rfl) rfl rfl ?_ rfl rfl ?_<;>intro K hK)|(replace S:St 2528:=S;refine rd1 0 (by kernel_rfl) rfl rfl ?_<;>intro K hK)|(replace S:St 2273:=S;(refine tk 1 (v:=?_) rfl (by kernel_rfl) rfl ?_ ?_;rotate_left;focus(intro w;go_simp;try with_reducible rfl));(try go_simp);(refine tk 2 (v:=?_) rfl (by kernel_rfl) rfl ?_ ?_;rotate_left;focus(intro w;go_simp;try with_reducible rfl));(try go_simp);(refine tk 3 (v:=?_) rfl (by kernel_rfl) rfl ?_ ?_;rotate_left;focus(intro w;go_simp;try with_reducible rfl));(try go_simp);replace S:=S.add 14;refine rd2 4 8 (by kernel_rfl) rfl rfl ?_ rfl rfl ?_<;>intro K hK));all_goals(first|(refine o_dst (some 23) ?_;(refine q_cellat (HG2.out _ M.new) ?_);(all_goals(refine hK _ _ ?_;clear hK K;replace S:=S.add 256)))|(refine o_dst (some 7) ?_;(refine q_var M ?_;clear M;intro z w M);(all_goals(refine hK _ _ ?_;clear hK K;replace S:=S.add 2048)))|(refine o_dst (some 20) ?_;(refine q_get M (by exact rfl) ?_);(all_goals(refine hK _ _ ?_;clear hK K;replace S:=S.add 32)))|(refine o_dst (some 19) ?_;(refine q_cellat (HG1.out _ M.new) ?_);(all_goals(refine hK _ _ ?_;clear hK K;replace S:=S.add 16)))|(refine o_dst (some 15) ?_;(refine q_get M (by exact rfl) ?_);(all_goals(refine hK _ _ ?_;clear hK K;replace S:=S.add 1))));all_goals(first|(replace S:St 511:=S;(refine tk 9 (v:=?_) rfl (by kernel_rfl) rfl ?_ ?_;rotate_left;focus(intro w;go_simp;try with_reducible rfl));(try go_simp);replace S:=S.add 512;refine rd2 10 11 (by kernel_rfl) rfl rfl ?_ rfl rfl ?_<;>intro K hK)|(replace S:St 2303:=S;refine rd1 8 (by kernel_rfl) rfl rfl ?_<;>intro K hK)|(replace S:St 2111:=S;(refine tk 6 (v:=?_) rfl (by kernel_rfl) rfl ?_ ?_;rotate_left;focus(intro w;go_simp;try with_reducible rfl));(try go_simp);(refine tk 7 (v:=?_) rfl (by kernel_rfl) rfl ?_ ?_;rotate_left;focus(intro w;go_simp;try with_reducible rfl));(try go_simp);replace S:=S.add 192;refine rd1 8 (by kernel_rfl) rfl rfl ?_<;>intro K hK)|(replace S:St 2543:=S;refine rd1 4 (by kernel_rfl) rfl rfl ?_<;>intro K hK)|(replace S:St 2529:=S;(refine tk 1 (v:=?_) rfl (by kernel_rfl) rfl ?_ ?_;rotate_left;focus(intro w;go_simp;try with_reducible rfl));(try go_simp);(refine tk 2 (v:=?_) rfl (by kernel_rfl) rfl ?_ ?_;rotate_left;focus(intro w;go_simp;try with_reducible rfl));(try go_simp);(refine tk 3 (v:=?_) rfl (by kernel_rfl) rfl ?_ ?_;rotate_left;focus(intro w;go_simp;try with_reducible rfl));(try go_simp);replace S:=S.add 14;refine rd1 4 (by kernel_rfl) rfl rfl ?_<;>intro K hK));all_goals(first|(refine o_dst (some 25) ?_;(refine q_at (HR.out _ M.new) (by rfl) ?_);(all_goals(refine hK _ _ ?_;clear hK K;replace S:=S.add 1024)))|(refine o_dst (some 7) ?_;(refine q_var M ?_;clear M;intro z w M);(all_goals(refine hK _ _ ?_;clear hK K;replace S:=S.add 2048)))|(refine o_dst (some 23) ?_;(refine q_cellat (HG2.out _ M.new) ?_);(all_goals(refine hK _ _ ?_;clear hK K;replace S:=S.add 256)))|(refine o_dst (some 19) ?_;(refine q_cellat (HG1.out _ M.new) ?_);(all_goals(refine hK _ _ ?_;clear hK K;replace S:=S.add 16))));all_goals(first|(replace S:St 2047:=S;refine rd1 11 (by kernel_rfl) rfl rfl ?_<;>intro K hK)|(replace S:St 3071:=S;refine rd1 10 (by kernel_rfl) rfl rfl ?_<;>intro K hK)|(replace S:St 2559:=S;(refine tk 9 (v:=?_) rfl (by kernel_rfl) rfl ?_ ?_;rotate_left;focus(intro w;go_simp;try with_reducible rfl));(try go_simp);replace S:=S.add 512;refine rd1 10 (by kernel_rfl) rfl rfl ?_<;>intro K hK));all_goals(first|(refine o_dst (some 7) ?_;(refine q_var M ?_;clear M;intro z w M);(all_goals(refine hK _ _ ?_;clear hK K;replace S:=S.add 2048)))|(refine o_dst (some 25) ?_;(refine q_at (HR.out _ M.new) (by rfl) ?_);(all_goals(refine hK _ _ ?_;clear hK K;replace S:=S.add 1024))));all_goals(refine rd1 12 (by kernel_rfl) rfl rfl ?_<;>intro K hK);all_goals(refine o_dst none ?_;((refine q_put M (by rfl) (by rfl) (by rfl) ?_);clear M;intro w M;simp only[List.set_cons_zero,List.set_cons_succ]at M);(all_goals(refine hK _ _ ?_;clear hK K;replace S:=S.add 4096)));all_goals(clear S;(refine wpAny_done (by kernel_rfl) ?_ _)))
  all_goals
   go_wp2_with (with_reducible (first|refine wq M ?_|(refine wS M ?_;clear M;intro w M)|(refine wV M ?_;clear M;intro z w M)|(refine wR M ?_;clear M;intro q w M)))
   go_meet
   case rel=>exact⟨_,rfl,M⟩
 case rest=>
 clear M
 obtain⟨zr,rfl,M⟩:=hcut
 go_wp2_with (with_reducible (first|refine wq M ?_|refine w_ (q_funcs _ ?_)))
 go_loopg [30] m4 (fun f i wr=> ∃ (j:Nat),j+f=m4∧i= .int .i64 j∧Mem (StaysB zg w0) zg w0 wr ⟨0,0⟩ (own zr [.string R.name,.slice b1 m1 e1,.slice b2 m2 e2,.slice b3 m3 e3,.slice b4 m4 e4,.string R.etype,.slice b6 m6 e6] 60::own zx [.int .i64 x.e.number,.int .i64 x.e.type,.int .i64 x.e.start,.int .i64 x.e.stop,.slice p q r] 65::own zn [.string nm] 9::own zp [.pointer (some ⟨zg,0,none⟩)] 79::[])∧Hid (NoB R.links (fun k=>linkG R.whens tuple nm x k==false) j))
 case atStart=>exact⟨0,by omega,rfl,M,noB_zero _ _⟩
 case round=>
  clear M
  obtain⟨j,hj,rfl,M,HB⟩:=hrel
  by_cases hlt:j<m4
  ·have hkl:j<R.links.length:=by have:=NL.out;omega
   obtain⟨ca,oa,rowa,hixa, -,hrra,hwa⟩:=SlF.rowAt (P:=Tryz.prog) HY4.out lnkF_firm Tryz.underlying55 size_lnk (i:=j) hkl
   obtain⟨so,sn,sc,ea,uo⟩:=hrra
   subst ea
   have HK:=Lib.hid (fun wx hb=>(hwa wx hb).1)
   have HG:=Lib.hid (HLG.out j hkl)
   have HB2:Hid (linkG R.whens tuple nm x R.links[j]=true→NoB R.links (fun k=>linkG R.whens tuple nm x k==false) (j+1)):=fun h=>noB_succ HB.out hkl (by simp[h])
   have HOE:=Lib.hid (link_opts (HLZ.out j hkl))
   have HUO:=Lib.hid uo
   generalize R.links[j]=k at HK HG HB2 HOE HUO
   clear hwa uo HB hkl
   unfold lnkC at HK
   have hm1:(k.left.toList==nm.toList)=sameS k.left nm:=rfl
   have hm2:(k.right.toList==nm.toList)=sameS k.right nm:=rfl
   have hl1:(k.left.toList !=nm.toList)=!sameS k.left nm:=rfl
   have hl2:(k.right.toList !=nm.toList)=!sameS k.right nm:=rfl
   have hlg:linkG R.whens tuple nm x k=((!sameS k.left nm&&!sameS k.right nm)||lnkB k (spanN R.whens tuple nm x k.left) (spanN R.whens tuple nm x k.right)):=rfl
   rw[hlg]at HG HB2
   clear hlg
   by_cases hsk:sameS k.left nm=false∧sameS k.right nm=false
   ·rw[hsk.1,hsk.2]at HB2
    rw[hsk.1]at hl1 hm1
    rw[hsk.2]at hl2 hm2
    simp only[Bool.not_false]at hl1 hl2
    have HN:=Lib.hid (HB2.out rfl)
    clear HB2 HG hsk HOE HUO
    go_wp2_with (with_reducible (first|(refine wV M ?_;clear M;intro zk w M)|refine wq M ?_|(refine wS M ?_;clear M;intro w M)|refine wA (HK.out _ M.new) ?_))
    go_roundg (m4 - (j+1))
    case measure=>omega
    case rel=>exact⟨j+1,by omega,by go_num,M.drop,HN⟩
   ·have hsk2:(!sameS k.left nm&&!sameS k.right nm)=false:=by cases h1:sameS k.left nm<;>cases h2:sameS k.right nm<;>simp_all
    rw[hsk2]at HG HB2
    simp only[Bool.false_or]at HG HB2
    have HS1:=HSZ.out k.left
    have HS2:=HSZ.out k.right
    have HSB:=Lib.hid (bothE_of HS1 HS2)
    have HCO:Hid (∀ wx za zb,Below w0.heap.size w0 wx→za<wx.heap.size→zb<wx.heap.size→wx.rangeAt za 0 [.int .i64 (spanN R.whens tuple nm x k.left).1,.int .i64 (spanN R.whens tuple nm x k.left).2]→wx.rangeAt zb 0 [.int .i64 (spanN R.whens tuple nm x k.right).1,.int .i64 (spanN R.whens tuple nm x k.right).2]→Calls Tryz.prog 78 #[.slice so sn sc,.func (Fn.func 87) #[] #[.pointer (some ⟨za,0,none⟩),.pointer (some ⟨zb,0,none⟩)]] wx fun e w' =>e= .returned (.bool (lnkB k (spanN R.whens tuple nm x k.left) (spanN R.whens tuple nm x k.right)))∧Below wx.heap.size wx w'):=fun wx za zb hb ha hz r1 r2=>
     conOpt ha (HUO.out.below (plainF_firm _) hb) _ za zb (fun o ho wy hby=>optFit_any (Nat.lt_of_lt_of_le ha hby.size) o za zb _ _ _ _ (Nat.lt_of_lt_of_le ha hby.size) (Nat.lt_of_lt_of_le hz hby.size) (keep_range ha r1 wy hby) (keep_range hz r2 wy hby) (HOE.out o ho) HSB.out)
    have HSL:=Lib.hid (fun wx hb zn zx zr zp=>HSP.out wx hb zn zx zr zp k.left)
    have HSR:=Lib.hid (fun wx hb zn zx zr zp=>HSP.out wx hb zn zx zr zp k.right)
    clear HS1 HS2 HSB HOE HUO
    generalize lnkB k (spanN R.whens tuple nm x k.left) (spanN R.whens tuple nm x k.right)=lb at HG HB2 HCO
    generalize spanN R.whens tuple nm x k.left=s1 at HSL HCO
    generalize spanN R.whens tuple nm x k.right=s2 at HSR HCO
    generalize (sameS k.left nm||hasP R.whens k.left)=bb1 at HSL
    generalize (sameS k.right nm||hasP R.whens k.right)=bb2 at HSR
    obtain⟨u1,hu1⟩: ∃ u1,sameS k.left nm=u1:=⟨_,rfl⟩
    obtain⟨u2,hu2⟩: ∃ u2,sameS k.right nm=u2:=⟨_,rfl⟩
    rw[hu1]at hl1 hm1 hsk
    rw[hu2]at hl2 hm2 hsk
    clear hsk2 hu1 hu2
    cases u1<;>cases u2
    ·exact absurd ⟨rfl,rfl⟩ hsk
    all_goals
     clear hsk
     simp only[Bool.not_true,Bool.not_false]at hl1 hl2
     cases lb with
     |true=>
      have HN:=Lib.hid (HB2.out rfl)
      clear HB2 HG
      go_wp2_with (first|(with_reducible (first|(refine wV M ?_;clear M;intro zk w M)|refine wq M ?_|(refine wS M ?_;clear M;intro w M)|refine wA (HK.out _ M.new) ?_|refine w_ (q_funcs _ ?_)))|(go_at_call 85;with_reducible refine(HSL.out _ M.new _ _ _ _ (M.lt0 (i:=3) rfl) (M.cell0 (i:=3) rfl) (M.lt0 (i:=2) rfl) (M.cells_ (i:=2) rfl) (M.lt0 (i:=1) rfl) (M.cells_ (i:=1) rfl) (M.lt0 (i:=4) rfl) (M.cell0 (i:=4) rfl)).mono ?_;rintro e w5 ⟨rfl,hb5⟩;replace M:=M.below hb5;clear hb5)|(go_at_call 85;with_reducible refine(HSR.out _ M.new _ _ _ _ (M.lt0 (i:=4) rfl) (M.cell0 (i:=4) rfl) (M.lt0 (i:=3) rfl) (M.cells_ (i:=3) rfl) (M.lt0 (i:=2) rfl) (M.cells_ (i:=2) rfl) (M.lt0 (i:=5) rfl) (M.cell0 (i:=5) rfl)).mono ?_;rintro e w5 ⟨rfl,hb5⟩;replace M:=M.below hb5;clear hb5)|(go_at_call 78;with_reducible refine(HCO.out _ _ _ M.new (M.lt0 (i:=1) rfl) (M.lt0 (i:=0) rfl) (M.cells_ (i:=1) rfl) (M.cells_ (i:=0) rfl)).mono ?_;rintro e w5 ⟨rfl,hb5⟩;replace M:=M.below hb5;clear hb5))
      go_roundg (m4 - (j+1))
      case measure=>omega
      case rel=>exact⟨j+1,by omega,by go_num,M.drop.drop.drop,HN⟩
     |false=>
      have HV:=Lib.hid (HG.out rfl)
      clear HB2 HG
      go_wp2_with (first|(with_reducible (first|(refine wV M ?_;clear M;intro zk w M)|refine wq M ?_|(refine wS M ?_;clear M;intro w M)|refine wA (HK.out _ M.new) ?_|refine w_ (q_funcs _ ?_)))|(go_at_call 85;with_reducible refine(HSL.out _ M.new _ _ _ _ (M.lt0 (i:=3) rfl) (M.cell0 (i:=3) rfl) (M.lt0 (i:=2) rfl) (M.cells_ (i:=2) rfl) (M.lt0 (i:=1) rfl) (M.cells_ (i:=1) rfl) (M.lt0 (i:=4) rfl) (M.cell0 (i:=4) rfl)).mono ?_;rintro e w5 ⟨rfl,hb5⟩;replace M:=M.below hb5;clear hb5)|(go_at_call 85;with_reducible refine(HSR.out _ M.new _ _ _ _ (M.lt0 (i:=4) rfl) (M.cell0 (i:=4) rfl) (M.lt0 (i:=3) rfl) (M.cells_ (i:=3) rfl) (M.lt0 (i:=2) rfl) (M.cells_ (i:=2) rfl) (M.lt0 (i:=5) rfl) (M.cell0 (i:=5) rfl)).mono ?_;rintro e w5 ⟨rfl,hb5⟩;replace M:=M.below hb5;clear hb5)|(go_at_call 78;with_reducible refine(HCO.out _ _ _ M.new (M.lt0 (i:=1) rfl) (M.lt0 (i:=0) rfl) (M.cells_ (i:=1) rfl) (M.cells_ (i:=0) rfl)).mono ?_;rintro e w5 ⟨rfl,hb5⟩;replace M:=M.below hb5;clear hb5))
      go_ret
      rw[HV.out]
      exact⟨rfl,M.new⟩
  ·have hjm:j=R.links.length:=by have:=NL.out;omega
   have HV:=Lib.hid (HLT.out (hjm▸HB.out))
   clear HB
   go_wp2_with (with_reducible (first|refine wq M ?_|(refine wS M ?_;clear M;intro w M)|(refine wV M ?_;clear M;intro z w M)|(refine wR M ?_;clear M;intro q w M)))
   go_ret
   rw[HV.out]
   exact⟨rfl,M.new⟩
end
end Go.Proofs.YtfahleafppfkaaaGreatDoor
