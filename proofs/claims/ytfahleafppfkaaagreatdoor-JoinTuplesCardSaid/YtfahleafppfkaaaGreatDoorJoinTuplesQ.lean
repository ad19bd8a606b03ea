/-
  The law JoinTuples, proved: for every argument it answers true; its card, tied to the tables of the program's text. No condition but the tie.
-/
import Derived.Test.YtfahleafppfkaaaGreatDoorJuH
import Derived.Test.YtfahleafppfkaaaGreatDoorJuG
import Derived.Test.YtfahleafppfkaaaGreatDoorJuA
import Derived.Deep.QuietTactic
import Derived.BigQuiet
import Derived.Test.YtfahleafppfkaaaGreatDoorCards
import Derived.Test.YtfahleafppfkaaaGreatDoorTie
import Derived.Test.YtfahleafppfkaaaGreatDoorWf00
namespace Go.Proofs.YtfahleafppfkaaaGreatDoor
open Go.RowKit
set_option linter.unusedVariables false
set_option linter.unusedSimpArgs false
section
variable {F:Nat→Prop} {w0:World} {v:GA} {b:Bok} {all:List Eve} {rule:Int}
theorem Ag.fault(h:Ag F w0 v b all):Calls Tryz.prog 20 #[.agg #[.slice v.a1 v.n1 v.c1,.slice v.a2 v.n2 v.c2],.slice v.a4 v.n4 v.c4] w0 fun e w' =>e= .returned (.int .i64 (eventsE b all))∧Below w0.heap.size w0 w' :=
 eventsFault_any h.env.lt h.env h.far b v.a1 v.n1 v.c1 v.a2 v.n2 v.c2 h.types h.rules h.okT h.okR h.okE v.a4 v.n4 v.c4 all h.alls h.okA
set_option maxRecDepth 8000 in
set_option maxHeartbeats 8000000 in
theorem tuplesOfR_bad(G:Ag F w0 v b all)(h0:eventsE b all≠0):Calls Tryz.prog 8 #[.agg #[.slice v.a1 v.n1 v.c1,.slice v.a2 v.n2 v.c2],.int .i64 rule,.slice v.a4 v.n4 v.c4] w0 (TupPost w0 (tupE b rule all)):=by
 have M:=Mem.begin G.env.lt ⟨0,0⟩
 have HC:Hid (∀ wx,Below w0.heap.size w0 wx→Calls Tryz.prog 20 #[.agg #[.slice v.a1 v.n1 v.c1,.slice v.a2 v.n2 v.c2],.slice v.a4 v.n4 v.c4] wx fun e w' =>e= .returned (.int .i64 (eventsE b all))∧Below wx.heap.size wx w'):=fun wx hb=>(G.below hb).fault
 have HV:Hid (tupE b rule all=([],eventsE b all)):=by show _=_;unfold tupE;rw[if_pos h0]
 have hqb:(eventsE b all==0)=false:=by simpa using h0
 have hqc:(eventsE b all !=0)=true:=by simpa using h0
 generalize tupE b rule all=T at HV ⊢
 generalize eventsE b all=q at HC HV hqb hqc
 clear h0 G
 go_enter Tryz.func8,Tryz.ntmps8
 go_wp2_with (first|(with_reducible (first|(refine wB (L:=[]) M ?_;clear M;intro za w1 M)|refine wq M ?_|(refine wS M ?_;clear M;intro w M)|(refine wV M ?_;clear M;intro z w M)|(refine wR M ?_;clear M;intro q w M)))|(go_at_call 20;with_reducible refine(HC.out _ M.new).mono ?_;rintro e w5 ⟨rfl,hb5⟩;replace M:=M.below hb5;clear hb5))
 go_ret2
 rw[HV.out]
 exact tup_none M.new
set_option maxRecDepth 8000 in
set_option maxHeartbeats 8000000 in
theorem tuplesOfR_norule(G:Ag F w0 v b all)(h0:eventsE b all=0)(hr: ¬ (0≤rule∧rule<b.rules.length)):Calls Tryz.prog 8 #[.agg #[.slice v.a1 v.n1 v.c1,.slice v.a2 v.n2 v.c2],.int .i64 rule,.slice v.a4 v.n4 v.c4] w0 (TupPost w0 (tupE b rule all)):=by
 have M:=Mem.begin G.env.lt ⟨0,0⟩
 have HC:Hid (∀ wx,Below w0.heap.size w0 wx→Calls Tryz.prog 20 #[.agg #[.slice v.a1 v.n1 v.c1,.slice v.a2 v.n2 v.c2],.slice v.a4 v.n4 v.c4] wx fun e w' =>e= .returned (.int .i64 (eventsE b all))∧Below wx.heap.size wx w'):=fun wx hb=>(G.below hb).fault
 have HV:Hid (tupE b rule all=([],2)):=by show _=_;unfold tupE;rw[if_neg (by rw[h0];simp),if_pos hr]
 have N2:=G.rules.len
 have hle2:=G.rules.le
 have HI1:Hid (inB rule 0 ((v.n2:Int) - 1)=false):=by show _=_;unfold inB;simp;omega
 rw[h0]at HC
 generalize tupE b rule all=T at HV ⊢
 clear h0 hr N2 G
 go_enter Tryz.func8,Tryz.ntmps8
 go_wp2_with (first|(with_reducible (first|(refine wB (L:=[]) M ?_;clear M;intro za w1 M)|refine wq M ?_|(refine wS M ?_;clear M;intro w M)|(refine wV M ?_;clear M;intro z w M)|(refine wR M ?_;clear M;intro q w M)))|(go_at_call 20;with_reducible refine(HC.out _ M.new).mono ?_;rintro e w5 ⟨rfl,hb5⟩;replace M:=M.below hb5;clear hb5)|(go_at_call 21;with_reducible refine(inB_is2 _ _ _ _ HI1.out _).mono ?_;rintro e w5 ⟨rfl,hb5⟩;replace M:=M.below hb5;clear hb5))
 go_ret2
 rw[HV.out]
 exact tup_none M.new
set_option maxRecDepth 8000 in
set_option maxHeartbeats 8000000 in
theorem tuplesOfR_main(G:Ag F w0 v b all)(h0:eventsE b all=0)(hr:0≤rule∧rule<b.rules.length):Calls Tryz.prog 8 #[.agg #[.slice v.a1 v.n1 v.c1,.slice v.a2 v.n2 v.c2],.int .i64 rule,.slice v.a4 v.n4 v.c4] w0 (TupPost w0 (tupE b rule all)):=by
 have M:=Mem.begin G.env.lt ⟨0,0⟩
 have HC:Hid (∀ wx,Below w0.heap.size w0 wx→Calls Tryz.prog 20 #[.agg #[.slice v.a1 v.n1 v.c1,.slice v.a2 v.n2 v.c2],.slice v.a4 v.n4 v.c4] wx fun e w' =>e= .returned (.int .i64 (eventsE b all))∧Below wx.heap.size wx w'):=fun wx hb=>(G.below hb).fault
 have hrl:rule.toNat<b.rules.length:=by omega
 have hre:((rule.toNat:Nat):Int)=rule:=Int.toNat_of_nonneg hr.1
 obtain⟨hbk,hal,hev⟩:=events_parts h0
 have N2:=G.rules.len
 have hle2:=G.rules.le
 have HI1:Hid (inB rule 0 ((v.n2:Int) - 1)=true):=by show _=_;unfold inB;simp;omega
 have hR:b.rules.getD rule.toNat rul00=b.rules[rule.toNat]:=by simp[List.getD,List.getElem?_eq_getElem hrl]
 have HV:Hid (tupE b rule all=(tuplesL b.types b.rules[rule.toNat] all,0)):=by
  show _=_
  unfold tupE
  rw[if_neg (by rw[h0];simp),if_neg (fun hn=>hn hr),hR,tuples_same]
 obtain⟨cr,or,rowr,hixr, -,hrrr,hwr⟩:=SlF.rowAt (P:=Tryz.prog) G.rules rulF_firm Tryz.underlying23 size_rul (i:=rule.toNat) hrl
 rw[hre]at hixr
 obtain⟨b1,m1,e1,b2,m2,e2,b3,m3,e3,b4,m4,e4,b6,m6,e6,er,Y1, -, -,Y4, -⟩:=hrrr
 subst er
 have HR:=Lib.hid (fun wx hb=>(hwr wx hb).1)
 have HTO:Hid (∀ wx,Below w0.heap.size w0 wx→Calls Tryz.prog 22 #[.slice v.a1 v.n1 v.c1,.agg (rulC b.rules[rule.toNat] (.slice b1 m1 e1) (.slice b2 m2 e2) (.slice b3 m3 e3) (.slice b4 m4 e4) (.slice b6 m6 e6)).toArray,.slice v.a4 v.n4 v.c4] wx fun e w' => ∃ ao n cap,e= .returned (.slice ao n cap)∧Below wx.heap.size wx w' ∧SlF (fun _=>True) w' 1 nsF ao n cap (tuplesL b.types b.rules[rule.toNat] all)):=fun wx hb=>by
  have G2:=G.below hb
  exact tuplesOf_any ⟨⟨_,G2.env.lt⟩,G2.types.wide typF_firm (fun _ _ _=>trivial),(Y1.below patF_firm hb).wide patF_firm (fun _ _ _=>trivial),(Y4.below lnkF_firm hb).wide lnkF_firm (fun _ _ _=>trivial),G2.alls,G2.okT,hbk,⟨rule.toNat,List.getElem?_eq_getElem hrl⟩,hev,hal⟩
 unfold rulC at HTO HR
 rw[h0]at HC
 generalize tupE b rule all=T at HV ⊢
 generalize tuplesL b.types b.rules[rule.toNat] all=TL at HV HTO
 generalize b.rules[rule.toNat]=R at HR HTO
 clear h0 hr N2 hrl hre hbk hal hev hwr Y1 Y4 hR G
 go_enter Tryz.func8,Tryz.ntmps8
 go_wp2_with (first|(with_reducible (first|(refine wB (L:=[]) M ?_;clear M;intro za w1 M)|refine wq M ?_|(refine wS M ?_;clear M;intro w M)|(refine wV M ?_;clear M;intro z w M)|(refine wR M ?_;clear M;intro q w M)))|(go_at_call 20;with_reducible refine(HC.out _ M.new).mono ?_;rintro e w5 ⟨rfl,hb5⟩;replace M:=M.below hb5;clear hb5)|(go_at_call 21;with_reducible refine(inB_is2 _ _ _ _ HI1.out _).mono ?_;rintro e w5 ⟨rfl,hb5⟩;replace M:=M.below hb5;clear hb5))
 (refine wp_region_any (by kernel_rfl) ?_;(try(change wpAny _ _ _ _ _ _ _ (World.drew _)));replace M:=M.drew;generalize World.drew _=w at M ⊢;have S:=St.o;((refine tk 0 (v:=?_) rfl (by kernel_rfl) rfl ?_ ?_;rotate_left;focus(intro w;go_simp;try with_reducible rfl));(try go_simp);(refine tk 2 (v:=?_) rfl (by kernel_rfl) rfl ?_ ?_;rotate_left;focus(intro w;go_simp;try with_reducible rfl));(try go_simp);(refine tk 4 (v:=?_) rfl (by kernel_rfl) rfl ?_ ?_;rotate_left;focus(intro w;go_simp;try with_reducible rfl));(try go_simp);(refine tk 7 (v:=?_) rfl (by kernel_rfl) rfl ?_ ?_;rotate_left;focus(intro w;go_simp;try with_reducible rfl));(try go_simp);replace S:=S.add 149;refine rd2 1 3 (by kernel_rfl) rfl rfl ?_ rfl rfl ?_<;>intro K hK);all_goals(first|(refine o_dst (some 27) ?_;(first|(refine q_at (HR.out _ M.new) (by rfl) ?_)|(first|refine q_all M (by rfl) ?_|refine q_get M (by exact rfl) ?_|refine q_prt M (by rfl) ?_));(all_goals(refine hK _ _ ?_;clear hK K;replace S:=S.add 2)))|(refine o_dst (some 29) ?_;(first|(refine q_at (HR.out _ M.new) (by rfl) ?_)|(first|refine q_all M (by rfl) ?_|refine q_get M (by exact rfl) ?_|refine q_prt M (by rfl) ?_));(all_goals(refine hK _ _ ?_;clear hK K;replace S:=S.add 8))));all_goals(first|(replace S:St 151:=S;refine rd1 3 (by kernel_rfl) rfl rfl ?_<;>intro K hK)|(replace S:St 157:=S;(refine tk 5 (v:=?_) rfl (by kernel_rfl) rfl ?_ ?_;rotate_left;focus(intro w;go_simp;try with_reducible rfl));(try go_simp);replace S:=S.add 32;refine rd2 1 6 (by kernel_rfl) rfl rfl ?_ rfl rfl ?_<;>intro K hK));all_goals(first|(refine o_dst (some 29) ?_;(first|(refine q_at (HR.out _ M.new) (by rfl) ?_)|(first|refine q_all M (by rfl) ?_|refine q_get M (by exact rfl) ?_|refine q_prt M (by rfl) ?_));(all_goals(refine hK _ _ ?_;clear hK K;replace S:=S.add 8)))|(refine o_dst (some 27) ?_;(first|(refine q_at (HR.out _ M.new) (by rfl) ?_)|(first|refine q_all M (by rfl) ?_|refine q_get M (by exact rfl) ?_|refine q_prt M (by rfl) ?_));(all_goals(refine hK _ _ ?_;clear hK K;replace S:=S.add 2)))|(refine o_dst (some 32) ?_;(first|(refine q_at (HR.out _ M.new) (by rfl) ?_)|(first|refine q_all M (by rfl) ?_|refine q_get M (by exact rfl) ?_|refine q_prt M (by rfl) ?_));(all_goals(refine hK _ _ ?_;clear hK K;replace S:=S.add 64))));all_goals(first|(replace S:St 159:=S;(refine tk 5 (v:=?_) rfl (by kernel_rfl) rfl ?_ ?_;rotate_left;focus(intro w;go_simp;try with_reducible rfl));(try go_simp);replace S:=S.add 32;refine rd1 6 (by kernel_rfl) rfl rfl ?_<;>intro K hK)|(replace S:St 191:=S;refine rd1 6 (by kernel_rfl) rfl rfl ?_<;>intro K hK)|(replace S:St 253:=S;refine rd1 1 (by kernel_rfl) rfl rfl ?_<;>intro K hK));all_goals(first|(refine o_dst (some 32) ?_;(first|(refine q_at (HR.out _ M.new) (by rfl) ?_)|(first|refine q_all M (by rfl) ?_|refine q_get M (by exact rfl) ?_|refine q_prt M (by rfl) ?_));(all_goals(refine hK _ _ ?_;clear hK K;replace S:=S.add 64)))|(refine o_dst (some 27) ?_;(first|(refine q_at (HR.out _ M.new) (by rfl) ?_)|(first|refine q_all M (by rfl) ?_|refine q_get M (by exact rfl) ?_|refine q_prt M (by rfl) ?_));(all_goals(refine hK _ _ ?_;clear hK K;replace S:=S.add 2))));all_goals(refine rd1 8 (by kernel_rfl) rfl rfl ?_<;>intro K hK);all_goals(refine o_dst (some 34) ?_;(refine owp_of ?_;go_simp;(go_at_call 22;with_reducible refine(HTO.out _ M.new).mono ?_;rintro e w5 ⟨xa,xn,xc,rfl,hb5,hS5⟩;replace M:=M.below hb5;clear hb5);(try go_simp));(all_goals(refine hK _ _ ?_;clear hK K;replace S:=S.add 256)));all_goals(clear S;((refine tk 9 (v:=?_) rfl (by kernel_rfl) rfl ?_ ?_;rotate_left;focus(intro w;go_simp;try with_reducible rfl));(try go_simp);(refine tk 10 (v:=?_) rfl (by kernel_rfl) rfl ?_ ?_;rotate_left;focus(intro w;go_simp;try with_reducible rfl));(try go_simp);refine wpAny_done (by kernel_rfl) ?_ _)))
 all_goals
  go_wp2_with (first|(with_reducible (first|refine wq M ?_|(refine wS M ?_;clear M;intro w M)|(refine wV M ?_;clear M;intro z w M)|(refine wR M ?_;clear M;intro q w M))))
  go_ret2
  rw[HV.out]
  exact⟨_,_,_,rfl,M.new,hS5⟩
theorem tuplesOfR_any(G:Ag F w0 v b all)(rule:Int):Calls Tryz.prog 8 #[.agg #[.slice v.a1 v.n1 v.c1,.slice v.a2 v.n2 v.c2],.int .i64 rule,.slice v.a4 v.n4 v.c4] w0 (TupPost w0 (tupE b rule all)):=by
 by_cases h0:eventsE b all=0
 ·by_cases hr:0≤rule∧rule<b.rules.length
  ·exact tuplesOfR_main G h0 hr
  ·exact tuplesOfR_norule G h0 hr
 ·exact tuplesOfR_bad G h0
end
end Go.Proofs.YtfahleafppfkaaaGreatDoor
/-
  The walk of the law JoinTuples: the program's tuples and the reference's are the same.
-/
namespace Go.Proofs.YtfahleafppfkaaaGreatDoor
open Go.RowKit
set_option linter.unusedVariables false
set_option linter.unusedSimpArgs false
set_option maxHeartbeats 1000000 in
theorem sameIntsJ(F G:Nat→Prop)(ao:Option Addr)(n cap:Nat)(bo:Option Addr)(m bcap:Nat)(xs:List Int)(w:World)(hX:SlF F w 1 intF ao n cap xs)(hY:SlF G w 1 intF bo m bcap xs):
  Calls Tryz.prog 17 #[.slice ao n cap,.slice bo m bcap] w fun e w' =>e= .returned (.bool true)∧Below w.heap.size w w' :=by
 obtain rfl:m=n:=by rw[hX.len,hY.len]
 have NL:Hid (m=xs.length):=hX.len
 have hle:=hX.le
 go_enter Tryz.func17,Tryz.ntmps17
 go_wp2_with fail
 go_loopw [5] (fun i wr=> ∃ k:Nat,k≤m∧i= .int .i64 k∧Below w.heap.size w wr) (fun i _=>m - (intOf i).toNat)
 case atStart=>exact⟨0,by omega,rfl,Below.refl _ _⟩
 case round=>
  obtain⟨k,hk,rfl,hbr⟩:=hrel
  by_cases hlt:k<m
  ·have hkl:k<xs.length:=by have:=NL.out;omega
   obtain⟨b,off,row,hix,hblt,hrow,hrr⟩:=(hX.below (plainF_firm _) hbr).toR.index (P:=Tryz.prog) Tryz.underlying36 size_int (i:=k) hkl
   obtain rfl:=(show row=_ from hrr)
   obtain⟨b2,off2,row2,hix2,hblt2,hrow2,hrr2⟩:=(hY.below (plainF_firm _) hbr).toR.index (P:=Tryz.prog) Tryz.underlying36 size_int (i:=k) hkl
   obtain rfl:=(show row2=_ from hrr2)
   have d0:=hrow.one
   have d1:=hrow2.one
   simp only[Nat.mul_one]at hix d0 hix2 d1
   go_wp2_with fail
   go_quiet (fail)
   go_wp2
   go_roundw
   case rel=>exact⟨k+1,by omega,by go_num,(by repeat(first|exact Below.refl _ _|assumption|refine below_step ?_ (by assumption)|refine below_step ?_ (Joins.below_draws _ _ _)|(refine Below.alloc ?_ (by first|omega|(simp;done)|(simp;omega)) _)|(refine Below.setCell ?_ (by first|omega|(simp;done)|(simp;omega)) _)|refine Below.drew ?_))⟩
   case measure=>simp[intOf];omega
  ·go_wp2
   go_ret
   exact⟨rfl,hbr⟩
set_option maxHeartbeats 1000000 in
theorem sameRowsJ(F G:Nat→Prop)(ao:Option Addr)(n cap:Nat)(bo:Option Addr)(m bcap:Nat)(xs:List (List Int))(w:World)(hX:SlF F w 1 nsF ao n cap xs)(hY:SlF G w 1 nsF bo m bcap xs):
  Calls Tryz.prog 9 #[.slice ao n cap,.slice bo m bcap] w fun e w' =>e= .returned (.bool true)∧Below w.heap.size w w' :=by
 obtain rfl:m=n:=by rw[hX.len,hY.len]
 have NL:Hid (m=xs.length):=hX.len
 have hle:=hX.le
 go_enter Tryz.func9,Tryz.ntmps9
 go_wp2_with fail
 go_loopw [5] (fun i wr=> ∃ k:Nat,k≤m∧i= .int .i64 k∧Below w.heap.size w wr) (fun i _=>m - (intOf i).toNat)
 case atStart=>exact⟨0,by omega,rfl,Below.refl _ _⟩
 case round=>
  obtain⟨k,hk,rfl,hbr⟩:=hrel
  by_cases hlt:k<m
  ·have hkl:k<xs.length:=by have:=NL.out;omega
   obtain⟨b,off,row,hix,hblt,hrow,ao1,n1,cap1,rfl,hS1⟩:=(hX.below nsF_firm hbr).toR.index (P:=Tryz.prog) Tryz.underlying27 size_ints (i:=k) hkl
   obtain⟨b2,off2,row2,hix2,hblt2,hrow2,ao2,n2,cap2,rfl,hS2⟩:=(hY.below nsF_firm hbr).toR.index (P:=Tryz.prog) Tryz.underlying27 size_ints (i:=k) hkl
   have H:Hid (∀ wx,Below wr.heap.size wr wx→Calls Tryz.prog 17 #[.slice ao1 n1 cap1,.slice ao2 n2 cap2] wx fun e w' =>e= .returned (.bool true)∧Below wx.heap.size wx w'):=fun wx hb=>sameIntsJ F G ao1 n1 cap1 ao2 n2 cap2 xs[k] wx (hS1.below (plainF_firm _) hb) (hS2.below (plainF_firm _) hb)
   have d0:=hrow.one
   have d1:=hrow2.one
   simp only[Nat.mul_one]at hix d0 hix2 d1
   go_wp2_with fail
   go_region_with (go_at_call 17;refine(H.out _ (by repeat(first|exact Below.refl _ _|assumption|refine below_step ?_ (by assumption)|refine below_step ?_ (Joins.below_draws _ _ _)|(refine Below.alloc ?_ (by first|omega|(simp;done)|(simp;omega)) _)|(refine Below.setCell ?_ (by first|omega|(simp;done)|(simp;omega)) _)|refine Below.drew ?_))).mono ?_;rintro e w1 ⟨rfl,hb1⟩)
   all_goals
    go_wp2
    go_roundw
    case rel=>exact⟨k+1,by omega,by go_num,(by repeat(first|exact Below.refl _ _|assumption|refine below_step ?_ (by assumption)|refine below_step ?_ (Joins.below_draws _ _ _)|(refine Below.alloc ?_ (by first|omega|(simp;done)|(simp;omega)) _)|(refine Below.setCell ?_ (by first|omega|(simp;done)|(simp;omega)) _)|refine Below.drew ?_))⟩
    case measure=>simp[intOf];omega
  ·go_wp2
   go_ret
   exact⟨rfl,hbr⟩
section
set_option maxRecDepth 8000 in
set_option maxHeartbeats 4000000 in
theorem joinTuples_walk(b:Bok)(a1:Option Addr)(n1 c1:Nat)(a2:Option Addr)(n2 c2:Nat)(rule:Int)(a4:Option Addr)(n4 c4:Nat)(all:List Eve)(w0:World)(X1:SlF (under w0.heap.size) w0 2 typF a1 n1 c1 b.types)(X2:SlF (under w0.heap.size) w0 7 rulF a2 n2 c2 b.rules)(hts: ∀ t∈b.types,typOk t)(hrs: ∀ x∈b.rules,RulFit x)(hes: ∀ x∈b.rules,x.etype.size≤maxLen)
  (X4:SlF (under w0.heap.size) w0 5 eveF a4 n4 c4 all)(hao: ∀ x∈all,eveOk x)(hn4:n4*56≤140737488351232)
  (hK:SlF (under w0.heap.size) w0 1 wordF (some ⟨0,0,none⟩) 17 17 keptL)(hR:SlF (under w0.heap.size) w0 1 wordF (some ⟨1,0,none⟩) 14 14 relsL):
  Calls Tryz.prog 3 #[.agg #[.slice a1 n1 c1,.slice a2 n2 c2],.int .i64 rule,.slice a4 n4 c4] w0 fun e w' =>e= .returned (.bool true)∧Below w0.heap.size w0 w' :=by
 have E:Env (under w0.heap.size) w0:=⟨hK,hR⟩
 have M:=Mem.begin E.lt ⟨0,0⟩
 have HCP:=Lib.hid (fun wx (hb:Below w0.heap.size w0 wx)=>copy_eves X4 (by omega) hb)
 have HG:Hid (∀ wx a' c',Below w0.heap.size w0 wx→SlF (under wx.heap.size) wx 5 eveF a' n4 c' all→Ag (under w0.heap.size) wx ⟨a1,n1,c1,a2,n2,c2,none,0,0,a',n4,c'⟩ b all):=fun wx a' c' hb hS=>
  ⟨E.below hb,fun k hk=>Nat.lt_of_lt_of_le hk hb.size,X1.below typF_firm hb,X2.below rulF_firm hb,hS,hts,hrs,hes,hao⟩
 have HC:Hid (∀ wx a' c',Below w0.heap.size w0 wx→SlF (under wx.heap.size) wx 5 eveF a' n4 c' all→Calls Tryz.prog 7 #[.agg #[.slice a1 n1 c1,.slice a2 n2 c2],.int .i64 rule,.slice a' n4 c'] wx (TupPost wx (tupE b rule all))):=fun wx a' c' hb hS=>tuples_any (HG.out wx a' c' hb hS) rule
 have HB:Hid (∀ wx,Below w0.heap.size w0 wx→Calls Tryz.prog 8 #[.agg #[.slice a1 n1 c1,.slice a2 n2 c2],.int .i64 rule,.slice a4 n4 c4] wx (TupPost wx (tupE b rule all))):=fun wx hb=>tuplesOfR_any (HG.out wx a4 c4 hb ((X4.below eveF_firm hb).wide eveF_firm (fun c hc _=>Nat.lt_of_lt_of_le hc hb.size))) rule
 generalize tupE b rule all=v at HC HB
 obtain⟨v1,v2⟩:=v
 unfold TupPost at HC HB
 dsimp only at HC HB
 clear X1 X2 X4 hts hrs hes hao hn4 hK hR E HG
 go_enter Tryz.func3,Tryz.ntmps3
 go_wp2_with (first|(with_reducible (first|(refine wB (L:=[]) M ?_;clear M;intro za w1 M)|refine wq M ?_|(refine wS M ?_;clear M;intro w M)|(refine wV M ?_;clear M;intro z w M)|(refine wR M ?_;clear M;intro q w M))))
 (refine wp_region_any (by kernel_rfl) ?_;(try(change wpAny _ _ _ _ _ _ _ (World.drew _)));replace M:=M.drew;generalize World.drew _=w at M ⊢;have S:=St.o;((refine tk 1 (v:=?_) rfl (by kernel_rfl) rfl ?_ ?_;rotate_left;focus(intro w;go_simp;try with_reducible rfl));(try go_simp);(refine tk 2 (v:=?_) rfl (by kernel_rfl) rfl ?_ ?_;rotate_left;focus(intro w;go_simp;try with_reducible rfl));(try go_simp);replace S:=S.add 6;refine rd2 0 3 (by kernel_rfl) rfl rfl ?_ rfl rfl ?_<;>intro K hK);all_goals(first|(refine o_dst (some 12) ?_;(first|(refine o_dst (some 15) ?_;obtain⟨ao1,cap1,w6,hrun,hS3,hb6⟩:=HCP.out _ M.new;refine owp_of (wp_append_run _ _ 26 rfl rfl rfl rfl hrun ?_);replace M:=M.below hb6;clear hrun hb6;go_simp)|(first|refine q_all M (by rfl) ?_|refine q_get M (by exact rfl) ?_|refine q_prt M (by rfl) ?_));(all_goals(refine hK _ _ ?_;clear hK K;replace S:=S.add 1)))|(refine o_dst (some 15) ?_;(first|(refine o_dst (some 15) ?_;obtain⟨ao1,cap1,w6,hrun,hS3,hb6⟩:=HCP.out _ M.new;refine owp_of (wp_append_run _ _ 26 rfl rfl rfl rfl hrun ?_);replace M:=M.below hb6;clear hrun hb6;go_simp)|(refine owp_of ?_;go_simp));(all_goals(refine hK _ _ ?_;clear hK K;replace S:=S.add 8))));all_goals(first|(replace S:St 7:=S;refine rd1 3 (by kernel_rfl) rfl rfl ?_<;>intro K hK)|(replace S:St 14:=S;refine rd1 0 (by kernel_rfl) rfl rfl ?_<;>intro K hK));all_goals(first|(refine o_dst (some 15) ?_;(first|(refine o_dst (some 15) ?_;obtain⟨ao1,cap1,w6,hrun,hS3,hb6⟩:=HCP.out _ M.new;refine owp_of (wp_append_run _ _ 26 rfl rfl rfl rfl hrun ?_);replace M:=M.below hb6;clear hrun hb6;go_simp)|(refine owp_of ?_;go_simp));(all_goals(refine hK _ _ ?_;clear hK K;replace S:=S.add 8)))|(refine o_dst (some 12) ?_;(first|(refine o_dst (some 15) ?_;obtain⟨ao1,cap1,w6,hrun,hS3,hb6⟩:=HCP.out _ M.new;refine owp_of (wp_append_run _ _ 26 rfl rfl rfl rfl hrun ?_);replace M:=M.below hb6;clear hrun hb6;go_simp)|(first|refine q_all M (by rfl) ?_|refine q_get M (by exact rfl) ?_|refine q_prt M (by rfl) ?_));(all_goals(refine hK _ _ ?_;clear hK K;replace S:=S.add 1))));all_goals(refine rd1 4 (by kernel_rfl) rfl rfl ?_<;>intro K hK);all_goals(refine o_dst (some 16) ?_;(refine owp_of ?_;go_simp;(go_at_call 7;with_reducible refine(HC.out _ _ _ M.new hS3).mono ?_;rintro e w5 ⟨xa,xn,xc,rfl,hb5,hSx⟩;replace M:=M.below hb5;clear hb5 hS3);(try go_simp));(all_goals(refine hK _ _ ?_;clear hK K;replace S:=S.add 16)));all_goals(clear S;((refine tk 5 (v:=?_) rfl (by kernel_rfl) rfl ?_ ?_;rotate_left;focus(intro w;go_simp;try with_reducible rfl));(try go_simp);(refine tk 6 (v:=?_) rfl (by kernel_rfl) rfl ?_ ?_;rotate_left;focus(intro w;go_simp;try with_reducible rfl));(try go_simp);(refine tk 7 (v:=?_) rfl (by kernel_rfl) rfl ?_ ?_;rotate_left;focus(intro w;go_simp;try with_reducible rfl));(try go_simp);(refine tk 8 (v:=?_) rfl (by kernel_rfl) rfl ?_ ?_;rotate_left;focus(intro w;go_simp;try with_reducible rfl));(try go_simp);(refine tk 9 (v:=?_) rfl (by kernel_rfl) rfl ?_ ?_;rotate_left;focus(intro w;go_simp;try with_reducible rfl));(try go_simp);refine wpAny_done (by kernel_rfl) ?_ _)))
 all_goals
  go_wp2_with (first|(with_reducible (first|refine wq M ?_|(refine wS M ?_;clear M;intro w M)|(refine wV M ?_;clear M;intro z w M)|(refine wR M ?_;clear M;intro q w M)))|(go_at_call 8;with_reducible refine(HB.out _ M.new).mono ?_;rintro e w6 ⟨ya,yn,yc,rfl,hb6,hSy⟩;replace M:=M.below hb6;replace hSx:=hSx.below nsF_firm hb6;clear hb6)|(go_at_call 9;with_reducible refine(sameRowsJ _ _ _ _ _ _ _ _ _ _ hSx hSy).mono ?_;rintro e w7 ⟨rfl,hb7⟩;replace M:=M.below hb7;clear hb7))
  go_ret
  exact⟨ret_bool (by simp),M.new⟩
end
end Go.Proofs.YtfahleafppfkaaaGreatDoor
namespace Go.Proofs.YtfahleafppfkaaaGreatDoor
open Go.ChangeShapes Go.WideShapes Go.ChangeAt Go.RowKit Go.Joins
open Go.ChangeMaps (setBlock shut_map_nil open_string shut_string keptBut_setBlock frozen?_setBlock heap_setBlock_same)
set_option linter.unusedVariables false
theorem g_rels:Tryz.prog.globalNamed "dotterel/parse.relations" =some 1:=by kernel_rfl
theorem gt_rels:(Tryz.prog.globals[1]?).map (·.type)=some 150:=by kernel_rfl
theorem gc_rels:Tryz.prog.cellsOf 150=14:=by kernel_rfl
theorem g_kept:Tryz.prog.globalNamed "dotterel/parse.kept" =some 0:=by kernel_rfl
theorem gt_kept:(Tryz.prog.globals[0]?).map (·.type)=some 149:=by kernel_rfl
theorem gc_kept:Tryz.prog.cellsOf 149=17:=by kernel_rfl
theorem cells_string:Tryz.prog.cellsOf 9=1:=by kernel_rfl
noncomputable def laidWorld (os:Os):World:=
 {World.holding Tryz.prog os ⟨#[], #[],[]⟩with heap:=(layCells (layCells (World.holding Tryz.prog os ⟨#[], #[],[]⟩).heap 1 (relsL.map Value.string).toArray) 0 (keptL.map Value.string).toArray)}
theorem laid_met(os:Os):laidMet Tryz.prog Rows.joinTuplesRow.laid ((laidWorld os).forCall (fun _ _=>0) ⟨#[], #[.agg #[.slice none 0 0,.slice none 0 0],.int .i64 0,.slice none 0 0],[]⟩).memory:=
 laidMet_of_run' 8 (by kernel_rfl) (by kernel_rfl)
theorem reads(os:Os){H:Type}(enc:TypeId×Value→H): ∃ places,DataW.whole enc Tryz.prog ((laidWorld os).forCall (fun _ _=>0) ⟨#[], #[.agg #[.slice none 0 0,.slice none 0 0],.int .i64 0,.slice none 0 0],[]⟩).memory Tryz.f3.params.toList Rows.joinTuplesSpec.vars false #[(.agg #[.slice none 0 0,.slice none 0 0]:Value),(.int .i64 0:Value),(.slice none 0 0:Value)].toList 8=some ([.agg [.nil,.nil],.lit (.int .i64 0),.nil],[],places):=
 ⟨[],by kernel_rfl⟩
set_option maxRecDepth 100000 in
theorem joinTuples_lifted(os:Os)(started:os.Started)(H:Type)(enc:TypeId×Value→H)(F:Stop.Interp):
  ReturnsInHanded {} Tryz.checked os 3 .any ((OpenSpec.ofChange Rows.joinTuplesSpec).preRow enc Tryz.prog Tryz.f3 Rows.joinTuplesRow.domain false Rows.joinTuplesRow.laid) (((OpenSpec.ofChange Rows.joinTuplesSpec).at F).post enc Tryz.prog Tryz.f3 false true false false):=by
 have hp:Tryz.f3.params= #[25,3,26]:=Tryz.params3
 obtain⟨places,hx⟩:=reads os enc
 refine lawrow_lift (C:=Tryz.checked) (fn:=Tryz.f3) (s:=Rows.joinTuplesSpec) (tb:=4) own_knob started (by kernel_rfl) Tryz.func3 laid_out (by kernel_rfl) rfl (by kernel_rfl) Tryz.underlying4
  (fun ds hl=>by rw[hp]at hl;exact(by match ds,hl with|[_,_,_],_=>rfl))
  (witness_row_at (enc:=enc) (C:=Tryz.checked) false (laidWorld os) #[.agg #[.slice none 0 0,.slice none 0 0],.int .i64 0,.slice none 0 0] rfl (by kernel_rfl) (by kernel_rfl) (by kernel_rfl)
   (OpenSpec.preRow_of_cond 8 hx (by kernel_rfl) (fun k hk=>by cases hk) (by kernel_rfl) (laid_met os))) ?_
 intro W base args ds ps hval0 hA0 hlt hsz0 hL
 have hval: ∀ (j:Nat) t v,Tryz.f3.params[j]?=some t→args[j]?=some v→Value.okWide Tryz.prog W .any base t v:=hval0
 have hA:DataW.TrodAll enc Tryz.prog W 0 (fun _=>true) true Tryz.f3.params.toList args.toList ds ps:=hA0
 have hsz:(DataW.weightsEach Tryz.prog Tryz.f3.params.toList ds).all (· ≤reachBytes)=true:=hsz0
 rw[hp]at hA hval hsz
 clear hA0 hval0 hsz0
 have hL' :laidMet Tryz.prog [("dotterel/parse.relations",wordsData relsL),("dotterel/parse.kept",wordsData keptL)] W:=hL
 have c_rels:=words_of_head g_rels gt_rels Tryz.underlying150 Tryz.underlying9 cells_string gc_rels (zs:=relsL) hL'
 have b_rels:1<W.heap.size:=World.block_lt_of_cell? W ⟨1,0,none⟩ (c_rels 0 (by decide))
 have S_rels:SlF (under W.heap.size) W 1 wordF (some ⟨1,0,none⟩) 14 14 relsL:=words_cells b_rels b_rels rfl (by omega) c_rels
 have c_kept:=words_of_head g_kept gt_kept Tryz.underlying149 Tryz.underlying9 cells_string gc_kept (zs:=keptL) (laidMet.tail hL')
 have b_kept:0<W.heap.size:=World.block_lt_of_cell? W ⟨0,0,none⟩ (c_kept 0 (by decide))
 have S_kept:SlF (under W.heap.size) W 1 wordF (some ⟨0,0,none⟩) 17 17 keptL:=words_cells b_kept b_kept rfl (by omega) c_kept
 obtain⟨v0,v1,v2,d0,d1,d2,p0,p1,p2,rfl,rfl,rfl,h0,h1,h2⟩:=trodAll_three hA
 obtain⟨b0,p0,q0,r0,p10,q10,r10,rfl,S0,T0,U0,V0,W0⟩:=open_bok (hval 0 25 v0 rfl rfl) h0 (fun p hp=>hlt p (by simp[hp])) (fun q hq=>by simpa using List.all_eq_true.1 hsz q (DataW.weights_mem_each (j:=0) rfl rfl q hq))
 obtain⟨x1,rfl,rfl,rfl,wf1⟩:=open_int Tryz.underlying3 (hval 1 3 v1 rfl rfl) h1
 obtain⟨l2,ao2,n2,cap2,rfl,S2,z2,y2⟩:=open_eves (hval 2 26 v2 rfl rfl) h2 (fun p hp=>hlt p (by simp[hp])) (fun q hq=>by simpa using List.all_eq_true.1 hsz q (DataW.weights_mem_each (j:=2) rfl rfl q hq))
 exact joinTuples_walk b0 _ _ _ _ _ _ x1 _ _ _ l2 W S0 T0 U0 V0 W0 S2 z2 y2 S_kept S_rels
theorem joinTuples_said:Rows.JoinTuplesSaid:=
 OpenClaim.holds_of_cond 3 Tryz.f3 rfl rfl rfl rfl rfl rfl rfl ⟨rfl,rfl,rfl,rfl,rfl⟩ rfl rfl rfl rfl rfl (by kernel_rfl) Tryz.func3 (by kernel_rfl)
  (of_decide_eq_true (by kernel_rfl)) (by unfold Func.isWrapper;first|(rw[if_pos (by decide+kernel)];kernel_rfl)|(rw[if_neg (by decide+kernel)];exact⟨rfl,rfl⟩))
  (fun os started H enc _ F=>by rw[OpenClaim.pre_eq_preRow];exact joinTuples_lifted os started H enc F)
theorem plainCard(f:FuncId)(fn:Func)(hf:Tryz.pinned.checked.prog.funcNamed "dotterel/dotterellaw.JoinTuples" =some f)(hfn:Tryz.pinned.checked.prog.funcs[f]?=some fn):
  false=Tryz.pinned.checked.prog.looks []∧ ∀ (j:Nat) t,fn.params[j]?=some t→Tryz.pinned.checked.prog.wantsStandIn t=false:=by
 obtain rfl:f=3:=Option.some.inj ((show Tryz.prog.funcNamed "dotterel/dotterellaw.JoinTuples" =some 3 by kernel_rfl).symm.trans hf) |>.symm
 obtain rfl:fn=Tryz.f3:=(Option.some.inj (Tryz.func3.symm.trans hfn)).symm
 refine⟨by kernel_rfl,fun j t ht=>?_⟩
 have hp:Tryz.f3.params= #[25,3,26]:=Tryz.params3
 rw[hp]at ht
 have h:=Array.mem_of_getElem? ht
 simp only[List.mem_toArray,List.mem_cons,List.not_mem_nil,or_false]at h
 rcases h with rfl|rfl|rfl<;>(show Tryz.prog.wantsStandIn _=false;kernel_rfl)
theorem joinTuples_holds:Rows.JoinTuplesCardSaid:=
 Claim7.holds_tied_plain_at .later [] _ _ _ _ joinTuples_said (fun _ h=>by cases h) (by kernel_rfl) (fun _ h=>by cases h) joinTuples_row_tie rfl ⟨rfl,rfl⟩ (by kernel_rfl) rfl plainCard (by kernel_rfl)
#print axioms joinTuples_holds
end Go.Proofs.YtfahleafppfkaaaGreatDoor
