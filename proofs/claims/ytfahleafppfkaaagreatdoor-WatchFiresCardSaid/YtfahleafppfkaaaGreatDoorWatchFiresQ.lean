/-
  The law WatchFires, proved: for every argument it answers true; its card, tied to the tables of the program's text. No condition but the tie.
-/
import Derived.Test.YtfahleafppfkaaaGreatDoorWf35
import Derived.Test.YtfahleafppfkaaaGreatDoorWf37
import Derived.Test.YtfahleafppfkaaaGreatDoorCards
import Derived.Test.YtfahleafppfkaaaGreatDoorTie
import Derived.Test.YtfahleafppfkaaaGreatDoorWf00
namespace Go.Proofs.YtfahleafppfkaaaGreatDoor
open Go.RowKit
set_option linter.unusedVariables false
set_option linter.unusedSimpArgs false
section
variable {g:Nat} {F F3:Nat→Prop} {w0:World}
set_option maxRecDepth 8000 in
set_option maxHeartbeats 8000000 in
theorem firedOf_bad(hg:g<w0.heap.size)(E:Env F w0)(hF: ∀ b,F b→b<w0.heap.size)(b:Bok)(a1:Option Addr)(n1 c1:Nat)(a2:Option Addr)(n2 c2:Nat)(X1:SlF F w0 2 typF a1 n1 c1 b.types)(X2:SlF F w0 7 rulF a2 n2 c2 b.rules)(hts: ∀ t∈b.types,typOk t)(hrs: ∀ x∈b.rules,RulFit x)(hes: ∀ x∈b.rules,x.etype.size≤maxLen)(rule:Int)(a3:Option Addr)(n3 c3:Nat)(tuple:List Eve)(X3:SlF F3 w0 5 eveF a3 n3 c3 tuple)(hto: ∀ x∈tuple,eveOk x)(a4:Option Addr)(n4 c4:Nat)(all:List Eve)(X4:SlF F3 w0 5 eveF a4 n4 c4 all)(hao: ∀ x∈all,eveOk x)(h0:eventsE b all≠0):Calls Tryz.prog 11 #[.agg #[.slice a1 n1 c1,.slice a2 n2 c2],.int .i64 rule,.slice a3 n3 c3,.slice a4 n4 c4] w0 fun e w' =>e= .returned (.tuple #[.bool (firesE b rule tuple all).1,.int .i64 (firesE b rule tuple all).2])∧Below w0.heap.size w0 w' :=by
 have M:=Mem.begin hg ⟨0,0⟩
 have HC:Hid (∀ wx,Below w0.heap.size w0 wx→Calls Tryz.prog 20 #[.agg #[.slice a1 n1 c1,.slice a2 n2 c2],.slice a4 n4 c4] wx fun e w' =>e= .returned (.int .i64 (eventsE b all))∧Below wx.heap.size wx w'):=fun wx hb=>
  eventsFault_any (Nat.lt_of_lt_of_le hg hb.size) (E.below hb) (fun k hk=>Nat.lt_of_lt_of_le (hF k hk) hb.size) b a1 n1 c1 a2 n2 c2 (X1.below typF_firm hb) (X2.below rulF_firm hb) hts hrs hes a4 n4 c4 all (X4.below eveF_firm hb) hao
 have HV:Hid (firesE b rule tuple all=(false,eventsE b all)):=fires_e1 h0
 have hqb:(eventsE b all==0)=false:=by simpa using h0
 have hqc:(eventsE b all !=0)=true:=by simpa using h0
 generalize firesE b rule tuple all=T at HV ⊢
 generalize eventsE b all=q at HC HV hqb hqc
 clear h0 X1 X2 X3 X4 hts hrs hes hto hao hg hF E
 go_enter Tryz.func11,Tryz.ntmps11
 go_wp2_with (first|(with_reducible (first|(refine wB (L:=[]) M ?_;clear M;intro za w1 M)|refine wq M ?_))|(go_at_call 20;with_reducible refine(HC.out _ M.new).mono ?_;rintro e w5 ⟨rfl,hb5⟩;replace M:=M.below hb5;clear hb5))
 go_loopg [10,11] 1 (fun f ev i wr=>ev= .int .i64 q∧i= .int .i64 0∧Mem (StaysB g w0) g w0 wr ⟨0,0⟩ (own za [.slice a1 n1 c1,.slice a2 n2 c2] 25::[]))
 case atStart=>exact⟨rfl,rfl,M⟩
 case round=>
  clear M
  obtain⟨rfl,rfl,M⟩:=hrel
  by_cases hlt:(0:Int)<(n3:Int)
  all_goals
   go_wp2_with (with_reducible refine wq M ?_)
   go_ret2
   rw[HV.out]
   exact⟨rfl,M.new⟩
set_option maxRecDepth 8000 in
set_option maxHeartbeats 8000000 in
theorem firedOf_norule(hg:g<w0.heap.size)(E:Env F w0)(hF: ∀ b,F b→b<w0.heap.size)(b:Bok)(a1:Option Addr)(n1 c1:Nat)(a2:Option Addr)(n2 c2:Nat)(X1:SlF F w0 2 typF a1 n1 c1 b.types)(X2:SlF F w0 7 rulF a2 n2 c2 b.rules)(hts: ∀ t∈b.types,typOk t)(hrs: ∀ x∈b.rules,RulFit x)(hes: ∀ x∈b.rules,x.etype.size≤maxLen)(rule:Int)(a3:Option Addr)(n3 c3:Nat)(tuple:List Eve)(X3:SlF F3 w0 5 eveF a3 n3 c3 tuple)(hto: ∀ x∈tuple,eveOk x)(a4:Option Addr)(n4 c4:Nat)(all:List Eve)(X4:SlF F3 w0 5 eveF a4 n4 c4 all)(hao: ∀ x∈all,eveOk x)(h0:eventsE b all=0)(hr: ¬ (0≤rule∧rule<b.rules.length)):Calls Tryz.prog 11 #[.agg #[.slice a1 n1 c1,.slice a2 n2 c2],.int .i64 rule,.slice a3 n3 c3,.slice a4 n4 c4] w0 fun e w' =>e= .returned (.tuple #[.bool (firesE b rule tuple all).1,.int .i64 (firesE b rule tuple all).2])∧Below w0.heap.size w0 w' :=by
 have M:=Mem.begin hg ⟨0,0⟩
 have HC:Hid (∀ wx,Below w0.heap.size w0 wx→Calls Tryz.prog 20 #[.agg #[.slice a1 n1 c1,.slice a2 n2 c2],.slice a4 n4 c4] wx fun e w' =>e= .returned (.int .i64 (eventsE b all))∧Below wx.heap.size wx w'):=fun wx hb=>
  eventsFault_any (Nat.lt_of_lt_of_le hg hb.size) (E.below hb) (fun k hk=>Nat.lt_of_lt_of_le (hF k hk) hb.size) b a1 n1 c1 a2 n2 c2 (X1.below typF_firm hb) (X2.below rulF_firm hb) hts hrs hes a4 n4 c4 all (X4.below eveF_firm hb) hao
 have HV0:firesE b rule tuple all=(false,2):=fires_e2 h0 hr
 obtain⟨q,hq⟩: ∃ q:Int,q=2:=⟨_,rfl⟩
 have HV:Hid (firesE b rule tuple all=(false,q)):=by show _=_;rw[hq];exact HV0
 have N2:=X2.len
 have hle2:=X2.le
 have HI1:Hid (inB rule 0 ((n2:Int) - 1)=false):=by show _=_;unfold inB;simp;omega
 rw[h0]at HC
 subst hq
 generalize firesE b rule tuple all=T at HV ⊢
 clear HV0 h0 hr N2 X1 X2 X3 X4 hts hrs hes hto hao hg hF E
 go_enter Tryz.func11,Tryz.ntmps11
 go_wp2_with (first|(with_reducible (first|(refine wB (L:=[]) M ?_;clear M;intro za w1 M)|refine wq M ?_))|(go_at_call 20;with_reducible refine(HC.out _ M.new).mono ?_;rintro e w5 ⟨rfl,hb5⟩;replace M:=M.below hb5;clear hb5)|(go_at_call 21;with_reducible refine(inB_is2 _ _ _ _ HI1.out _).mono ?_;rintro e w5 ⟨rfl,hb5⟩;replace M:=M.below hb5;clear hb5))
 go_loopg [10,11] 1 (fun f ev i wr=>ev= .int .i64 2∧i= .int .i64 0∧Mem (StaysB g w0) g w0 wr ⟨0,0⟩ (own za [.slice a1 n1 c1,.slice a2 n2 c2] 25::[]))
 case atStart=>exact⟨rfl,rfl,M⟩
 case round=>
  clear M
  obtain⟨rfl,rfl,M⟩:=hrel
  by_cases hlt:(0:Int)<(n3:Int)
  all_goals
   go_wp2_with (with_reducible refine wq M ?_)
   go_ret2
   rw[HV.out]
   exact⟨rfl,M.new⟩
set_option maxRecDepth 8000 in
set_option maxHeartbeats 8000000 in
theorem firedOf_main(hg:g<w0.heap.size)(E:Env F w0)(hF: ∀ b,F b→b<w0.heap.size)(b:Bok)(a1:Option Addr)(n1 c1:Nat)(a2:Option Addr)(n2 c2:Nat)(X1:SlF F w0 2 typF a1 n1 c1 b.types)(X2:SlF F w0 7 rulF a2 n2 c2 b.rules)(hts: ∀ t∈b.types,typOk t)(hrs: ∀ x∈b.rules,RulFit x)(hes: ∀ x∈b.rules,x.etype.size≤maxLen)(rule:Int)(a3:Option Addr)(n3 c3:Nat)(tuple:List Eve)(X3:SlF F3 w0 5 eveF a3 n3 c3 tuple)(hto: ∀ x∈tuple,eveOk x)(a4:Option Addr)(n4 c4:Nat)(all:List Eve)(X4:SlF F3 w0 5 eveF a4 n4 c4 all)(hao: ∀ x∈all,eveOk x)(h0:eventsE b all=0)(hr:0≤rule∧rule<b.rules.length):Calls Tryz.prog 11 #[.agg #[.slice a1 n1 c1,.slice a2 n2 c2],.int .i64 rule,.slice a3 n3 c3,.slice a4 n4 c4] w0 fun e w' =>e= .returned (.tuple #[.bool (firesE b rule tuple all).1,.int .i64 (firesE b rule tuple all).2])∧Below w0.heap.size w0 w' :=by
 have M:=Mem.begin hg ⟨0,0⟩
 have HC:Hid (∀ wx,Below w0.heap.size w0 wx→Calls Tryz.prog 20 #[.agg #[.slice a1 n1 c1,.slice a2 n2 c2],.slice a4 n4 c4] wx fun e w' =>e= .returned (.int .i64 (eventsE b all))∧Below wx.heap.size wx w'):=fun wx hb=>
  eventsFault_any (Nat.lt_of_lt_of_le hg hb.size) (E.below hb) (fun k hk=>Nat.lt_of_lt_of_le (hF k hk) hb.size) b a1 n1 c1 a2 n2 c2 (X1.below typF_firm hb) (X2.below rulF_firm hb) hts hrs hes a4 n4 c4 all (X4.below eveF_firm hb) hao
 have hrl:rule.toNat<b.rules.length:=by omega
 have HTE:=fires_e3 (tuple:=tuple) h0 hr hrl
 obtain⟨hbk,hal,hev⟩:=events_parts h0
 have N2:=X2.len
 have hle2:=X2.le
 have HI1:Hid (inB rule 0 ((n2:Int) - 1)=true):=by show _=_;unfold inB;simp;omega
 have hrz:=rule_zero hbk hrl
 have hfw:b.rules[rule.toNat].whens.length≤3:=by
  have hz:=hrz
  unfold ruleE at hz
  by_cases h1:freeE b.rules[rule.toNat].name≠0
  ·rw[if_pos h1]at hz;exact absurd hz h1
  rw[if_neg h1]at hz
  by_cases h2:sizeB b.rules[rule.toNat]=true
  ·rw[if_pos h2]at hz;exact absurd hz (by decide)
  simp[sizeB]at h2
  omega
 obtain⟨cr,or,rowr,hixr, -,hrrr,hwr⟩:=SlF.rowAt (P:=Tryz.prog) X2 rulF_firm Tryz.underlying23 size_rul (i:=rule.toNat) hrl
 rw[show((rule.toNat:Nat):Int)=rule from Int.toNat_of_nonneg hr.1]at hixr
 obtain⟨b1,m1,e1,b2,m2,e2,b3,m3,e3,b4,m4,e4,b6,m6,e6,er,Y1,Y2,Y3,Y4, -⟩:=hrrr
 subst er
 have HR:Hid (∀ wx,Below w0.heap.size w0 wx→wx.rangeAt cr or [.string b.rules[rule.toNat].name,.slice b1 m1 e1,.slice b2 m2 e2,.slice b3 m3 e3,.slice b4 m4 e4,.string b.rules[rule.toNat].etype,.slice b6 m6 e6]):=fun wx hb=>(hwr wx hb).1
 rw[h0]at HC
 have HVE:Hid (∀ {j:Nat},AllZ (evE b.types tuple) j→j<tuple.length→ ∀ {e:Int},evE b.types tuple j=e→e≠0→firesE b rule tuple all=(false,e)):=fun hz hj e he hn=>HTE.trans (firesR_ev hz hj he hn)
 have HVF:Hid (AllZ (evE b.types tuple) tuple.length→tuple.length≠b.rules[rule.toNat].whens.length→firesE b rule tuple all=(false,4)):=fun hz hf=>HTE.trans (firesR_len hz hf)
 have HVM:Hid (AllZ (evE b.types tuple) tuple.length→tuple.length=b.rules[rule.toNat].whens.length→ ∀ {j:Nat},AllZ (misE b.types b.rules[rule.toNat].whens tuple) j→j<tuple.length→misE b.types b.rules[rule.toNat].whens tuple j=13→firesE b rule tuple all=(false,13)):=fun hz hf j hm hj he=>HTE.trans (firesR_mis hz hf hm hj he)
 have HVN:Hid (AllZ (evE b.types tuple) tuple.length→tuple.length=b.rules[rule.toNat].whens.length→AllZ (misE b.types b.rules[rule.toNat].whens tuple) tuple.length→firesE b rule tuple all=(!blockedB b.types b.rules[rule.toNat] tuple all&&enoughB b.types b.rules[rule.toNat] tuple all,0)):=fun hz hf hm=>HTE.trans (firesR_end hz hf hm)
 have HFD:Hid (AllZ (evE b.types tuple) tuple.length→tuple.length=b.rules[rule.toNat].whens.length→AllZ (misE b.types b.rules[rule.toNat].whens tuple) tuple.length→ ∀ wx,Below w0.heap.size w0 wx→Calls Tryz.prog 27 #[.slice a1 n1 c1,.agg #[.string b.rules[rule.toNat].name,.slice b1 m1 e1,.slice b2 m2 e2,.slice b3 m3 e3,.slice b4 m4 e4,.string b.rules[rule.toNat].etype,.slice b6 m6 e6],.slice a3 n3 c3,.slice a4 n4 c4] wx fun e w' =>e= .returned (.bool (!blockedB b.types b.rules[rule.toNat] tuple all&&enoughB b.types b.rules[rule.toNat] tuple all))∧Below wx.heap.size wx w'):=fun hze hl hm wx hb=>
  have hev3: ∀ x∈tuple,eventE b.types x.e x.vals=0:=fun x hx=>by
   obtain⟨i,hi,rfl⟩:=List.mem_iff_getElem.1 hx
   have:=hze i hi
   rwa[evE_at hi]at this
  fired_any (b:=b) (r:=rule.toNat) ⟨g,Nat.lt_of_lt_of_le hg hb.size⟩ ((X1.below typF_firm hb).wide typF_firm (fun _ _ _=>trivial)) ((Y1.below patF_firm hb).wide patF_firm (fun _ _ _=>trivial)) ((Y2.below patF_firm hb).wide patF_firm (fun _ _ _=>trivial)) ((Y3.below manF_firm hb).wide manF_firm (fun _ _ _=>trivial)) ((Y4.below lnkF_firm hb).wide lnkF_firm (fun _ _ _=>trivial))
   ((X3.below eveF_firm hb).wide eveF_firm (fun _ _ _=>trivial)) ((X4.below eveF_firm hb).wide eveF_firm (fun _ _ _=>trivial)) hts hbk hrl rfl ⟨fun i hi=>evGood_of (hev3 _ (List.getElem_mem hi)),fun i hi=>span_of (hev3 _ (List.getElem_mem hi)),hl,hm⟩ hev3 hev hfw
 have HT:=Lib.hid (fun wx (hb:Below w0.heap.size w0 wx)=>typ_R (X1.below typF_firm hb) hts)
 have HX1:=Lib.hid X1
 have HX3:=Lib.hid X3
 have HY1:=Lib.hid Y1
 have NW:Hid (m1=b.rules[rule.toNat].whens.length):=Y1.len
 have N3:Hid (n3=tuple.length):=X3.len
 have hle3:=X3.le
 have HTO:=Lib.hid hto
 generalize firesE b rule tuple all=T at HVE HVF HVM HVN ⊢
 generalize b.rules[rule.toNat]=R at *
 clear HTE h0 hr N2 hwr Y1 Y2 Y3 Y4 hrl X1 X2 X3 X4 hts hrs hes hto hao hF E hbk hal hev hrz hfw
 replace hg:=Lib.hid hg
 go_enter Tryz.func11,Tryz.ntmps11
 go_wp2_with (first|(with_reducible (first|(refine wB (L:=[]) M ?_;clear M;intro za w1 M)|refine wq M ?_))|(go_at_call 20;with_reducible refine(HC.out _ M.new).mono ?_;rintro e w5 ⟨rfl,hb5⟩;replace M:=M.below hb5;clear hb5)|(go_at_call 21;with_reducible refine(inB_is2 _ _ _ _ HI1.out _).mono ?_;rintro e w5 ⟨rfl,hb5⟩;replace M:=M.below hb5;clear hb5))
 go_loopg [10,11] n3 (fun f ev i wr=> ∃ (j:Nat) (e:Int),j+f=n3∧ev= .int .i64 e∧i= .int .i64 j∧Mem (StaysB g w0) g w0 wr ⟨0,0⟩ (own za [.slice a1 n1 c1,.slice a2 n2 c2] 25::[])∧Hid ((e=0∧AllZ (evE b.types tuple) j)∨(e≠0∧T=(false,e))))
 case atStart=>exact⟨0,0,by omega,rfl,rfl,M,.inl ⟨rfl,allZ_zero _⟩⟩
 case round=>
  clear M
  obtain⟨j,e,hj,rfl,rfl,M,HZ⟩:=hrel
  by_cases hz:e=0
  rotate_left 1
  ·have HV:Hid (T=(false,e)):=HZ.out.elim (fun h=>absurd h.1 hz) (fun h=>h.2)
   have hzb:(e==0)=false:=by simpa using hz
   have hzc:(e !=0)=true:=by simpa using hz
   clear HZ hz
   by_cases hlt:j<n3
   all_goals
    go_wp2_with (with_reducible (first|refine wq M ?_|(refine wS M ?_;clear M;intro w M)|(refine wV M ?_;clear M;intro z w M)|(refine wR M ?_;clear M;intro q w M)))
    go_ret2
    rw[HV.out]
    exact⟨rfl,M.new⟩
  subst hz
  have HZ0:Hid (AllZ (evE b.types tuple) j):=HZ.out.elim (fun h=>h.2) (fun h=>absurd rfl h.1)
  clear HZ
  by_cases hlt:j<n3
  ·have hkl:j<tuple.length:=by have:=N3.out;omega
   obtain⟨ck,ok,rowk,hixk, -,hrrk,hwk⟩:=SlF.rowAt (P:=Tryz.prog) HX3.out eveF_firm Tryz.underlying26 size_eve (i:=j) hkl
   obtain⟨p2,q2,s2,et,ut⟩:=hrrk
   subst et
   have HRK:=Lib.hid (fun wx hb=>(hwk wx hb).1)
   have HEV:Hid (∀ wx,Below w0.heap.size w0 wx→Calls Tryz.prog 26 #[.slice a1 n1 c1,.agg #[.int .i64 tuple[j].e.number,.int .i64 tuple[j].e.type,.int .i64 tuple[j].e.start,.int .i64 tuple[j].e.stop,.slice p2 q2 s2]] wx fun e w' =>e= .returned (.int .i64 (eventE b.types tuple[j].e tuple[j].vals))∧Below wx.heap.size wx w'):=fun wx hb=>eventFault_any a1 n1 c1 b.types tuple[j].e p2 q2 s2 tuple[j].vals wx (HT.out wx hb) (val_R (ut.below (plainF_firm _) hb) (HTO.out _ (List.getElem_mem hkl)))
   have HZ2:Hid ((eventE b.types tuple[j].e tuple[j].vals=0∧AllZ (evE b.types tuple) (j+1))∨(eventE b.types tuple[j].e tuple[j].vals≠0∧T=(false,eventE b.types tuple[j].e tuple[j].vals))):=by
    by_cases h:eventE b.types tuple[j].e tuple[j].vals=0
    ·exact .inl ⟨h,allZ_succ HZ0.out (by rw[evE_at hkl];exact h)⟩
    ·exact .inr ⟨h,HVE.out HZ0.out hkl (by rw[evE_at hkl]) h⟩
   clear hwk ut HZ0
   generalize eventE b.types tuple[j].e tuple[j].vals=te at HEV HZ2
   generalize tuple[j]=y at HRK HEV
   clear hkl
   go_wp2_with (with_reducible (first|refine wq M ?_|(refine wS M ?_;clear M;intro w M)|(refine wV M ?_;clear M;intro z w M)|(refine wR M ?_;clear M;intro q w M)))
   ((refine wp_region_calm M (by kernel_rfl) (by kernel_rfl) ?_);(repeat((with_reducible refine c_list rfl fun K hK=>?_);(first|(refine c_load (l' :=?_) ⟨_,M⟩ (fun w M=>?_) ?_;rotate_left;focus((first|(refine q_at (HRK.out _ M.new) (by rfl) ?_)|refine q_get M (by exact rfl) ?_);refine⟨rfl,?_⟩;with_reducible rfl))|(refine c_call (n:=26) (args:=?_) (v:=?_) (fun w=>?_) (fun w M=>?_) ?_;rotate_left 2;(focus(go_simp;try with_reducible rfl));(focus(with_reducible refine(HEV.out _ M.new).mono ?_;rintro e w5 ⟨rfl,hb5⟩;refine⟨?_,M.below hb5⟩;with_reducible rfl)))|(refine c_pure (v:=?_) (fun w=>?_) ?_;rotate_left;focus(go_simp;try with_reducible rfl)));(try go_simp);with_reducible refine hK _ ?_;clear hK K));(refine wpQuiet_nil ?_);clear M;intro w M)
   go_wp2_with (with_reducible (first|refine wq M ?_|(refine wS M ?_;clear M;intro w M)|(refine wV M ?_;clear M;intro z w M)|(refine wR M ?_;clear M;intro q w M)))
   go_roundg (n3 - (j+1))
   case measure=>omega
   case rel=>exact⟨j+1,te,by omega,rfl,by go_num,M,HZ2⟩
  ·have hjm:j=tuple.length:=by have:=N3.out;omega
   have HZF:Hid (AllZ (evE b.types tuple) tuple.length):=by show AllZ _ _;rw[←hjm];exact HZ0.out
   clear HZ0 HVE hjm
   by_cases hln:tuple.length=R.whens.length
   rotate_left 1
   ·have HV:=Lib.hid (HVF.out HZF.out hln)
    have hfb:((n3:Int)!=(m1:Int))=true:=by have:=N3.out;have:=NW.out;simp;omega
    clear HZF HVF HVM HVN hln
    go_wp2_with (with_reducible (first|(refine wV M ?_;clear M;intro zr w M)|refine wq M ?_|(refine wS M ?_;clear M;intro w M)|refine wA (HR.out _ M.new) ?_))
    go_ret2
    rw[HV.out]
    exact⟨rfl,M.new⟩
   have HLN:=Lib.hid hln
   have hfb:((n3:Int)!=(m1:Int))=false:=by have:=N3.out;have:=NW.out;simp;omega
   have HMI:Hid (∀ {j:Nat},AllZ (misE b.types R.whens tuple) j→j<tuple.length→misE b.types R.whens tuple j=13→T=(false,13)):=fun hm hj he=>HVM.out HZF.out hln hm hj he
   clear HVF HVM hln
   go_wp2_with (with_reducible (first|(refine wV M ?_;clear M;intro zr w M)|refine wq M ?_|(refine wS M ?_;clear M;intro w M)|refine wA (HR.out _ M.new) ?_))
   go_loopg [13] n3 (fun f i wr=> ∃ (j:Nat),j+f=n3∧i= .int .i64 j∧Mem (StaysB g w0) g w0 wr ⟨0,0⟩ (own zr [.string R.name,.slice b1 m1 e1,.slice b2 m2 e2,.slice b3 m3 e3,.slice b4 m4 e4,.string R.etype,.slice b6 m6 e6] 60::own za [.slice a1 n1 c1,.slice a2 n2 c2] 25::[])∧Hid (AllZ (misE b.types R.whens tuple) j))
   case atStart=>exact⟨0,by omega,rfl,M,allZ_zero _⟩
   case round=>
    clear M
    obtain⟨j,hj,rfl,M,HM⟩:=hrel
    by_cases hlt:j<n3
    ·have hkl:j<tuple.length:=by have:=N3.out;omega
     have hwl:j<R.whens.length:=by have:=HLN.out;omega
     obtain⟨ck,ok,rowk,hixk, -,hrrk,hwk⟩:=SlF.rowAt (P:=Tryz.prog) HX3.out eveF_firm Tryz.underlying26 size_eve (i:=j) hkl
     obtain⟨p2,q2,s2,et, -⟩:=hrrk
     subst et
     have HKT:Hid (∀ wx,Below w0.heap.size w0 wx→wx.cell? ⟨ck,ok+1,none⟩=some (.int .i64 tuple[j].e.type)):=fun wx hb=>(hwk wx hb).1 1 _ rfl
     obtain⟨cw,ow,roww,hixw, -,hrrw,hww⟩:=SlF.rowAt (P:=Tryz.prog) HY1.out patF_firm Tryz.underlying53 size_pat (i:=j) hwl
     obtain⟨p3,q3,s3,ew, -⟩:=hrrw
     subst ew
     have HWC:Hid (∀ wx,Below w0.heap.size w0 wx→wx.cell? ⟨cw,ow+1,none⟩=some (.string R.whens[j].type)):=fun wx hb=>(hww wx hb).1 1 _ rfl
     have hgy:=evGood_of (show eventE b.types tuple[j].e tuple[j].vals=0 by have h:=HZF.out j hkl;rwa[evE_at hkl]at h)
     have htl:tuple[j].e.type.toNat<b.types.length:=by have:=hgy.lo;have:=hgy.hi;omega
     obtain⟨ct,ot,rowt,hixt, -,hrrt,hwt⟩:=SlF.rowAt (P:=Tryz.prog) HX1.out typF_firm Tryz.underlying22 size_typ (i:=tuple[j].e.type.toNat) htl
     rw[show((tuple[j].e.type.toNat:Nat):Int)=tuple[j].e.type from Int.toNat_of_nonneg hgy.lo]at hixt
     obtain⟨p4,q4,s4,e4t, -⟩:=hrrt
     subst e4t
     have hte:b.types[tuple[j].e.type.toNat]=evT b.types tuple[j]:=by unfold evT;simp[List.getD,List.getElem?_eq_getElem htl]
     have HTN:Hid (∀ wx,Below w0.heap.size w0 wx→wx.cell? ⟨ct,ot,none⟩=some (.string (evT b.types tuple[j]).name)):=fun wx hb=>by have h:=(hwt wx hb).1 0 _ rfl;rw[hte]at h;exact h
     have HMS:=Lib.hid (misE_at (ts:=b.types) hkl hwl)
     have HM2:Hid (misE b.types R.whens tuple j=0→AllZ (misE b.types R.whens tuple) (j+1)):=fun h=>allZ_succ HM.out h
     have HM3:Hid (misE b.types R.whens tuple j=13→T=(false,13)):=fun h=>HMI.out HM.out hkl h
     clear hwk hww hwt hte htl hgy HM
     generalize (evT b.types tuple[j]).name=nm at HTN HMS
     generalize tuple[j]=y at HKT hixt
     generalize R.whens[j].type=wt at HWC HMS
     clear hkl hwl
     cases hsm:sameS nm wt with
     |true=>
      have hsb:(nm.toList==wt.toList)=true:=hsm
      have hsn:(nm.toList !=wt.toList)=false:=by simp only[bne,hsb];rfl
      have HM4:=Lib.hid (HM2.out (by rw[HMS.out,if_pos hsm]))
      clear HMS HM2 HM3 hsm
      go_wp2_with (with_reducible (first|refine wq M ?_|(refine wS M ?_;clear M;intro w M)|(refine wV M ?_;clear M;intro z w M)|(refine wR M ?_;clear M;intro q w M)))
      ((refine wp_region_calm M (by kernel_rfl) (by kernel_rfl) ?_);(repeat((with_reducible refine c_list rfl fun K hK=>?_);(first|(refine c_load (l' :=?_) ⟨_,M⟩ (fun w M=>?_) ?_;rotate_left;focus((first|(refine q_cellat (HKT.out _ M.new) ?_)|(refine q_cellat (HTN.out _ M.new) ?_)|(refine q_cellat (HWC.out _ M.new) ?_)|refine q_get M (by exact rfl) ?_);refine⟨rfl,?_⟩;with_reducible rfl))|(refine c_pure (v:=?_) (fun w=>?_) ?_;rotate_left;focus(go_simp;try with_reducible rfl)));(try go_simp);with_reducible refine hK _ ?_;clear hK K));(refine wpQuiet_nil ?_);clear M;intro w M)
      go_wp2_with (with_reducible (first|refine wq M ?_|(refine wS M ?_;clear M;intro w M)|(refine wV M ?_;clear M;intro z w M)|(refine wR M ?_;clear M;intro q w M)))
      go_roundg (n3 - (j+1))
      case measure=>omega
      case rel=>exact⟨j+1,by omega,by go_num,M,HM4⟩
     |false=>
      have hsb:(nm.toList==wt.toList)=false:=hsm
      have hsn:(nm.toList !=wt.toList)=true:=by simp only[bne,hsb];rfl
      have HV:=Lib.hid (HM3.out (by rw[HMS.out,if_neg (by rw[hsm];simp)]))
      clear HMS HM2 HM3 hsm
      go_wp2_with (with_reducible (first|refine wq M ?_|(refine wS M ?_;clear M;intro w M)|(refine wV M ?_;clear M;intro z w M)|(refine wR M ?_;clear M;intro q w M)))
      ((refine wp_region_calm M (by kernel_rfl) (by kernel_rfl) ?_);(repeat((with_reducible refine c_list rfl fun K hK=>?_);(first|(refine c_load (l' :=?_) ⟨_,M⟩ (fun w M=>?_) ?_;rotate_left;focus((first|(refine q_cellat (HKT.out _ M.new) ?_)|(refine q_cellat (HTN.out _ M.new) ?_)|(refine q_cellat (HWC.out _ M.new) ?_)|refine q_get M (by exact rfl) ?_);refine⟨rfl,?_⟩;with_reducible rfl))|(refine c_pure (v:=?_) (fun w=>?_) ?_;rotate_left;focus(go_simp;try with_reducible rfl)));(try go_simp);with_reducible refine hK _ ?_;clear hK K));(refine wpQuiet_nil ?_);clear M;intro w M)
      go_wp2_with (with_reducible (first|refine wq M ?_|(refine wS M ?_;clear M;intro w M)|(refine wV M ?_;clear M;intro z w M)|(refine wR M ?_;clear M;intro q w M)))
      go_ret2
      rw[HV.out]
      exact⟨rfl,M.new⟩
    ·have hjn:j=tuple.length:=by have:=N3.out;omega
     have hmz:AllZ (misE b.types R.whens tuple) tuple.length:=by rw[←hjn];exact HM.out
     have HV:=Lib.hid (HVN.out HZF.out HLN.out hmz)
     have HF2:=Lib.hid (HFD.out HZF.out HLN.out hmz)
     clear HM hjn hmz HMI HZF HVN HFD
     generalize (!blockedB b.types R tuple all&&enoughB b.types R tuple all)=bl at HV HF2
     go_wp2_with (first|(with_reducible refine wq M ?_)|(go_at_call 27;with_reducible refine(HF2.out _ M.new).mono ?_;rintro e w5 ⟨rfl,hb5⟩;replace M:=M.below hb5;clear hb5))
     go_ret2
     rw[HV.out]
     exact⟨rfl,M.new⟩
theorem firedOf_any(hg:g<w0.heap.size)(E:Env F w0)(hF: ∀ b,F b→b<w0.heap.size)(b:Bok)(a1:Option Addr)(n1 c1:Nat)(a2:Option Addr)(n2 c2:Nat)(X1:SlF F w0 2 typF a1 n1 c1 b.types)(X2:SlF F w0 7 rulF a2 n2 c2 b.rules)(hts: ∀ t∈b.types,typOk t)(hrs: ∀ x∈b.rules,RulFit x)(hes: ∀ x∈b.rules,x.etype.size≤maxLen)(rule:Int)(a3:Option Addr)(n3 c3:Nat)(tuple:List Eve)(X3:SlF F3 w0 5 eveF a3 n3 c3 tuple)(hto: ∀ x∈tuple,eveOk x)(a4:Option Addr)(n4 c4:Nat)(all:List Eve)(X4:SlF F3 w0 5 eveF a4 n4 c4 all)(hao: ∀ x∈all,eveOk x):Calls Tryz.prog 11 #[.agg #[.slice a1 n1 c1,.slice a2 n2 c2],.int .i64 rule,.slice a3 n3 c3,.slice a4 n4 c4] w0 fun e w' =>e= .returned (.tuple #[.bool (firesE b rule tuple all).1,.int .i64 (firesE b rule tuple all).2])∧Below w0.heap.size w0 w' :=by
 by_cases h0:eventsE b all=0
 ·by_cases hr:0≤rule∧rule<b.rules.length
  ·exact firedOf_main hg E hF b a1 n1 c1 a2 n2 c2 X1 X2 hts hrs hes rule a3 n3 c3 tuple X3 hto a4 n4 c4 all X4 hao h0 hr
  ·exact firedOf_norule hg E hF b a1 n1 c1 a2 n2 c2 X1 X2 hts hrs hes rule a3 n3 c3 tuple X3 hto a4 n4 c4 all X4 hao h0 hr
 ·exact firedOf_bad hg E hF b a1 n1 c1 a2 n2 c2 X1 X2 hts hrs hes rule a3 n3 c3 tuple X3 hto a4 n4 c4 all X4 hao h0
end
end Go.Proofs.YtfahleafppfkaaaGreatDoor
/-
  The walk of the law WatchFires: the program's answer and the reference's are the same. Printed by wao.py.
-/
namespace Go.Proofs.YtfahleafppfkaaaGreatDoor
open Go.ChangeShapes Go.WideShapes Go.ChangeAt Go.RowKit Go.Joins Go.Deep
set_option linter.unusedVariables false
set_option linter.unusedSimpArgs false
set_option maxRecDepth 100000 in
theorem open_eves{H:Type}{enc:TypeId×Value→H}{W:World}{base:Nat}{v:Value}{d:DataW H}{ps:List MemPlace}(hv:Value.okWide Tryz.prog W .any base 26 v)(h:DataW.Trod enc Tryz.prog W 0 (fun _=>true) true 26 v d ps)(hlt: ∀ p∈ps,p.block<W.heap.size)(hB: ∀ q∈d.weights Tryz.prog 26,q≤reachBytes):
  ∃ (l:List Eve) (ao:Option Addr) (n cap:Nat),v= .slice ao n cap∧SlF (under W.heap.size) W 5 eveF ao n cap l∧(∀ x∈l,eveOk x)∧n*56≤140737488351232:=by
 obtain⟨qa,qb,qc,rfl⟩:=okWide_slice Tryz.underlying26 hv
 obtain⟨l,ao,n,cap,e,S,h8⟩:=open_arg opens_events (by simp[Value.cells]) h hlt hB
 simp only[Value.cells,List.cons.injEq,and_true,Value.slice.injEq]at e
 obtain⟨rfl,rfl,rfl⟩:=e
 have S' :SlF (under W.heap.size) W 5 (fun F w row x=>eveF F w row x∧eveOk x) qa qb qc l:=S
 refine⟨l,qa,qb,qc,rfl,S'.split.1,S'.split.2,?_⟩
 rw[S.len]
 omega
section
set_option maxRecDepth 8000 in
set_option maxHeartbeats 4000000 in
theorem watchFires_walk(b:Bok)(a1:Option Addr)(n1 c1:Nat)(a2:Option Addr)(n2 c2:Nat)(rule:Int)(a3:Option Addr)(n3 c3:Nat)(tuple:List Eve)(a4:Option Addr)(n4 c4:Nat)(all:List Eve)(w0:World)(X1:SlF (under w0.heap.size) w0 2 typF a1 n1 c1 b.types)(X2:SlF (under w0.heap.size) w0 7 rulF a2 n2 c2 b.rules)(hts: ∀ t∈b.types,typOk t)(hrs: ∀ x∈b.rules,RulFit x)(hes: ∀ x∈b.rules,x.etype.size≤maxLen)
  (X3:SlF (under w0.heap.size) w0 5 eveF a3 n3 c3 tuple)(hto: ∀ x∈tuple,eveOk x)(hn3:n3*56≤140737488351232)(X4:SlF (under w0.heap.size) w0 5 eveF a4 n4 c4 all)(hao: ∀ x∈all,eveOk x)(hn4:n4*56≤140737488351232)
  (hK:SlF (under w0.heap.size) w0 1 wordF (some ⟨0,0,none⟩) 17 17 keptL)(hR:SlF (under w0.heap.size) w0 1 wordF (some ⟨1,0,none⟩) 14 14 relsL):
  Calls Tryz.prog 4 #[.agg #[.slice a1 n1 c1,.slice a2 n2 c2],.int .i64 rule,.slice a3 n3 c3,.slice a4 n4 c4] w0 fun e w' =>e= .returned (.bool true)∧Below w0.heap.size w0 w' :=by
 have E:Env (under w0.heap.size) w0:=⟨hK,hR⟩
 have M:=Mem.begin E.lt ⟨0,0⟩
 have HCP3:=Lib.hid (fun wx (hb:Below w0.heap.size w0 wx)=>copy_eves X3 (by omega) hb)
 have HCP4:=Lib.hid (fun wx (hb:Below w0.heap.size w0 wx)=>copy_eves X4 (by omega) hb)
 have HC:Hid (∀ wx a' c' a'' c'',Below w0.heap.size w0 wx→SlF (under wx.heap.size) wx 5 eveF a' n3 c' tuple→SlF (under wx.heap.size) wx 5 eveF a'' n4 c'' all→Calls Tryz.prog 10 #[.agg #[.slice a1 n1 c1,.slice a2 n2 c2],.int .i64 rule,.slice a' n3 c',.slice a'' n4 c''] wx fun e w' =>e= .returned (.tuple #[.bool (firesE b rule tuple all).1,.int .i64 (firesE b rule tuple all).2])∧Below wx.heap.size wx w'):=fun wx a' c' a'' c'' hb hS hS' =>
  fires_any (E.below hb).lt (E.below hb) (fun k hk=>Nat.lt_of_lt_of_le hk hb.size) b a1 n1 c1 a2 n2 c2 (X1.below typF_firm hb) (X2.below rulF_firm hb) hts hrs hes rule a' n3 c' tuple hS hto a'' n4 c'' all hS' hao
 have HB:Hid (∀ wx,Below w0.heap.size w0 wx→Calls Tryz.prog 11 #[.agg #[.slice a1 n1 c1,.slice a2 n2 c2],.int .i64 rule,.slice a3 n3 c3,.slice a4 n4 c4] wx fun e w' =>e= .returned (.tuple #[.bool (firesE b rule tuple all).1,.int .i64 (firesE b rule tuple all).2])∧Below wx.heap.size wx w'):=fun wx hb=>
  firedOf_any (E.below hb).lt (E.below hb) (fun k hk=>Nat.lt_of_lt_of_le hk hb.size) b a1 n1 c1 a2 n2 c2 (X1.below typF_firm hb) (X2.below rulF_firm hb) hts hrs hes rule a3 n3 c3 tuple (X3.below eveF_firm hb) hto a4 n4 c4 all (X4.below eveF_firm hb) hao
 have HWD:Hid (∀ (wx wy:World) (a' :Option Addr) (n' c' :Nat) (l:List Eve),Below wx.heap.size wx wy→SlF (under wx.heap.size) wx 5 eveF a' n' c' l→SlF (under wy.heap.size) wy 5 eveF a' n' c' l):=fun wx wy a' n' c' l hb hS=>(hS.below eveF_firm hb).wide eveF_firm (fun c hc _=>Nat.lt_of_lt_of_le hc hb.size)
 generalize firesE b rule tuple all=v at HC HB
 obtain⟨v1,v2⟩:=v
 clear X1 X2 X3 X4 hts hrs hes hto hao hn3 hn4 hK hR E
 go_enter Tryz.func4,Tryz.ntmps4
 go_wp2_with (with_reducible (refine wB (L:=[]) M ?_;clear M;intro za w1 M))
 (refine wp_region_any (by kernel_rfl) ?_;(try(change wpAny _ _ _ _ _ _ _ (World.drew _)));replace M:=M.drew;generalize World.drew _=w at M ⊢;have S:=St.o;((refine tk 1 (v:=?_) rfl (by kernel_rfl) rfl ?_ ?_;rotate_left;focus(intro w;go_simp;try with_reducible rfl));(try go_simp);(refine tk 2 (v:=?_) rfl (by kernel_rfl) rfl ?_ ?_;rotate_left;focus(intro w;go_simp;try with_reducible rfl));(try go_simp);(refine tk 4 (v:=?_) rfl (by kernel_rfl) rfl ?_ ?_;rotate_left;focus(intro w;go_simp;try with_reducible rfl));(try go_simp);replace S:=S.add 22;refine rd2 0 3 (by kernel_rfl) rfl rfl ?_ rfl rfl ?_<;>intro K hK);all_goals(first|(refine o_dst (some 14) ?_;(refine q_all M (by rfl) ?_);(all_goals(refine hK _ _ ?_;clear hK K;replace S:=S.add 1)))|(refine o_dst (some 17) ?_;(refine o_dst (some 17) ?_;obtain⟨ao1,cap1,w6,hrun,hS3,hb6⟩:=HCP3.out _ M.new;refine owp_of (wp_append_run _ _ 26 rfl rfl rfl rfl hrun ?_);replace M:=M.below hb6;clear hrun hb6;go_simp);(all_goals(refine hK _ _ ?_;clear hK K;replace S:=S.add 8))));all_goals(first|(replace S:St 23:=S;refine rd1 3 (by kernel_rfl) rfl rfl ?_<;>intro K hK)|(replace S:St 30:=S;refine rd2 0 5 (by kernel_rfl) rfl rfl ?_ rfl rfl ?_<;>intro K hK));all_goals(first|(refine o_dst (some 17) ?_;(refine o_dst (some 17) ?_;obtain⟨ao1,cap1,w6,hrun,hS3,hb6⟩:=HCP3.out _ M.new;refine owp_of (wp_append_run _ _ 26 rfl rfl rfl rfl hrun ?_);replace M:=M.below hb6;clear hrun hb6;go_simp);(all_goals(refine hK _ _ ?_;clear hK K;replace S:=S.add 8)))|(refine o_dst (some 14) ?_;(refine q_all M (by rfl) ?_);(all_goals(refine hK _ _ ?_;clear hK K;replace S:=S.add 1)))|(refine o_dst (some 19) ?_;(refine o_dst (some 19) ?_;obtain⟨ao2,cap2,w7,hrun,hS4,hb7⟩:=HCP4.out _ M.new;refine owp_of (wp_append_run _ _ 26 rfl rfl rfl rfl hrun ?_);replace M:=M.below hb7;(try replace hS3:=HWD.out _ _ _ _ _ _ hb7 hS3);clear hrun hb7;go_simp);(all_goals(refine hK _ _ ?_;clear hK K;replace S:=S.add 32))));all_goals(first|(replace S:St 31:=S;refine rd1 5 (by kernel_rfl) rfl rfl ?_<;>intro K hK)|(replace S:St 62:=S;refine rd1 0 (by kernel_rfl) rfl rfl ?_<;>intro K hK));all_goals(first|(refine o_dst (some 19) ?_;(refine o_dst (some 19) ?_;obtain⟨ao2,cap2,w7,hrun,hS4,hb7⟩:=HCP4.out _ M.new;refine owp_of (wp_append_run _ _ 26 rfl rfl rfl rfl hrun ?_);replace M:=M.below hb7;(try replace hS3:=HWD.out _ _ _ _ _ _ hb7 hS3);clear hrun hb7;go_simp);(all_goals(refine hK _ _ ?_;clear hK K;replace S:=S.add 32)))|(refine o_dst (some 14) ?_;(refine q_all M (by rfl) ?_);(all_goals(refine hK _ _ ?_;clear hK K;replace S:=S.add 1))));all_goals(refine rd1 6 (by kernel_rfl) rfl rfl ?_<;>intro K hK);all_goals(refine o_dst (some 20) ?_;(refine owp_of ?_;go_simp;(go_at_call 10;with_reducible refine(HC.out _ _ _ _ _ M.new hS3 hS4).mono ?_;rintro e w5 ⟨rfl,hb5⟩;replace M:=M.below hb5;clear hb5 hS3 hS4);(try go_simp));(all_goals(refine hK _ _ ?_;clear hK K;replace S:=S.add 64)));all_goals(clear S;((refine tk 7 (v:=?_) rfl (by kernel_rfl) rfl ?_ ?_;rotate_left;focus(intro w;go_simp;try with_reducible rfl));(try go_simp);(refine tk 8 (v:=?_) rfl (by kernel_rfl) rfl ?_ ?_;rotate_left;focus(intro w;go_simp;try with_reducible rfl));(try go_simp);(refine tk 9 (v:=?_) rfl (by kernel_rfl) rfl ?_ ?_;rotate_left;focus(intro w;go_simp;try with_reducible rfl));(try go_simp);(refine tk 10 (v:=?_) rfl (by kernel_rfl) rfl ?_ ?_;rotate_left;focus(intro w;go_simp;try with_reducible rfl));(try go_simp);(refine tk 11 (v:=?_) rfl (by kernel_rfl) rfl ?_ ?_;rotate_left;focus(intro w;go_simp;try with_reducible rfl));(try go_simp);refine wpAny_done (by kernel_rfl) ?_ _)))
 all_goals
  go_wp2_with (first|(with_reducible refine wq M ?_)|(go_at_call 11;with_reducible refine(HB.out _ M.new).mono ?_;rintro e w5 ⟨rfl,hb5⟩;replace M:=M.below hb5;clear hb5))
  go_ret
  exact⟨ret_bool (by simp),M.new⟩
end
end Go.Proofs.YtfahleafppfkaaaGreatDoor
namespace Go.Proofs.YtfahleafppfkaaaGreatDoor
open Go.ChangeShapes Go.WideShapes Go.ChangeAt Go.RowKit Go.Joins
open Go.ChangeMaps (setBlock shut_map_nil open_string shut_string keptBut_setBlock frozen?_setBlock heap_setBlock_same)
set_option linter.unusedVariables false
theorem g_rels:Tryz.prog.globalNamed "dotterel/parse.relations" =some 1:=by kernel_rfl
theorem gt_rels:(Tryz.prog.globals[1]?).map (·.type)=some 150:=by kernel_rfl
theorem gc_rels:Tryz.prog.cellsOf 150=14:=by kernel_rfl
theorem g_kept:Tryz.prog.globalNamed "dotterel/parse.kept" =some 0:=by kernel_rfl
theorem gt_kept:(Tryz.prog.globals[0]?).map (·.type)=some 149:=by kernel_rfl
theorem gc_kept:Tryz.prog.cellsOf 149=17:=by kernel_rfl
theorem cells_string:Tryz.prog.cellsOf 9=1:=by kernel_rfl
noncomputable def laidWorld (os:Os):World:=
 {World.holding Tryz.prog os ⟨#[], #[],[]⟩with heap:=(layCells (layCells (World.holding Tryz.prog os ⟨#[], #[],[]⟩).heap 1 (relsL.map Value.string).toArray) 0 (keptL.map Value.string).toArray)}
theorem laid_met(os:Os):laidMet Tryz.prog Rows.watchFiresRow.laid ((laidWorld os).forCall (fun _ _=>0) ⟨#[], #[.agg #[.slice none 0 0,.slice none 0 0],.int .i64 0,.slice none 0 0,.slice none 0 0],[]⟩).memory:=
 laidMet_of_run' 8 (by kernel_rfl) (by kernel_rfl)
theorem reads(os:Os){H:Type}(enc:TypeId×Value→H): ∃ places,DataW.whole enc Tryz.prog ((laidWorld os).forCall (fun _ _=>0) ⟨#[], #[.agg #[.slice none 0 0,.slice none 0 0],.int .i64 0,.slice none 0 0,.slice none 0 0],[]⟩).memory Tryz.f4.params.toList Rows.watchFiresSpec.vars false #[(.agg #[.slice none 0 0,.slice none 0 0]:Value),(.int .i64 0:Value),(.slice none 0 0:Value),(.slice none 0 0:Value)].toList 8=some ([.agg [.nil,.nil],.lit (.int .i64 0),.nil,.nil],[],places):=
 ⟨[],by kernel_rfl⟩
set_option maxRecDepth 100000 in
theorem watchFires_lifted(os:Os)(started:os.Started)(H:Type)(enc:TypeId×Value→H)(F:Stop.Interp):
  ReturnsInHanded {} Tryz.checked os 4 .any ((OpenSpec.ofChange Rows.watchFiresSpec).preRow enc Tryz.prog Tryz.f4 Rows.watchFiresRow.domain false Rows.watchFiresRow.laid) (((OpenSpec.ofChange Rows.watchFiresSpec).at F).post enc Tryz.prog Tryz.f4 false true false false):=by
 have hp:Tryz.f4.params= #[25,3,26,26]:=Tryz.params4
 obtain⟨places,hx⟩:=reads os enc
 refine lawrow_lift (C:=Tryz.checked) (fn:=Tryz.f4) (s:=Rows.watchFiresSpec) (tb:=4) own_knob started (by kernel_rfl) Tryz.func4 laid_out (by kernel_rfl) rfl (by kernel_rfl) Tryz.underlying4
  (fun ds hl=>by rw[hp]at hl;exact(by match ds,hl with|[_,_,_,_],_=>rfl))
  (witness_row_at (enc:=enc) (C:=Tryz.checked) false (laidWorld os) #[.agg #[.slice none 0 0,.slice none 0 0],.int .i64 0,.slice none 0 0,.slice none 0 0] rfl (by kernel_rfl) (by kernel_rfl) (by kernel_rfl)
   (OpenSpec.preRow_of_cond 8 hx (by kernel_rfl) (fun k hk=>by cases hk) (by kernel_rfl) (laid_met os))) ?_
 intro W base args ds ps hval0 hA0 hlt hsz0 hL
 have hval: ∀ (j:Nat) t v,Tryz.f4.params[j]?=some t→args[j]?=some v→Value.okWide Tryz.prog W .any base t v:=hval0
 have hA:DataW.TrodAll enc Tryz.prog W 0 (fun _=>true) true Tryz.f4.params.toList args.toList ds ps:=hA0
 have hsz:(DataW.weightsEach Tryz.prog Tryz.f4.params.toList ds).all (· ≤reachBytes)=true:=hsz0
 rw[hp]at hA hval hsz
 clear hA0 hval0 hsz0
 have hL' :laidMet Tryz.prog [("dotterel/parse.relations",wordsData relsL),("dotterel/parse.kept",wordsData keptL)] W:=hL
 have c_rels:=words_of_head g_rels gt_rels Tryz.underlying150 Tryz.underlying9 cells_string gc_rels (zs:=relsL) hL'
 have b_rels:1<W.heap.size:=World.block_lt_of_cell? W ⟨1,0,none⟩ (c_rels 0 (by decide))
 have S_rels:SlF (under W.heap.size) W 1 wordF (some ⟨1,0,none⟩) 14 14 relsL:=words_cells b_rels b_rels rfl (by omega) c_rels
 have c_kept:=words_of_head g_kept gt_kept Tryz.underlying149 Tryz.underlying9 cells_string gc_kept (zs:=keptL) (laidMet.tail hL')
 have b_kept:0<W.heap.size:=World.block_lt_of_cell? W ⟨0,0,none⟩ (c_kept 0 (by decide))
 have S_kept:SlF (under W.heap.size) W 1 wordF (some ⟨0,0,none⟩) 17 17 keptL:=words_cells b_kept b_kept rfl (by omega) c_kept
 obtain⟨v0,v1,v2,v3,d0,d1,d2,d3,p0,p1,p2,p3,rfl,rfl,rfl,h0,h1,h2,h3⟩:=trodAll_four hA
 obtain⟨b0,p0,q0,r0,p10,q10,r10,rfl,S0,T0,U0,V0,W0⟩:=open_bok (hval 0 25 v0 rfl rfl) h0 (fun p hp=>hlt p (by simp[hp])) (fun q hq=>by simpa using List.all_eq_true.1 hsz q (DataW.weights_mem_each (j:=0) rfl rfl q hq))
 obtain⟨x1,rfl,rfl,rfl,wf1⟩:=open_int Tryz.underlying3 (hval 1 3 v1 rfl rfl) h1
 obtain⟨l2,ao2,n2,cap2,rfl,S2,z2,y2⟩:=open_eves (hval 2 26 v2 rfl rfl) h2 (fun p hp=>hlt p (by simp[hp])) (fun q hq=>by simpa using List.all_eq_true.1 hsz q (DataW.weights_mem_each (j:=2) rfl rfl q hq))
 obtain⟨l3,ao3,n3,cap3,rfl,S3,z3,y3⟩:=open_eves (hval 3 26 v3 rfl rfl) h3 (fun p hp=>hlt p (by simp[hp])) (fun q hq=>by simpa using List.all_eq_true.1 hsz q (DataW.weights_mem_each (j:=3) rfl rfl q hq))
 exact watchFires_walk b0 _ _ _ _ _ _ x1 _ _ _ l2 _ _ _ l3 W S0 T0 U0 V0 W0 S2 z2 y2 S3 z3 y3 S_kept S_rels
theorem watchFires_said:Rows.WatchFiresSaid:=
 OpenClaim.holds_of_cond 4 Tryz.f4 rfl rfl rfl rfl rfl rfl rfl ⟨rfl,rfl,rfl,rfl,rfl⟩ rfl rfl rfl rfl rfl (by kernel_rfl) Tryz.func4 (by kernel_rfl)
  (of_decide_eq_true (by kernel_rfl)) (by unfold Func.isWrapper;first|(rw[if_pos (by decide+kernel)];kernel_rfl)|(rw[if_neg (by decide+kernel)];exact⟨rfl,rfl⟩))
  (fun os started H enc _ F=>by rw[OpenClaim.pre_eq_preRow];exact watchFires_lifted os started H enc F)
theorem plainCard(f:FuncId)(fn:Func)(hf:Tryz.pinned.checked.prog.funcNamed "dotterel/dotterellaw.WatchFires" =some f)(hfn:Tryz.pinned.checked.prog.funcs[f]?=some fn):
  false=Tryz.pinned.checked.prog.looks []∧ ∀ (j:Nat) t,fn.params[j]?=some t→Tryz.pinned.checked.prog.wantsStandIn t=false:=by
 obtain rfl:f=4:=Option.some.inj ((show Tryz.prog.funcNamed "dotterel/dotterellaw.WatchFires" =some 4 by kernel_rfl).symm.trans hf) |>.symm
 obtain rfl:fn=Tryz.f4:=(Option.some.inj (Tryz.func4.symm.trans hfn)).symm
 refine⟨by kernel_rfl,fun j t ht=>?_⟩
 have hp:Tryz.f4.params= #[25,3,26,26]:=Tryz.params4
 rw[hp]at ht
 have h:=Array.mem_of_getElem? ht
 simp only[List.mem_toArray,List.mem_cons,List.not_mem_nil,or_false]at h
 rcases h with rfl|rfl|rfl|rfl<;>(show Tryz.prog.wantsStandIn _=false;kernel_rfl)
theorem watchFires_holds:Rows.WatchFiresCardSaid:=
 Claim7.holds_tied_plain_at .later [] _ _ _ _ watchFires_said (fun _ h=>by cases h) (by kernel_rfl) (fun _ h=>by cases h) watchFires_row_tie rfl ⟨rfl,rfl⟩ (by kernel_rfl) rfl plainCard (by kernel_rfl)
#print axioms watchFires_holds
end Go.Proofs.YtfahleafppfkaaaGreatDoor
