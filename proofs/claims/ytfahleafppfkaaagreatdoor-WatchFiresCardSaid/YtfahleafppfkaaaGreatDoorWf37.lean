/-
  The walk of watch.Fires. Printed by waf.py.
-/
import Derived.Test.YtfahleafppfkaaaGreatDoorWf34
import Derived.Test.YtfahleafppfkaaaGreatDoorWf36
namespace Go.Proofs.YtfahleafppfkaaaGreatDoor
open Go.RowKit
set_option linter.unusedVariables false
set_option linter.unusedSimpArgs false
theorem firesR_ev{ts:List Typ}{R:Rul}{tuple all:List Eve}{j:Nat}(hz:AllZ (evE ts tuple) j)(hj:j<tuple.length){e:Int}(he:evE ts tuple j=e)(hn:e≠0):firesR ts R tuple all=(false,e):=by
 have hf:=firstN_at hz hj (by rw[he];exact hn)
 unfold firesR
 rw[if_pos (by rw[hf,he];exact hn),hf,he]
theorem firesR_len{ts:List Typ}{R:Rul}{tuple all:List Eve}(hz:AllZ (evE ts tuple) tuple.length)(hl:tuple.length≠R.whens.length):firesR ts R tuple all=(false,4):=by
 unfold firesR
 rw[if_neg (by rw[firstN_zero hz];simp),if_pos hl]
theorem firesR_mis{ts:List Typ}{R:Rul}{tuple all:List Eve}(hz:AllZ (evE ts tuple) tuple.length)(hl:tuple.length=R.whens.length){j:Nat}(hm:AllZ (misE ts R.whens tuple) j)(hj:j<tuple.length)(he:misE ts R.whens tuple j=13):firesR ts R tuple all=(false,13):=by
 have hg:=firstN_at hm hj (by rw[he];decide)
 unfold firesR
 rw[if_neg (by rw[firstN_zero hz];simp),if_neg (fun h=>h hl),if_pos (by rw[hg,he];decide)]
theorem firesR_end{ts:List Typ}{R:Rul}{tuple all:List Eve}(hz:AllZ (evE ts tuple) tuple.length)(hl:tuple.length=R.whens.length)(hm:AllZ (misE ts R.whens tuple) tuple.length):firesR ts R tuple all=(!blockedB ts R tuple all&&enoughB ts R tuple all,0):=by
 unfold firesR
 rw[if_neg (by rw[firstN_zero hz];simp),if_neg (fun h=>h hl),if_neg (by rw[firstN_zero hm];simp)]
theorem fires_e1{b:Bok}{rule:Int}{tuple all:List Eve}(h:eventsE b all≠0):firesE b rule tuple all=(false,eventsE b all):=by unfold firesE;rw[if_pos h]
theorem fires_e2{b:Bok}{rule:Int}{tuple all:List Eve}(h0:eventsE b all=0)(h: ¬ (0≤rule∧rule<b.rules.length)):firesE b rule tuple all=(false,2):=by unfold firesE;rw[if_neg (by rw[h0];simp),if_pos h]
theorem fires_e3{b:Bok}{rule:Int}{tuple all:List Eve}(h0:eventsE b all=0)(h:0≤rule∧rule<b.rules.length)(hr:rule.toNat<b.rules.length):firesE b rule tuple all=firesR b.types b.rules[rule.toNat] tuple all:=by
 unfold firesE
 rw[if_neg (by rw[h0];simp),if_neg (fun hn=>hn h),show b.rules.getD rule.toNat rul00=b.rules[rule.toNat]by simp[List.getD,List.getElem?_eq_getElem hr]]
theorem events_parts{b:Bok}{l:List Eve}(h:eventsE b l=0):bookE b=0∧l.length≤120∧ ∀ x∈l,eventE b.types x.e x.vals=0:=by
 unfold eventsE at h
 by_cases h1:bookE b≠0
 ·rw[if_pos h1]at h;exact absurd h h1
 rw[if_neg h1]at h
 by_cases h2:120<l.length
 ·rw[if_pos h2]at h;exact absurd h (by decide)
 rw[if_neg h2]at h
 refine⟨Classical.not_not.1 h1,by omega,fun x hx=>?_⟩
 obtain⟨i,hi,rfl⟩:=List.mem_iff_getElem.1 hx
 have:=firstN_all h i hi
 unfold evesE at this
 rw[show l.getD i default=l[i]by simp[List.getD,List.getElem?_eq_getElem hi]]at this
 by_cases h3:eventE b.types l[i].e l[i].vals≠0
 ·rw[if_pos h3]at this;exact absurd this h3
 ·exact Classical.not_not.1 h3
section
variable {g:Nat} {F:Nat→Prop} {w0:World}
set_option maxRecDepth 8000 in
set_option maxHeartbeats 8000000 in
theorem fires_bad(hg:g<w0.heap.size)(E:Env F w0)(hF: ∀ b,F b→b<w0.heap.size)(b:Bok)(a1:Option Addr)(n1 c1:Nat)(a2:Option Addr)(n2 c2:Nat)(X1:SlF F w0 2 typF a1 n1 c1 b.types)(X2:SlF F w0 7 rulF a2 n2 c2 b.rules)(hts: ∀ t∈b.types,typOk t)(hrs: ∀ x∈b.rules,RulFit x)(hes: ∀ x∈b.rules,x.etype.size≤maxLen)(rule:Int)(a3:Option Addr)(n3 c3:Nat)(tuple:List Eve)(X3:SlF (under w0.heap.size) w0 5 eveF a3 n3 c3 tuple)(hto: ∀ x∈tuple,eveOk x)(a4:Option Addr)(n4 c4:Nat)(all:List Eve)(X4:SlF (under w0.heap.size) w0 5 eveF a4 n4 c4 all)(hao: ∀ x∈all,eveOk x)(h0:eventsE b all≠0):Calls Tryz.prog 10 #[.agg #[.slice a1 n1 c1,.slice a2 n2 c2],.int .i64 rule,.slice a3 n3 c3,.slice a4 n4 c4] w0 fun e w' =>e= .returned (.tuple #[.bool (firesE b rule tuple all).1,.int .i64 (firesE b rule tuple all).2])∧Below w0.heap.size w0 w' :=by
 have M:=Mem.begin hg ⟨0,0⟩
 have HC:Hid (∀ wx,Below w0.heap.size w0 wx→Calls Tryz.prog 18 #[.agg #[.slice a1 n1 c1,.slice a2 n2 c2],.slice a4 n4 c4] wx fun e w' =>e= .returned (.int .i64 (eventsE b all))∧Below wx.heap.size wx w'):=fun wx hb=>
  checkEvents_any (E.below hb).lt (E.below hb) (fun k hk=>Nat.lt_of_lt_of_le (hF k hk) hb.size) b a1 n1 c1 a2 n2 c2 (X1.below typF_firm hb) (X2.below rulF_firm hb) hts hrs hes a4 n4 c4 all (X4.below eveF_firm hb) hao
 have HV:Hid (firesE b rule tuple all=(false,eventsE b all)):=fires_e1 h0
 have hqb:(eventsE b all !=0)=true:=by simpa using h0
 generalize firesE b rule tuple all=T at HV ⊢
 generalize eventsE b all=q at HC HV hqb
 clear h0 X1 X2 X3 X4 hts hrs hes hto hao hg hF E
 go_enter Tryz.func10,Tryz.ntmps10
 go_wp2_with (first|(with_reducible (first|(refine wB (L:=[]) M ?_;clear M;intro za w1 M)|refine wq M ?_))|(go_at_call 18;with_reducible refine(HC.out _ M.new).mono ?_;rintro e w5 ⟨rfl,hb5⟩;replace M:=M.below hb5;clear hb5))
 go_ret2
 rw[HV.out]
 exact⟨rfl,M.new⟩
set_option maxRecDepth 8000 in
set_option maxHeartbeats 8000000 in
theorem fires_norule(hg:g<w0.heap.size)(E:Env F w0)(hF: ∀ b,F b→b<w0.heap.size)(b:Bok)(a1:Option Addr)(n1 c1:Nat)(a2:Option Addr)(n2 c2:Nat)(X1:SlF F w0 2 typF a1 n1 c1 b.types)(X2:SlF F w0 7 rulF a2 n2 c2 b.rules)(hts: ∀ t∈b.types,typOk t)(hrs: ∀ x∈b.rules,RulFit x)(hes: ∀ x∈b.rules,x.etype.size≤maxLen)(rule:Int)(a3:Option Addr)(n3 c3:Nat)(tuple:List Eve)(X3:SlF (under w0.heap.size) w0 5 eveF a3 n3 c3 tuple)(hto: ∀ x∈tuple,eveOk x)(a4:Option Addr)(n4 c4:Nat)(all:List Eve)(X4:SlF (under w0.heap.size) w0 5 eveF a4 n4 c4 all)(hao: ∀ x∈all,eveOk x)(h0:eventsE b all=0)(hr: ¬ (0≤rule∧rule<b.rules.length)):Calls Tryz.prog 10 #[.agg #[.slice a1 n1 c1,.slice a2 n2 c2],.int .i64 rule,.slice a3 n3 c3,.slice a4 n4 c4] w0 fun e w' =>e= .returned (.tuple #[.bool (firesE b rule tuple all).1,.int .i64 (firesE b rule tuple all).2])∧Below w0.heap.size w0 w' :=by
 have M:=Mem.begin hg ⟨0,0⟩
 have HC:Hid (∀ wx,Below w0.heap.size w0 wx→Calls Tryz.prog 18 #[.agg #[.slice a1 n1 c1,.slice a2 n2 c2],.slice a4 n4 c4] wx fun e w' =>e= .returned (.int .i64 (eventsE b all))∧Below wx.heap.size wx w'):=fun wx hb=>
  checkEvents_any (E.below hb).lt (E.below hb) (fun k hk=>Nat.lt_of_lt_of_le (hF k hk) hb.size) b a1 n1 c1 a2 n2 c2 (X1.below typF_firm hb) (X2.below rulF_firm hb) hts hrs hes a4 n4 c4 all (X4.below eveF_firm hb) hao
 have HV:Hid (firesE b rule tuple all=(false,2)):=fires_e2 h0 hr
 have N2:=X2.len
 rw[h0]at HC
 have hd:rule<0∨(¬ rule<0∧(n2:Int)≤rule):=by omega
 generalize firesE b rule tuple all=T at HV ⊢
 clear h0 hr N2 X1 X2 X3 X4 hts hrs hes hto hao hg hF E
 obtain⟨u1,hu1⟩: ∃ u1,decide (rule<0)=u1:=⟨_,rfl⟩
 obtain⟨u2,hu2⟩: ∃ u2,decide ((n2:Int)≤rule)=u2:=⟨_,rfl⟩
 have hu:Hid (u1=true∨u2=true):=by
  rcases hd with hd|⟨hd1,hd⟩
  ·exact .inl (by rw[←hu1];simpa using hd)
  ·exact .inr (by rw[←hu2];simpa using hd)
 clear hd
 cases u1<;>cases u2
 ·exact absurd hu.out (by simp)
 all_goals
  clear hu
  go_enter Tryz.func10,Tryz.ntmps10
  go_wp2_with (first|(with_reducible (first|(refine wB (L:=[]) M ?_;clear M;intro za w1 M)|refine wq M ?_))|(go_at_call 18;with_reducible refine(HC.out _ M.new).mono ?_;rintro e w5 ⟨rfl,hb5⟩;replace M:=M.below hb5;clear hb5))
  go_ret2
  rw[HV.out]
  exact⟨rfl,M.new⟩
set_option maxRecDepth 8000 in
set_option maxHeartbeats 8000000 in
theorem fires_main(hg:g<w0.heap.size)(E:Env F w0)(hF: ∀ b,F b→b<w0.heap.size)(b:Bok)(a1:Option Addr)(n1 c1:Nat)(a2:Option Addr)(n2 c2:Nat)(X1:SlF F w0 2 typF a1 n1 c1 b.types)(X2:SlF F w0 7 rulF a2 n2 c2 b.rules)(hts: ∀ t∈b.types,typOk t)(hrs: ∀ x∈b.rules,RulFit x)(hes: ∀ x∈b.rules,x.etype.size≤maxLen)(rule:Int)(a3:Option Addr)(n3 c3:Nat)(tuple:List Eve)(X3:SlF (under w0.heap.size) w0 5 eveF a3 n3 c3 tuple)(hto: ∀ x∈tuple,eveOk x)(a4:Option Addr)(n4 c4:Nat)(all:List Eve)(X4:SlF (under w0.heap.size) w0 5 eveF a4 n4 c4 all)(hao: ∀ x∈all,eveOk x)(h0:eventsE b all=0)(hr:0≤rule∧rule<b.rules.length):Calls Tryz.prog 10 #[.agg #[.slice a1 n1 c1,.slice a2 n2 c2],.int .i64 rule,.slice a3 n3 c3,.slice a4 n4 c4] w0 fun e w' =>e= .returned (.tuple #[.bool (firesE b rule tuple all).1,.int .i64 (firesE b rule tuple all).2])∧Below w0.heap.size w0 w' :=by
 have M:=Mem.begin hg ⟨0,0⟩
 have HC:Hid (∀ wx,Below w0.heap.size w0 wx→Calls Tryz.prog 18 #[.agg #[.slice a1 n1 c1,.slice a2 n2 c2],.slice a4 n4 c4] wx fun e w' =>e= .returned (.int .i64 (eventsE b all))∧Below wx.heap.size wx w'):=fun wx hb=>
  checkEvents_any (E.below hb).lt (E.below hb) (fun k hk=>Nat.lt_of_lt_of_le (hF k hk) hb.size) b a1 n1 c1 a2 n2 c2 (X1.below typF_firm hb) (X2.below rulF_firm hb) hts hrs hes a4 n4 c4 all (X4.below eveF_firm hb) hao
 have hrl:rule.toNat<b.rules.length:=by omega
 have HTE:=fires_e3 (tuple:=tuple) h0 hr hrl
 obtain⟨hbk,hal,hev⟩:=events_parts h0
 have N2:=X2.len
 have hd1:decide (rule<0)=false:=by simp;omega
 have hd2:decide ((n2:Int)≤rule)=false:=by simp;omega
 obtain⟨cr,or,rowr,hixr, -,hrrr,hwr⟩:=SlF.rowAt (P:=Tryz.prog) X2 rulF_firm Tryz.underlying23 size_rul (i:=rule.toNat) hrl
 rw[show((rule.toNat:Nat):Int)=rule from Int.toNat_of_nonneg hr.1]at hixr
 obtain⟨b1,m1,e1,b2,m2,e2,b3,m3,e3,b4,m4,e4,b6,m6,e6,er,Y1,Y2,Y3, -, -⟩:=hrrr
 subst er
 have HR1:Hid (∀ wx,Below w0.heap.size w0 wx→wx.cell? ⟨cr,or+1,none⟩=some (.slice b1 m1 e1)):=fun wx hb=>(hwr wx hb).1 1 _ rfl
 rw[h0]at HC
 have HVE:Hid (∀ {j:Nat},AllZ (evE b.types tuple) j→j<tuple.length→ ∀ {e:Int},evE b.types tuple j=e→e≠0→firesE b rule tuple all=(false,e)):=fun hz hj e he hn=>HTE.trans (firesR_ev hz hj he hn)
 have HVF:Hid (AllZ (evE b.types tuple) tuple.length→tuple.length≠b.rules[rule.toNat].whens.length→firesE b rule tuple all=(false,4)):=fun hz hf=>HTE.trans (firesR_len hz hf)
 have HVM:Hid (AllZ (evE b.types tuple) tuple.length→tuple.length=b.rules[rule.toNat].whens.length→ ∀ {j:Nat},AllZ (misE b.types b.rules[rule.toNat].whens tuple) j→j<tuple.length→misE b.types b.rules[rule.toNat].whens tuple j=13→firesE b rule tuple all=(false,13)):=fun hz hf j hm hj he=>HTE.trans (firesR_mis hz hf hm hj he)
 have HVN:Hid (AllZ (evE b.types tuple) tuple.length→tuple.length=b.rules[rule.toNat].whens.length→AllZ (misE b.types b.rules[rule.toNat].whens tuple) tuple.length→firesE b rule tuple all=(!blockedB b.types b.rules[rule.toNat] tuple all&&enoughB b.types b.rules[rule.toNat] tuple all,0)):=fun hz hf hm=>HTE.trans (firesR_end hz hf hm)
 have HGR:Hid (∀ wx zg,Below w0.heap.size w0 wx→zg<wx.heap.size→wx.rangeAt zg 0 [.slice a1 n1 c1,.slice a2 n2 c2,.int .i64 rule,.slice a3 n3 c3,.slice a4 n4 c4]→AllZ (evE b.types tuple) tuple.length→tuple.length=b.rules[rule.toNat].whens.length→AllZ (misE b.types b.rules[rule.toNat].whens tuple) tuple.length→Grd F wx zg ⟨a1,n1,c1,a2,n2,c2,a3,n3,c3,a4,n4,c4⟩ b rule.toNat b.rules[rule.toNat] tuple all):=fun wx zg hb hz hcl hze hl hm=>
  have hev3: ∀ x∈tuple,eventE b.types x.e x.vals=0:=fun x hx=>by
   obtain⟨i,hi,rfl⟩:=List.mem_iff_getElem.1 hx
   have:=hze i hi
   rwa[evE_at hi]at this
  {lt:=hz,cells:=by rw[show((rule.toNat:Nat):Int)=rule from Int.toNat_of_nonneg hr.1];exact hcl,env:=E.below hb,far:=fun k hk=>Nat.lt_of_lt_of_le (hF k hk) hb.size,types:=X1.below typF_firm hb,rules:=X2.below rulF_firm hb,
   tup:=(X3.below eveF_firm hb).wide eveF_firm (fun c hc _=>Nat.lt_of_lt_of_le hc hb.size),alls:=(X4.below eveF_firm hb).wide eveF_firm (fun c hc _=>Nat.lt_of_lt_of_le hc hb.size),
   okT:=hts,okR:=hrs,okE:=hes,okU:=hto,okA:=hao,fewA:=hal,book:=hbk,is:=List.getElem?_eq_getElem hrl,
   may:=⟨fun i hi=>evGood_of (hev3 _ (List.getElem_mem hi)),fun i hi=>span_of (hev3 _ (List.getElem_mem hi)),hl,hm⟩,evU:=hev3,evA:=hev}
 have HT:=Lib.hid (fun wx (hb:Below w0.heap.size w0 wx)=>typ_R (X1.below typF_firm hb) hts)
 have HX1:=Lib.hid X1
 have HX3:=Lib.hid X3
 have HY1:=Lib.hid Y1
 have NW:Hid (m1=b.rules[rule.toNat].whens.length):=Y1.len
 have N3:Hid (n3=tuple.length):=X3.len
 have hle3:=X3.le
 have HTO:=Lib.hid hto
 generalize firesE b rule tuple all=T at HVE HVF HVM HVN ⊢
 generalize b.rules[rule.toNat]=R at *
 clear HTE h0 hr N2 hwr Y1 Y2 Y3 hrl X1 X2 X3 X4 hts hrs hes hto hao hF E hbk hal hev
 replace hg:=Lib.hid hg
 go_enter Tryz.func10,Tryz.ntmps10
 go_wp2_with (first|(with_reducible (first|(refine wB (L:=[]) M ?_;clear M;intro za w1 M)|refine wq M ?_|refine wC (HR1.out _ M.new) ?_))|(go_at_call 18;with_reducible refine(HC.out _ M.new).mono ?_;rintro e w5 ⟨rfl,hb5⟩;replace M:=M.below hb5;clear hb5))
 go_loopg [41] n3 (fun f i wr=> ∃ (j:Nat),j+f=n3∧i= .int .i64 j∧Mem (StaysB g w0) g w0 wr ⟨0,0⟩ (own za [.slice a1 n1 c1,.slice a2 n2 c2] 25::[])∧Hid (AllZ (evE b.types tuple) j))
 case atStart=>exact⟨0,by omega,rfl,M,allZ_zero _⟩
 case round=>
  clear M
  obtain⟨j,hj,rfl,M,HZ⟩:=hrel
  by_cases hlt:j<n3
  ·have hkl:j<tuple.length:=by have:=N3.out;omega
   obtain⟨ck,ok,rowk,hixk, -,hrrk,hwk⟩:=SlF.rowAt (P:=Tryz.prog) HX3.out eveF_firm Tryz.underlying26 size_eve (i:=j) hkl
   obtain⟨p2,q2,s2,et,ut⟩:=hrrk
   subst et
   have HRK:=Lib.hid (fun wx hb=>(hwk wx hb).1)
   have HEV:Hid (∀ wx,Below w0.heap.size w0 wx→Calls Tryz.prog 23 #[.slice a1 n1 c1,.agg #[.int .i64 tuple[j].e.number,.int .i64 tuple[j].e.type,.int .i64 tuple[j].e.start,.int .i64 tuple[j].e.stop,.slice p2 q2 s2]] wx fun e w' =>e= .returned (.int .i64 (eventE b.types tuple[j].e tuple[j].vals))∧Below wx.heap.size wx w'):=fun wx hb=>event_any a1 n1 c1 b.types tuple[j].e p2 q2 s2 tuple[j].vals wx (HT.out wx hb) (val_R (ut.below (plainF_firm _) hb) (HTO.out _ (List.getElem_mem hkl)))
   have HZ2:Hid (eventE b.types tuple[j].e tuple[j].vals=0→AllZ (evE b.types tuple) (j+1)):=fun h=>allZ_succ HZ.out (by rw[evE_at hkl];exact h)
   have HV2:Hid (∀ e,eventE b.types tuple[j].e tuple[j].vals=e→e≠0→T=(false,e)):=fun e he hn=>HVE.out HZ.out hkl (by rw[evE_at hkl];exact he) hn
   clear hwk ut HZ
   generalize tuple[j]=y at HRK HEV HZ2 HV2
   clear hkl
   by_cases hq:eventE b.types y.e y.vals=0
   ·have HZ3:=Lib.hid (HZ2.out hq)
    rw[hq]at HEV
    clear HZ2 HV2 hq
    go_wp2_with (first|(with_reducible (first|(refine wV M ?_;clear M;intro zX w M)|refine wq M ?_|(refine wS M ?_;clear M;intro w M)|refine wA (HRK.out _ M.new) ?_))|(go_at_call 23;with_reducible refine(HEV.out _ M.new).mono ?_;rintro e w5 ⟨rfl,hb5⟩;replace M:=M.below hb5;clear hb5))
    go_roundg (n3 - (j+1))
    case measure=>omega
    case rel=>exact⟨j+1,by omega,by go_num,M.drop,HZ3⟩
   ·have HV:=Lib.hid (HV2.out _ rfl hq)
    have hqb:(eventE b.types y.e y.vals !=0)=true:=by simpa using hq
    generalize eventE b.types y.e y.vals=te at HEV HV hqb
    clear HZ2 HV2 hq
    go_wp2_with (first|(with_reducible (first|(refine wV M ?_;clear M;intro zX w M)|refine wq M ?_|(refine wS M ?_;clear M;intro w M)|refine wA (HRK.out _ M.new) ?_))|(go_at_call 23;with_reducible refine(HEV.out _ M.new).mono ?_;rintro e w5 ⟨rfl,hb5⟩;replace M:=M.below hb5;clear hb5))
    go_ret2
    rw[HV.out]
    exact⟨rfl,M.new⟩
  ·have hjm:j=tuple.length:=by have:=N3.out;omega
   have HZF:Hid (AllZ (evE b.types tuple) tuple.length):=by show AllZ _ _;rw[←hjm];exact HZ.out
   clear HZ HVE hjm
   by_cases hln:tuple.length=R.whens.length
   rotate_left 1
   ·have HV:=Lib.hid (HVF.out HZF.out hln)
    have hfb:((n3:Int)!=(m1:Int))=true:=by have:=N3.out;have:=NW.out;simp;omega
    clear HZF HVF HVM HVN hln
    go_wp2_with (with_reducible (first|refine wq M ?_|(refine wS M ?_;clear M;intro w M)|(refine wV M ?_;clear M;intro z w M)|(refine wR M ?_;clear M;intro q w M)))
    go_ret2
    rw[HV.out]
    exact⟨rfl,M.new⟩
   have HLN:=Lib.hid hln
   have hfb:((n3:Int)!=(m1:Int))=false:=by have:=N3.out;have:=NW.out;simp;omega
   have HMI:Hid (∀ {j:Nat},AllZ (misE b.types R.whens tuple) j→j<tuple.length→misE b.types R.whens tuple j=13→T=(false,13)):=fun hm hj he=>HVM.out HZF.out hln hm hj he
   clear HVF HVM
   go_wp2_with (with_reducible (first|refine wq M ?_|(refine wS M ?_;clear M;intro w M)|(refine wV M ?_;clear M;intro z w M)|(refine wR M ?_;clear M;intro q w M)))
   go_loopg [60] n3 (fun f i wr=> ∃ (j:Nat),j+f=n3∧i= .int .i64 j∧Mem (StaysB g w0) g w0 wr ⟨0,0⟩ (own za [.slice a1 n1 c1,.slice a2 n2 c2] 25::[])∧Hid (AllZ (misE b.types R.whens tuple) j))
   case atStart=>exact⟨0,by omega,rfl,M,allZ_zero _⟩
   case round=>
    clear M
    obtain⟨j,hj,rfl,M,HM⟩:=hrel
    by_cases hlt:j<n3
    ·skip
     have hkl:j<tuple.length:=by have:=N3.out;omega
     have hwl:j<R.whens.length:=by have:=HLN.out;omega
     obtain⟨ck,ok,rowk,hixk, -,hrrk,hwk⟩:=SlF.rowAt (P:=Tryz.prog) HX3.out eveF_firm Tryz.underlying26 size_eve (i:=j) hkl
     obtain⟨p2,q2,s2,et, -⟩:=hrrk
     subst et
     have HRK:=Lib.hid (fun wx hb=>(hwk wx hb).1)
     have HKT:Hid (∀ wx,Below w0.heap.size w0 wx→wx.cell? ⟨ck,ok+1,none⟩=some (.int .i64 tuple[j].e.type)):=fun wx hb=>(hwk wx hb).1 1 _ rfl
     obtain⟨cw,ow,roww,hixw, -,hrrw,hww⟩:=SlF.rowAt (P:=Tryz.prog) HY1.out patF_firm Tryz.underlying53 size_pat (i:=j) hwl
     obtain⟨p3,q3,s3,ew, -⟩:=hrrw
     subst ew
     have HWC:Hid (∀ wx,Below w0.heap.size w0 wx→wx.cell? ⟨cw,ow+1,none⟩=some (.string R.whens[j].type)):=fun wx hb=>(hww wx hb).1 1 _ rfl
     have hgy:=evGood_of (show eventE b.types tuple[j].e tuple[j].vals=0 by have h:=HZF.out j hkl;rwa[evE_at hkl]at h)
     have htl:tuple[j].e.type.toNat<b.types.length:=by have:=hgy.lo;have:=hgy.hi;omega
     obtain⟨ct,ot,rowt,hixt, -,hrrt,hwt⟩:=SlF.rowAt (P:=Tryz.prog) HX1.out typF_firm Tryz.underlying22 size_typ (i:=tuple[j].e.type.toNat) htl
     rw[show((tuple[j].e.type.toNat:Nat):Int)=tuple[j].e.type from Int.toNat_of_nonneg hgy.lo]at hixt
     obtain⟨p4,q4,s4,e4t, -⟩:=hrrt
     subst e4t
     have hte:b.types[tuple[j].e.type.toNat]=evT b.types tuple[j]:=by unfold evT;simp[List.getD,List.getElem?_eq_getElem htl]
     have HTN:Hid (∀ wx,Below w0.heap.size w0 wx→wx.cell? ⟨ct,ot,none⟩=some (.string (evT b.types tuple[j]).name)):=fun wx hb=>by have h:=(hwt wx hb).1 0 _ rfl;rw[hte]at h;exact h
     have HMS:=Lib.hid (misE_at (ts:=b.types) hkl hwl)
     have HM2:Hid (misE b.types R.whens tuple j=0→AllZ (misE b.types R.whens tuple) (j+1)):=fun h=>allZ_succ HM.out h
     have HM3:Hid (misE b.types R.whens tuple j=13→T=(false,13)):=fun h=>HMI.out HM.out hkl h
     clear hwk hww hwt hte htl hgy HM
     generalize (evT b.types tuple[j]).name=nm at HTN HMS
     generalize tuple[j]=y at HRK HKT hixt
     generalize R.whens[j].type=wt at HWC HMS
     clear hkl hwl
     cases hsm:sameS nm wt with
     |true=>
      have hsb:(nm.toList==wt.toList)=true:=hsm
      have hsn:(nm.toList !=wt.toList)=false:=by simp only[bne,hsb];rfl
      have HM4:=Lib.hid (HM2.out (by rw[HMS.out,if_pos hsm]))
      clear HMS HM2 HM3 hsm
      go_wp2_with (with_reducible (first|(refine wV M ?_;clear M;intro zX w M)|(refine wS M ?_;clear M;intro w M)|refine wA (HRK.out _ M.new) ?_))
      ((refine wp_region_calm M (by kernel_rfl) (by kernel_rfl) ?_);(repeat((with_reducible refine c_list rfl fun K hK=>?_);(first|(refine c_load (l' :=?_) ⟨_,M⟩ (fun w M=>?_) ?_;rotate_left;focus((first|(refine q_cellat (HTN.out _ M.new) ?_)|(refine q_cellat (HWC.out _ M.new) ?_)|refine q_get M (by exact rfl) ?_);refine⟨rfl,?_⟩;with_reducible rfl))|(refine c_pure (v:=?_) (fun w=>?_) ?_;rotate_left;focus(go_simp;try with_reducible rfl)));(try go_simp);with_reducible refine hK _ ?_;clear hK K));(refine wpQuiet_nil ?_);clear M;intro w M)
      go_wp2_with (with_reducible (first|refine wq M ?_|(refine wS M ?_;clear M;intro w M)|(refine wV M ?_;clear M;intro z w M)|(refine wR M ?_;clear M;intro q w M)))
      go_roundg (n3 - (j+1))
      case measure=>omega
      case rel=>exact⟨j+1,by omega,by go_num,M.drop,HM4⟩
     |false=>
      have hsb:(nm.toList==wt.toList)=false:=hsm
      have hsn:(nm.toList !=wt.toList)=true:=by simp only[bne,hsb];rfl
      have HV:=Lib.hid (HM3.out (by rw[HMS.out,if_neg (by rw[hsm];simp)]))
      clear HMS HM2 HM3 hsm
      go_wp2_with (with_reducible (first|(refine wV M ?_;clear M;intro zX w M)|(refine wS M ?_;clear M;intro w M)|refine wA (HRK.out _ M.new) ?_))
      ((refine wp_region_calm M (by kernel_rfl) (by kernel_rfl) ?_);(repeat((with_reducible refine c_list rfl fun K hK=>?_);(first|(refine c_load (l' :=?_) ⟨_,M⟩ (fun w M=>?_) ?_;rotate_left;focus((first|(refine q_cellat (HTN.out _ M.new) ?_)|(refine q_cellat (HWC.out _ M.new) ?_)|refine q_get M (by exact rfl) ?_);refine⟨rfl,?_⟩;with_reducible rfl))|(refine c_pure (v:=?_) (fun w=>?_) ?_;rotate_left;focus(go_simp;try with_reducible rfl)));(try go_simp);with_reducible refine hK _ ?_;clear hK K));(refine wpQuiet_nil ?_);clear M;intro w M)
      go_wp2_with (with_reducible (first|refine wq M ?_|(refine wS M ?_;clear M;intro w M)|(refine wV M ?_;clear M;intro z w M)|(refine wR M ?_;clear M;intro q w M)))
      go_ret2
      rw[HV.out]
      exact⟨rfl,M.new⟩
    ·have hjn:j=tuple.length:=by have:=N3.out;omega
     have hmz:AllZ (misE b.types R.whens tuple) tuple.length:=by rw[←hjn];exact HM.out
     have HV:=Lib.hid (HVN.out HZF.out HLN.out hmz)
     have HBL:Hid (∀ wx zg,Below w0.heap.size w0 wx→zg<wx.heap.size→wx.rangeAt zg 0 [.slice a1 n1 c1,.slice a2 n2 c2,.int .i64 rule,.slice a3 n3 c3,.slice a4 n4 c4]→Calls Tryz.prog 24 #[.pointer (some ⟨zg,0,none⟩)] wx fun e w' =>e= .returned (.bool (blockedB b.types R tuple all))∧Below wx.heap.size wx w'):=fun wx zg hb hz hc=>blocked_any (HGR.out wx zg hb hz hc HZF.out HLN.out hmz)
     have HEN:Hid (∀ wx zg,Below w0.heap.size w0 wx→zg<wx.heap.size→wx.rangeAt zg 0 [.slice a1 n1 c1,.slice a2 n2 c2,.int .i64 rule,.slice a3 n3 c3,.slice a4 n4 c4]→Calls Tryz.prog 25 #[.pointer (some ⟨zg,0,none⟩)] wx fun e w' =>e= .returned (.bool (enoughB b.types R tuple all))∧Below wx.heap.size wx w'):=fun wx zg hb hz hc=>enough_any (HGR.out wx zg hb hz hc HZF.out HLN.out hmz)
     clear HM hjn hmz HMI HZF HVN HGR
     generalize blockedB b.types R tuple all=bl at HV HBL
     generalize enoughB b.types R tuple all=en at HV HEN
     cases bl with
     |true=>
      go_wp2_with (first|(with_reducible (first|(refine wB (L:=[_]) M ?_;clear M;intro zg w1 M)|refine wq M ?_))|(go_at_call 24;with_reducible refine(HBL.out _ _ M.new (M.lt0 (i:=0) rfl) (M.cells_ (i:=0) rfl)).mono ?_;rintro e w5 ⟨rfl,hb5⟩;replace M:=M.below hb5;clear hb5))
      go_ret2
      rw[HV.out]
      exact⟨rfl,M.new⟩
     |false=>
      go_wp2_with (first|(with_reducible (first|(refine wB (L:=[_]) M ?_;clear M;intro zg w1 M)|refine wq M ?_))|(go_at_call 24;with_reducible refine(HBL.out _ _ M.new (M.lt0 (i:=0) rfl) (M.cells_ (i:=0) rfl)).mono ?_;rintro e w5 ⟨rfl,hb5⟩;replace M:=M.below hb5;clear hb5)|(go_at_call 25;with_reducible refine(HEN.out _ _ M.new (M.lt0 (i:=0) rfl) (M.cells_ (i:=0) rfl)).mono ?_;rintro e w5 ⟨rfl,hb5⟩;replace M:=M.below hb5;clear hb5))
      go_ret2
      rw[HV.out]
      exact⟨rfl,M.new⟩
theorem fires_any(hg:g<w0.heap.size)(E:Env F w0)(hF: ∀ b,F b→b<w0.heap.size)(b:Bok)(a1:Option Addr)(n1 c1:Nat)(a2:Option Addr)(n2 c2:Nat)(X1:SlF F w0 2 typF a1 n1 c1 b.types)(X2:SlF F w0 7 rulF a2 n2 c2 b.rules)(hts: ∀ t∈b.types,typOk t)(hrs: ∀ x∈b.rules,RulFit x)(hes: ∀ x∈b.rules,x.etype.size≤maxLen)(rule:Int)(a3:Option Addr)(n3 c3:Nat)(tuple:List Eve)(X3:SlF (under w0.heap.size) w0 5 eveF a3 n3 c3 tuple)(hto: ∀ x∈tuple,eveOk x)(a4:Option Addr)(n4 c4:Nat)(all:List Eve)(X4:SlF (under w0.heap.size) w0 5 eveF a4 n4 c4 all)(hao: ∀ x∈all,eveOk x):Calls Tryz.prog 10 #[.agg #[.slice a1 n1 c1,.slice a2 n2 c2],.int .i64 rule,.slice a3 n3 c3,.slice a4 n4 c4] w0 fun e w' =>e= .returned (.tuple #[.bool (firesE b rule tuple all).1,.int .i64 (firesE b rule tuple all).2])∧Below w0.heap.size w0 w' :=by
 by_cases h0:eventsE b all=0
 ·by_cases hr:0≤rule∧rule<b.rules.length
  ·exact fires_main hg E hF b a1 n1 c1 a2 n2 c2 X1 X2 hts hrs hes rule a3 n3 c3 tuple X3 hto a4 n4 c4 all X4 hao h0 hr
  ·exact fires_norule hg E hF b a1 n1 c1 a2 n2 c2 X1 X2 hts hrs hes rule a3 n3 c3 tuple X3 hto a4 n4 c4 all X4 hao h0 hr
 ·exact fires_bad hg E hF b a1 n1 c1 a2 n2 c2 X1 X2 hts hrs hes rule a3 n3 c3 tuple X3 hto a4 n4 c4 all X4 hao h0
end
end Go.Proofs.YtfahleafppfkaaaGreatDoor
