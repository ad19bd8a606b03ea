/-
  plan.Rule and the reference's PlanOf. Printed by ply.py.
-/
import Derived.Test.YtncmghnhfipklaaGreatDoorPu36
import Derived.Test.YtncmghnhfipklaaGreatDoorPu42
import Derived.Test.YtncmghnhfipklaaGreatDoorPu41
import Derived.Test.YtncmghnhfipklaaGreatDoorPu37
namespace Go.Proofs.YtncmghnhfipklaaGreatDoor
open Go.RowKit
set_option linter.unusedVariables false
set_option linter.unusedSimpArgs false
theorem Mem.dpush{At:PS→World→Prop}{b:Nat}{u w w' :World}{s:PS}{L:List Ent}{D:(Nat→Prop)→World→Prop}(M:Mem At b u w s L)(f:FirmD D)(hb:Below w.heap.size w w')(h:D (from_ w.heap.size) w'):Mem At b u w' s (dat D::L):=
 M.push hb (dat_firm f) (fun z hz=>by cases hz) (fun Q hQ=>f _ _ _ _ ⟨Nat.le_refl _,fun k hk hlt=>⟨hQ k hk hlt (fun q=>by cases q),rfl⟩⟩ h)
def PlnD(p:Pln)(a1:Option Addr)(n1 c1:Nat)(a2:Option Addr)(n2 c2:Nat)(a3:Option Addr)(n3 c3:Nat)(F:Nat→Prop)(w:World):Prop:=SlF F w 1 intF a1 n1 c1 p.whens∧SlF F w 1 intF a2 n2 c2 p.nots∧SlF F w 1 intF a3 n3 c3 p.manies
theorem plnD_mk{p:Pln}{a1 a2 a3:Option Addr}{n1 c1 n2 c2 n3 c3:Nat}{F:Nat→Prop}{w:World}(h1:SlF F w 1 intF a1 n1 c1 p.whens)(h2:SlF F w 1 intF a2 n2 c2 p.nots)(h3:SlF F w 1 intF a3 n3 c3 p.manies):PlnD p a1 n1 c1 a2 n2 c2 a3 n3 c3 F w:=⟨h1,h2,h3⟩
theorem plnD_firm(p:Pln)(a1:Option Addr)(n1 c1:Nat)(a2:Option Addr)(n2 c2:Nat)(a3:Option Addr)(n3 c3:Nat):FirmD (PlnD p a1 n1 c1 a2 n2 c2 a3 n3 c3):=fun F F' w w' hs h=>⟨h.1.same (plainF_firm _) hs,h.2.1.same (plainF_firm _) hs,h.2.2.same (plainF_firm _) hs⟩
theorem inB_is2(n lo hi:Int)(b:Bool)(h:inB n lo hi=b)(w:World):Calls Tryz.prog 14 #[.int .i64 n,.int .i64 lo,.int .i64 hi] w fun e w' =>e= .returned (.bool b)∧Below w.heap.size w w' :=by
 rw[←h];exact(in_any n lo hi w).mono fun e w' h=>⟨h.1,h.2▸Below.refl _ _⟩
def ruleP(b:Bok)(k:Int):Pln×Int:=if bookE b≠0 then(pln0,bookE b)else if 0≤k∧k<b.rules.length then planE (b.rules.getD k.toNat rul00)else(pln0,2)
section
variable {g:Nat} {F:Nat→Prop} {w0:World}
set_option maxRecDepth 8000 in
set_option maxHeartbeats 8000000 in
theorem bkrule_bad(hg:g<w0.heap.size)(E:Env F w0)(hF: ∀ b,F b→b<w0.heap.size)(b:Bok)(a1:Option Addr)(n1 c1:Nat)(a2:Option Addr)(n2 c2:Nat)(X1:SlF F w0 2 typF a1 n1 c1 b.types)(X2:SlF F w0 7 rulF a2 n2 c2 b.rules)(hts: ∀ t∈b.types,typOk t)(hrs: ∀ x∈b.rules,RulFit x)(hes: ∀ x∈b.rules,x.etype.size≤maxLen)(k:Int)(h0:bookE b≠0):Calls Tryz.prog 5 #[.agg #[.slice a1 n1 c1,.slice a2 n2 c2],.int .i64 k] w0 (PlnP (ruleP b k).1 (ruleP b k).2 w0):=by
 have M:=Mem.begin hg ⟨0,0⟩
 have HC:Hid (∀ wx,Below w0.heap.size w0 wx→Calls Tryz.prog 11 #[.agg #[.slice a1 n1 c1,.slice a2 n2 c2]] wx fun e w' =>e= .returned (.int .i64 (bookE b))∧Below wx.heap.size wx w'):=fun wx hb=>check_any (Nat.lt_of_lt_of_le hg hb.size) (E.below hb) (fun k hk=>Nat.lt_of_lt_of_le (hF k hk) hb.size) b a1 n1 c1 a2 n2 c2 (X1.below typF_firm hb) (X2.below rulF_firm hb) hts hrs hes
 have HV:Hid (ruleP b k=(pln0,bookE b)):=by show _=_;unfold ruleP;rw[if_pos h0]
 have hqb:(bookE b==0)=false:=by simpa using h0
 have hqc:(bookE b !=0)=true:=by simpa using h0
 generalize bookE b=q at HC HV hqb hqc
 clear h0 X1 X2 hts hrs hes hg hF E
 go_enter Tryz.func5,Tryz.ntmps5
 go_wp2_with (first|(go_at_call 11;with_reducible refine(HC.out _ M.new).mono ?_;rintro e w5 ⟨rfl,hb5⟩;replace M:=M.below hb5;clear hb5)|(with_reducible (first|(refine wB M ?_;clear M;intro zb w1 M)|refine wq M ?_|(refine wS M ?_;clear M;intro w M)|(refine wV M ?_;clear M;intro z w M))))
 refine q_ret2 M Tryz.results5 (by rfl) ⟨_,Tryz.underlying28,rfl⟩ ?_
 rw[HV.out]
 exact⟨_,_,_,_,_,_,_,_,_,rfl,M.new,SlF.nil,SlF.nil,SlF.nil⟩
set_option maxRecDepth 8000 in
set_option maxHeartbeats 8000000 in
theorem bkrule_far(hg:g<w0.heap.size)(E:Env F w0)(hF: ∀ b,F b→b<w0.heap.size)(b:Bok)(a1:Option Addr)(n1 c1:Nat)(a2:Option Addr)(n2 c2:Nat)(X1:SlF F w0 2 typF a1 n1 c1 b.types)(X2:SlF F w0 7 rulF a2 n2 c2 b.rules)(hts: ∀ t∈b.types,typOk t)(hrs: ∀ x∈b.rules,RulFit x)(hes: ∀ x∈b.rules,x.etype.size≤maxLen)(k:Int)(h0:bookE b=0)(hk: ¬ (0≤k∧k<b.rules.length)):Calls Tryz.prog 5 #[.agg #[.slice a1 n1 c1,.slice a2 n2 c2],.int .i64 k] w0 (PlnP (ruleP b k).1 (ruleP b k).2 w0):=by
 have M:=Mem.begin hg ⟨0,0⟩
 have HC:Hid (∀ wx,Below w0.heap.size w0 wx→Calls Tryz.prog 11 #[.agg #[.slice a1 n1 c1,.slice a2 n2 c2]] wx fun e w' =>e= .returned (.int .i64 (bookE b))∧Below wx.heap.size wx w'):=fun wx hb=>check_any (Nat.lt_of_lt_of_le hg hb.size) (E.below hb) (fun k hk=>Nat.lt_of_lt_of_le (hF k hk) hb.size) b a1 n1 c1 a2 n2 c2 (X1.below typF_firm hb) (X2.below rulF_firm hb) hts hrs hes
 have HV:Hid (ruleP b k=(pln0,2)):=by show _=_;unfold ruleP;rw[if_neg (fun q=>q h0),if_neg hk]
 rw[h0]at HC
 have N2:=X2.len
 have hle2:=X2.le
 by_cases hk0:k<0
 ·have hd1:decide (k<0)=true:=by simpa using hk0
  clear h0 hk hk0 N2 X1 X2 hts hrs hes hg hF E
  go_enter Tryz.func5,Tryz.ntmps5
  go_wp2_with (first|(go_at_call 11;with_reducible refine(HC.out _ M.new).mono ?_;rintro e w5 ⟨rfl,hb5⟩;replace M:=M.below hb5;clear hb5)|(with_reducible (first|(refine wB M ?_;clear M;intro zb w1 M)|refine wq M ?_|(refine wS M ?_;clear M;intro w M)|(refine wV M ?_;clear M;intro z w M))))
  refine q_ret2 M Tryz.results5 (by rfl) ⟨_,Tryz.underlying28,rfl⟩ ?_
  rw[HV.out]
  exact⟨_,_,_,_,_,_,_,_,_,rfl,M.new,SlF.nil,SlF.nil,SlF.nil⟩
 ·have hd1:decide (k<0)=false:=by simpa using hk0
  have hd2:decide ((n2:Int)≤k)=true:=by simp;omega
  clear h0 hk hk0 N2 X1 X2 hts hrs hes hg hF E
  go_enter Tryz.func5,Tryz.ntmps5
  go_wp2_with (first|(go_at_call 11;with_reducible refine(HC.out _ M.new).mono ?_;rintro e w5 ⟨rfl,hb5⟩;replace M:=M.below hb5;clear hb5)|(with_reducible (first|(refine wB M ?_;clear M;intro zb w1 M)|refine wq M ?_|(refine wS M ?_;clear M;intro w M)|(refine wV M ?_;clear M;intro z w M))))
  refine q_ret2 M Tryz.results5 (by rfl) ⟨_,Tryz.underlying28,rfl⟩ ?_
  rw[HV.out]
  exact⟨_,_,_,_,_,_,_,_,_,rfl,M.new,SlF.nil,SlF.nil,SlF.nil⟩
set_option maxRecDepth 8000 in
set_option maxHeartbeats 8000000 in
theorem bkrule_main(hg:g<w0.heap.size)(E:Env F w0)(hF: ∀ b,F b→b<w0.heap.size)(b:Bok)(a1:Option Addr)(n1 c1:Nat)(a2:Option Addr)(n2 c2:Nat)(X1:SlF F w0 2 typF a1 n1 c1 b.types)(X2:SlF F w0 7 rulF a2 n2 c2 b.rules)(hts: ∀ t∈b.types,typOk t)(hrs: ∀ x∈b.rules,RulFit x)(hes: ∀ x∈b.rules,x.etype.size≤maxLen)(k:Int)(h0:bookE b=0)(hk:0≤k∧k<b.rules.length):Calls Tryz.prog 5 #[.agg #[.slice a1 n1 c1,.slice a2 n2 c2],.int .i64 k] w0 (PlnP (ruleP b k).1 (ruleP b k).2 w0):=by
 have M:=Mem.begin hg ⟨0,0⟩
 have HC:Hid (∀ wx,Below w0.heap.size w0 wx→Calls Tryz.prog 11 #[.agg #[.slice a1 n1 c1,.slice a2 n2 c2]] wx fun e w' =>e= .returned (.int .i64 (bookE b))∧Below wx.heap.size wx w'):=fun wx hb=>check_any (Nat.lt_of_lt_of_le hg hb.size) (E.below hb) (fun k hk=>Nat.lt_of_lt_of_le (hF k hk) hb.size) b a1 n1 c1 a2 n2 c2 (X1.below typF_firm hb) (X2.below rulF_firm hb) hts hrs hes
 have hkl:k.toNat<b.rules.length:=by omega
 have hRP:=(book_pl h0).2.2 _ (List.getElem_mem hkl)
 have HV:Hid (ruleP b k=planE b.rules[k.toNat]):=by
  show _=_
  unfold ruleP
  rw[if_neg (fun q=>q h0),if_pos hk,List.getD_eq_getElem?_getD,List.getElem?_eq_getElem hkl]
  rfl
 rw[h0]at HC
 have N2:=X2.len
 have hle2:=X2.le
 obtain⟨cr,or,rowr,hixr, -,hrrr,hwr⟩:=SlF.rowAt (P:=Tryz.prog) X2 rulF_firm Tryz.underlying23 size_rul (i:=k.toNat) hkl
 rw[show((k.toNat:Nat):Int)=k from Int.toNat_of_nonneg hk.1]at hixr
 obtain⟨b1,m1,e1,b2,m2,e2,b3,m3,e3,b4,m4,e4,b6,m6,e6,er,Y1,Y2,Y3,Y4, -⟩:=hrrr
 subst er
 have HRW:=Lib.hid (fun wx hb=>(hwr wx hb).1)
 have HRU:Hid (∀ wx,g<wx.heap.size→Below w0.heap.size w0 wx→Calls Tryz.prog 12 #[.agg #[.string b.rules[k.toNat].name,.slice b1 m1 e1,.slice b2 m2 e2,.slice b3 m3 e3,.slice b4 m4 e4,.string b.rules[k.toNat].etype,.slice b6 m6 e6]] wx (PlnP (planE b.rules[k.toNat]).1 (planE b.rules[k.toNat]).2 wx)):=fun wx h1 hb=>plrule_any h1 (Y1.below patF_firm hb) (Y2.below patF_firm hb) (Y3.below manF_firm hb) (Y4.below lnkF_firm hb) hRP
 clear hwr hRP Y1 Y2 Y3 Y4
 unfold rulC at HRW
 generalize b.rules[k.toNat]=R at HRW HRU HV
 obtain⟨p,hp⟩: ∃ p,(planE R)=p:=⟨_,rfl⟩
 rw[hp]at HRU HV
 obtain⟨p,c⟩:=p
 unfold PlnP at HRU
 simp only at HRU
 have hd1:decide (k<0)=false:=by simp;omega
 have hd2:decide ((n2:Int)≤k)=false:=by simp;omega
 clear h0 hk hkl N2 X1 X2 hts hrs hes hg hF E hp
 go_enter Tryz.func5,Tryz.ntmps5
 go_wp2_with (first|(go_at_call 11;with_reducible refine(HC.out _ M.new).mono ?_;rintro e w5 ⟨rfl,hb5⟩;replace M:=M.below hb5;clear hb5)|(go_at_call 12;have hq:=HRU.out _ (Nat.lt_of_lt_of_le M.lt M.but.size) M.new;with_reducible refine hq.mono ?_;clear hq;go_loud (rintro e w5 ⟨r1,l1,u1,r2,l2,u2,r3,l3,u3,rfl,hb5,hS1,hS2,hS3⟩;replace M:=M.dpush (plnD_firm p r1 l1 u1 r2 l2 u2 r3 l3 u3) hb5 (plnD_mk hS1 hS2 hS3);clear hb5 hS1 hS2 hS3))|(with_reducible (first|(refine wB M ?_;clear M;intro zb w1 M)|refine wA (HRW.out _ M.new) ?_|refine wq M ?_|(refine wS M ?_;clear M;intro w M)|(refine wV M ?_;clear M;intro z w M))))
 refine q_ret2 M Tryz.results5 (by rfl) ⟨_,Tryz.underlying28,rfl⟩ ?_
 rw[HV.out]
 have hD:=M.dat_ (i:=0) rfl
 exact⟨_,_,_,_,_,_,_,_,_,rfl,M.new,SlF.same hD.1 (plainF_firm _) (Same.wide fun k hk _=>hk.1),SlF.same hD.2.1 (plainF_firm _) (Same.wide fun k hk _=>hk.1),SlF.same hD.2.2 (plainF_firm _) (Same.wide fun k hk _=>hk.1)⟩
theorem bkrule_any(hg:g<w0.heap.size)(E:Env F w0)(hF: ∀ b,F b→b<w0.heap.size)(b:Bok)(a1:Option Addr)(n1 c1:Nat)(a2:Option Addr)(n2 c2:Nat)(X1:SlF F w0 2 typF a1 n1 c1 b.types)(X2:SlF F w0 7 rulF a2 n2 c2 b.rules)(hts: ∀ t∈b.types,typOk t)(hrs: ∀ x∈b.rules,RulFit x)(hes: ∀ x∈b.rules,x.etype.size≤maxLen)(k:Int):Calls Tryz.prog 5 #[.agg #[.slice a1 n1 c1,.slice a2 n2 c2],.int .i64 k] w0 (PlnP (ruleP b k).1 (ruleP b k).2 w0):=by
 by_cases h0:bookE b=0
 ·by_cases hk:0≤k∧k<b.rules.length
  ·exact bkrule_main hg E hF b a1 n1 c1 a2 n2 c2 X1 X2 hts hrs hes k h0 hk
  ·exact bkrule_far hg E hF b a1 n1 c1 a2 n2 c2 X1 X2 hts hrs hes k h0 hk
 ·exact bkrule_bad hg E hF b a1 n1 c1 a2 n2 c2 X1 X2 hts hrs hes k h0
set_option maxRecDepth 8000 in
set_option maxHeartbeats 8000000 in
theorem bkplanof_bad(hg:g<w0.heap.size)(E:Env F w0)(hF: ∀ b,F b→b<w0.heap.size)(b:Bok)(a1:Option Addr)(n1 c1:Nat)(a2:Option Addr)(n2 c2:Nat)(X1:SlF F w0 2 typF a1 n1 c1 b.types)(X2:SlF F w0 7 rulF a2 n2 c2 b.rules)(hts: ∀ t∈b.types,typOk t)(hrs: ∀ x∈b.rules,RulFit x)(hes: ∀ x∈b.rules,x.etype.size≤maxLen)(k:Int)(h0:bookE b≠0):Calls Tryz.prog 6 #[.agg #[.slice a1 n1 c1,.slice a2 n2 c2],.int .i64 k] w0 (PlnP (ruleP b k).1 (ruleP b k).2 w0):=by
 have M:=Mem.begin hg ⟨0,0⟩
 have HC:Hid (∀ wx,Below w0.heap.size w0 wx→Calls Tryz.prog 13 #[.agg #[.slice a1 n1 c1,.slice a2 n2 c2]] wx fun e w' =>e= .returned (.int .i64 (bookE b))∧Below wx.heap.size wx w'):=fun wx hb=>bookFault_any (Nat.lt_of_lt_of_le hg hb.size) b a1 n1 c1 a2 n2 c2 (X1.below typF_firm hb) (X2.below rulF_firm hb) hts (fun x hx=>(hrs x hx).ok)
 have HV:Hid (ruleP b k=(pln0,bookE b)):=by show _=_;unfold ruleP;rw[if_pos h0]
 have hqb:(bookE b==0)=false:=by simpa using h0
 have hqc:(bookE b !=0)=true:=by simpa using h0
 generalize bookE b=q at HC HV hqb hqc
 clear h0 X1 X2 hts hrs hes hg hF E
 go_enter Tryz.func6,Tryz.ntmps6
 go_wp2_with (first|(go_at_call 13;with_reducible refine(HC.out _ M.new).mono ?_;rintro e w5 ⟨rfl,hb5⟩;replace M:=M.below hb5;clear hb5)|(with_reducible (first|(refine wB M ?_;clear M;intro zb w1 M)|refine wq M ?_|(refine wS M ?_;clear M;intro w M)|(refine wV M ?_;clear M;intro z w M))))
 refine q_ret2 M Tryz.results6 (by rfl) ⟨_,Tryz.underlying28,rfl⟩ ?_
 rw[HV.out]
 exact⟨_,_,_,_,_,_,_,_,_,rfl,M.new,SlF.nil,SlF.nil,SlF.nil⟩
set_option maxRecDepth 8000 in
set_option maxHeartbeats 8000000 in
theorem bkplanof_far(hg:g<w0.heap.size)(E:Env F w0)(hF: ∀ b,F b→b<w0.heap.size)(b:Bok)(a1:Option Addr)(n1 c1:Nat)(a2:Option Addr)(n2 c2:Nat)(X1:SlF F w0 2 typF a1 n1 c1 b.types)(X2:SlF F w0 7 rulF a2 n2 c2 b.rules)(hts: ∀ t∈b.types,typOk t)(hrs: ∀ x∈b.rules,RulFit x)(hes: ∀ x∈b.rules,x.etype.size≤maxLen)(k:Int)(h0:bookE b=0)(hk: ¬ (0≤k∧k<b.rules.length)):Calls Tryz.prog 6 #[.agg #[.slice a1 n1 c1,.slice a2 n2 c2],.int .i64 k] w0 (PlnP (ruleP b k).1 (ruleP b k).2 w0):=by
 have M:=Mem.begin hg ⟨0,0⟩
 have HC:Hid (∀ wx,Below w0.heap.size w0 wx→Calls Tryz.prog 13 #[.agg #[.slice a1 n1 c1,.slice a2 n2 c2]] wx fun e w' =>e= .returned (.int .i64 (bookE b))∧Below wx.heap.size wx w'):=fun wx hb=>bookFault_any (Nat.lt_of_lt_of_le hg hb.size) b a1 n1 c1 a2 n2 c2 (X1.below typF_firm hb) (X2.below rulF_firm hb) hts (fun x hx=>(hrs x hx).ok)
 have HV:Hid (ruleP b k=(pln0,2)):=by show _=_;unfold ruleP;rw[if_neg (fun q=>q h0),if_neg hk]
 rw[h0]at HC
 have N2:=X2.len
 have hle2:=X2.le
 have HI1:Hid (inB k 0 ((n2:Int) - 1)=false):=by show _=_;unfold inB;simp;omega
 clear h0 hk N2 X1 X2 hts hrs hes hg hF E
 go_enter Tryz.func6,Tryz.ntmps6
 go_wp2_with (first|(go_at_call 13;with_reducible refine(HC.out _ M.new).mono ?_;rintro e w5 ⟨rfl,hb5⟩;replace M:=M.below hb5;clear hb5)|(go_at_call 14;with_reducible refine(inB_is2 _ _ _ _ HI1.out _).mono ?_;rintro e w5 ⟨rfl,hb5⟩;replace M:=M.below hb5;clear hb5)|(with_reducible (first|(refine wB M ?_;clear M;intro zb w1 M)|refine wq M ?_|(refine wS M ?_;clear M;intro w M)|(refine wV M ?_;clear M;intro z w M))))
 refine q_ret2 M Tryz.results6 (by rfl) ⟨_,Tryz.underlying28,rfl⟩ ?_
 rw[HV.out]
 exact⟨_,_,_,_,_,_,_,_,_,rfl,M.new,SlF.nil,SlF.nil,SlF.nil⟩
set_option maxRecDepth 8000 in
set_option maxHeartbeats 8000000 in
theorem bkplanof_main(hg:g<w0.heap.size)(E:Env F w0)(hF: ∀ b,F b→b<w0.heap.size)(b:Bok)(a1:Option Addr)(n1 c1:Nat)(a2:Option Addr)(n2 c2:Nat)(X1:SlF F w0 2 typF a1 n1 c1 b.types)(X2:SlF F w0 7 rulF a2 n2 c2 b.rules)(hts: ∀ t∈b.types,typOk t)(hrs: ∀ x∈b.rules,RulFit x)(hes: ∀ x∈b.rules,x.etype.size≤maxLen)(k:Int)(h0:bookE b=0)(hk:0≤k∧k<b.rules.length):Calls Tryz.prog 6 #[.agg #[.slice a1 n1 c1,.slice a2 n2 c2],.int .i64 k] w0 (PlnP (ruleP b k).1 (ruleP b k).2 w0):=by
 have M:=Mem.begin hg ⟨0,0⟩
 have HC:Hid (∀ wx,Below w0.heap.size w0 wx→Calls Tryz.prog 13 #[.agg #[.slice a1 n1 c1,.slice a2 n2 c2]] wx fun e w' =>e= .returned (.int .i64 (bookE b))∧Below wx.heap.size wx w'):=fun wx hb=>bookFault_any (Nat.lt_of_lt_of_le hg hb.size) b a1 n1 c1 a2 n2 c2 (X1.below typF_firm hb) (X2.below rulF_firm hb) hts (fun x hx=>(hrs x hx).ok)
 have hkl:k.toNat<b.rules.length:=by omega
 have hRP:=(book_pl h0).2.2 _ (List.getElem_mem hkl)
 have HV:Hid (ruleP b k=planE b.rules[k.toNat]):=by
  show _=_
  unfold ruleP
  rw[if_neg (fun q=>q h0),if_pos hk,List.getD_eq_getElem?_getD,List.getElem?_eq_getElem hkl]
  rfl
 rw[h0]at HC
 have N2:=X2.len
 have hle2:=X2.le
 obtain⟨cr,or,rowr,hixr, -,hrrr,hwr⟩:=SlF.rowAt (P:=Tryz.prog) X2 rulF_firm Tryz.underlying23 size_rul (i:=k.toNat) hkl
 rw[show((k.toNat:Nat):Int)=k from Int.toNat_of_nonneg hk.1]at hixr
 obtain⟨b1,m1,e1,b2,m2,e2,b3,m3,e3,b4,m4,e4,b6,m6,e6,er,Y1,Y2,Y3,Y4, -⟩:=hrrr
 subst er
 have HRW:=Lib.hid (fun wx hb=>(hwr wx hb).1)
 have HRU:Hid (∀ wx,g<wx.heap.size→Below w0.heap.size w0 wx→Calls Tryz.prog 15 #[.agg #[.string b.rules[k.toNat].name,.slice b1 m1 e1,.slice b2 m2 e2,.slice b3 m3 e3,.slice b4 m4 e4,.string b.rules[k.toNat].etype,.slice b6 m6 e6]] wx (PlnP (planE b.rules[k.toNat]).1 (planE b.rules[k.toNat]).2 wx)):=fun wx h1 hb=>planned_any h1 (Y1.below patF_firm hb) (Y2.below patF_firm hb) (Y3.below manF_firm hb) (Y4.below lnkF_firm hb) hRP
 clear hwr hRP Y1 Y2 Y3 Y4
 unfold rulC at HRW
 generalize b.rules[k.toNat]=R at HRW HRU HV
 obtain⟨p,hp⟩: ∃ p,(planE R)=p:=⟨_,rfl⟩
 rw[hp]at HRU HV
 obtain⟨p,c⟩:=p
 unfold PlnP at HRU
 simp only at HRU
 have HI1:Hid (inB k 0 ((n2:Int) - 1)=true):=by show _=_;unfold inB;simp;omega
 clear h0 hk hkl N2 X1 X2 hts hrs hes hg hF E hp
 go_enter Tryz.func6,Tryz.ntmps6
 go_wp2_with (first|(go_at_call 13;with_reducible refine(HC.out _ M.new).mono ?_;rintro e w5 ⟨rfl,hb5⟩;replace M:=M.below hb5;clear hb5)|(go_at_call 14;with_reducible refine(inB_is2 _ _ _ _ HI1.out _).mono ?_;rintro e w5 ⟨rfl,hb5⟩;replace M:=M.below hb5;clear hb5)|(go_at_call 15;have hq:=HRU.out _ (Nat.lt_of_lt_of_le M.lt M.but.size) M.new;with_reducible refine hq.mono ?_;clear hq;go_loud (rintro e w5 ⟨r1,l1,u1,r2,l2,u2,r3,l3,u3,rfl,hb5,hS1,hS2,hS3⟩;replace M:=M.dpush (plnD_firm p r1 l1 u1 r2 l2 u2 r3 l3 u3) hb5 (plnD_mk hS1 hS2 hS3);clear hb5 hS1 hS2 hS3))|(with_reducible (first|(refine wB M ?_;clear M;intro zb w1 M)|refine wA (HRW.out _ M.new) ?_|refine wq M ?_|(refine wS M ?_;clear M;intro w M)|(refine wV M ?_;clear M;intro z w M))))
 refine q_ret2 M Tryz.results6 (by rfl) ⟨_,Tryz.underlying28,rfl⟩ ?_
 rw[HV.out]
 have hD:=M.dat_ (i:=1) rfl
 exact⟨_,_,_,_,_,_,_,_,_,rfl,M.new,SlF.same hD.1 (plainF_firm _) (Same.wide fun k hk _=>hk.1),SlF.same hD.2.1 (plainF_firm _) (Same.wide fun k hk _=>hk.1),SlF.same hD.2.2 (plainF_firm _) (Same.wide fun k hk _=>hk.1)⟩
theorem bkplanof_any(hg:g<w0.heap.size)(E:Env F w0)(hF: ∀ b,F b→b<w0.heap.size)(b:Bok)(a1:Option Addr)(n1 c1:Nat)(a2:Option Addr)(n2 c2:Nat)(X1:SlF F w0 2 typF a1 n1 c1 b.types)(X2:SlF F w0 7 rulF a2 n2 c2 b.rules)(hts: ∀ t∈b.types,typOk t)(hrs: ∀ x∈b.rules,RulFit x)(hes: ∀ x∈b.rules,x.etype.size≤maxLen)(k:Int):Calls Tryz.prog 6 #[.agg #[.slice a1 n1 c1,.slice a2 n2 c2],.int .i64 k] w0 (PlnP (ruleP b k).1 (ruleP b k).2 w0):=by
 by_cases h0:bookE b=0
 ·by_cases hk:0≤k∧k<b.rules.length
  ·exact bkplanof_main hg E hF b a1 n1 c1 a2 n2 c2 X1 X2 hts hrs hes k h0 hk
  ·exact bkplanof_far hg E hF b a1 n1 c1 a2 n2 c2 X1 X2 hts hrs hes k h0 hk
 ·exact bkplanof_bad hg E hF b a1 n1 c1 a2 n2 c2 X1 X2 hts hrs hes k h0
end
end Go.Proofs.YtncmghnhfipklaaGreatDoor
/-
  The law PlanRules: the program's plan and the reference's are the same. Printed by plz.py.
-/
namespace Go.Proofs.YtncmghnhfipklaaGreatDoor
open Go.RowKit
set_option linter.unusedVariables false
set_option linter.unusedSimpArgs false
set_option maxHeartbeats 1000000 in
theorem sameIntsJ(F G:Nat→Prop)(ao:Option Addr)(n cap:Nat)(bo:Option Addr)(m bcap:Nat)(xs:List Int)(w:World)(hX:SlF F w 1 intF ao n cap xs)(hY:SlF G w 1 intF bo m bcap xs):
  Calls Tryz.prog 10 #[.slice ao n cap,.slice bo m bcap] w fun e w' =>e= .returned (.bool true)∧Below w.heap.size w w' :=by
 obtain rfl:m=n:=by rw[hX.len,hY.len]
 have NL:Hid (m=xs.length):=hX.len
 have hle:=hX.le
 go_enter Tryz.func10,Tryz.ntmps10
 go_wp2_with fail
 go_loopw [5] (fun i wr=> ∃ k:Nat,k≤m∧i= .int .i64 k∧Below w.heap.size w wr) (fun i _=>m - (intOf i).toNat)
 case atStart=>exact⟨0,by omega,rfl,Below.refl _ _⟩
 case round=>
  obtain⟨k,hk,rfl,hbr⟩:=hrel
  by_cases hlt:k<m
  ·have hkl:k<xs.length:=by have:=NL.out;omega
   obtain⟨b,off,row,hix,hblt,hrow,hrr⟩:=(hX.below (plainF_firm _) hbr).toR.index (P:=Tryz.prog) Tryz.underlying26 size_int (i:=k) hkl
   obtain rfl:=(show row=_ from hrr)
   obtain⟨b2,off2,row2,hix2,hblt2,hrow2,hrr2⟩:=(hY.below (plainF_firm _) hbr).toR.index (P:=Tryz.prog) Tryz.underlying26 size_int (i:=k) hkl
   obtain rfl:=(show row2=_ from hrr2)
   have d0:=hrow.one
   have d1:=hrow2.one
   simp only[Nat.mul_one]at hix d0 hix2 d1
   go_wp2_with fail
   go_quiet (fail)
   go_wp2
   go_roundw
   case rel=>exact⟨k+1,by omega,by go_num,(by repeat(first|assumption|refine below_step ?_ (Joins.below_draws _ _ _)))⟩
   case measure=>simp[intOf];omega
  ·go_wp2
   go_ret
   exact⟨rfl,hbr⟩
set_option maxRecDepth 8000 in
set_option maxHeartbeats 8000000 in
theorem samePlan_yes{F:Nat→Prop}{p:Pln}{a1 a2 a3 b1 b2 b3:Option Addr}{n1 c1 n2 c2 n3 c3 m1 d1 m2 d2 m3 d3:Nat}{w0:World}{g:Nat}(hg:g<w0.heap.size)(X:PlnD p a1 n1 c1 a2 n2 c2 a3 n3 c3 F w0)(Y:PlnD p b1 m1 d1 b2 m2 d2 b3 m3 d3 F w0):
  Calls Tryz.prog 7 #[.agg #[.int .i64 p.delay,.slice a1 n1 c1,.slice a2 n2 c2,.slice a3 n3 c3],.agg #[.int .i64 p.delay,.slice b1 m1 d1,.slice b2 m2 d2,.slice b3 m3 d3]] w0 fun e w' =>e= .returned (.bool true)∧Below w0.heap.size w0 w' :=by
 have M:=Mem.begin hg ⟨0,0⟩
 have H1:Hid (∀ wx,Below w0.heap.size w0 wx→Calls Tryz.prog 10 #[.slice a1 n1 c1,.slice b1 m1 d1] wx fun e w' =>e= .returned (.bool true)∧Below wx.heap.size wx w'):=fun wx hb=>sameIntsJ F F a1 n1 c1 b1 m1 d1 p.whens wx (X.1.below (plainF_firm _) hb) (Y.1.below (plainF_firm _) hb)
 have H2:Hid (∀ wx,Below w0.heap.size w0 wx→Calls Tryz.prog 10 #[.slice a2 n2 c2,.slice b2 m2 d2] wx fun e w' =>e= .returned (.bool true)∧Below wx.heap.size wx w'):=fun wx hb=>sameIntsJ F F a2 n2 c2 b2 m2 d2 p.nots wx (X.2.1.below (plainF_firm _) hb) (Y.2.1.below (plainF_firm _) hb)
 have H3:Hid (∀ wx,Below w0.heap.size w0 wx→Calls Tryz.prog 10 #[.slice a3 n3 c3,.slice b3 m3 d3] wx fun e w' =>e= .returned (.bool true)∧Below wx.heap.size wx w'):=fun wx hb=>sameIntsJ F F a3 n3 c3 b3 m3 d3 p.manies wx (X.2.2.below (plainF_firm _) hb) (Y.2.2.below (plainF_firm _) hb)
 generalize p.delay=D
 clear X Y
 go_enter Tryz.func7,Tryz.ntmps7
 go_wp2_with (first|(go_at_call 10;(first|with_reducible refine(H1.out _ M.new).mono ?_|with_reducible refine(H2.out _ M.new).mono ?_|with_reducible refine(H3.out _ M.new).mono ?_);rintro e w5 ⟨rfl,hb5⟩;replace M:=M.below hb5;clear hb5)|(with_reducible (first|(refine wB M ?_;clear M;intro zb w1 M)|refine wq M ?_)))
 go_ret
 exact⟨ret_bool (by simp),M.new⟩
section
set_option maxRecDepth 8000 in
set_option maxHeartbeats 8000000 in
theorem planRules_walk(b:Bok)(a1:Option Addr)(n1 c1:Nat)(a2:Option Addr)(n2 c2:Nat)(k:Int)(w0:World)(X1:SlF (under w0.heap.size) w0 2 typF a1 n1 c1 b.types)(X2:SlF (under w0.heap.size) w0 7 rulF a2 n2 c2 b.rules)(hts: ∀ t∈b.types,typOk t)(hrs: ∀ x∈b.rules,RulFit x)(hes: ∀ x∈b.rules,x.etype.size≤maxLen)
  (hK:SlF (under w0.heap.size) w0 1 wordF (some ⟨0,0,none⟩) 17 17 keptL)(hR:SlF (under w0.heap.size) w0 1 wordF (some ⟨1,0,none⟩) 14 14 relsL):
  Calls Tryz.prog 3 #[.agg #[.slice a1 n1 c1,.slice a2 n2 c2],.int .i64 k] w0 fun e w' =>e= .returned (.bool true)∧Below w0.heap.size w0 w' :=by
 have E:Env (under w0.heap.size) w0:=⟨hK,hR⟩
 have M:=Mem.begin E.lt ⟨0,0⟩
 have HA:Hid (∀ wx,Below w0.heap.size w0 wx→Calls Tryz.prog 5 #[.agg #[.slice a1 n1 c1,.slice a2 n2 c2],.int .i64 k] wx (PlnP (ruleP b k).1 (ruleP b k).2 wx)):=fun wx hb=>
  bkrule_any (E.below hb).lt (E.below hb) (fun k hk=>Nat.lt_of_lt_of_le hk hb.size) b a1 n1 c1 a2 n2 c2 (X1.below typF_firm hb) (X2.below rulF_firm hb) hts hrs hes k
 have HB:Hid (∀ wx,Below w0.heap.size w0 wx→Calls Tryz.prog 6 #[.agg #[.slice a1 n1 c1,.slice a2 n2 c2],.int .i64 k] wx (PlnP (ruleP b k).1 (ruleP b k).2 wx)):=fun wx hb=>
  bkplanof_any (E.below hb).lt (E.below hb) (fun k hk=>Nat.lt_of_lt_of_le hk hb.size) b a1 n1 c1 a2 n2 c2 (X1.below typF_firm hb) (X2.below rulF_firm hb) hts hrs hes k
 generalize ruleP b k=v at HA HB
 obtain⟨p,c⟩:=v
 unfold PlnP at HA HB
 simp only at HA HB
 clear X1 X2 hts hrs hes hK hR E
 go_enter Tryz.func3,Tryz.ntmps3
 go_wp2_with (first|(go_at_call 5;have hq:=HA.out _ M.new;with_reducible refine hq.mono ?_;clear hq;go_loud (rintro e w5 ⟨r1,l1,u1,r2,l2,u2,r3,l3,u3,rfl,hb5,hS1,hS2,hS3⟩;replace M:=M.dpush (plnD_firm p r1 l1 u1 r2 l2 u2 r3 l3 u3) hb5 (plnD_mk hS1 hS2 hS3);clear hb5 hS1 hS2 hS3))|(go_at_call 6;have hq:=HB.out _ M.new;with_reducible refine hq.mono ?_;clear hq;go_loud (rintro e w5 ⟨r1,l1,u1,r2,l2,u2,r3,l3,u3,rfl,hb5,hS1,hS2,hS3⟩;replace M:=M.dpush (plnD_firm p r1 l1 u1 r2 l2 u2 r3 l3 u3) hb5 (plnD_mk hS1 hS2 hS3);clear hb5 hS1 hS2 hS3))|(go_at_call 7;have hd1:=M.dat_ (i:=3) rfl;have hd2:=M.dat_ (i:=1) rfl;have hq:=samePlan_yes (Nat.lt_of_lt_of_le M.lt M.but.size) hd1 hd2;with_reducible refine hq.mono ?_;clear hq hd1 hd2;rintro e w5 ⟨rfl,hb5⟩;replace M:=M.below hb5;clear hb5)|(with_reducible (first|(refine wB M ?_;clear M;intro zb w1 M)|refine wq M ?_|(refine wS M ?_;clear M;intro w M)|(refine wV M ?_;clear M;intro z w M))))
 go_ret
 exact⟨ret_bool (by simp),M.new⟩
end
end Go.Proofs.YtncmghnhfipklaaGreatDoor
