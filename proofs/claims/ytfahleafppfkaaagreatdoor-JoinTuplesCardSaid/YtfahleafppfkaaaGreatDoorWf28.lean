/-
  The walk of sift.Takes. Printed by sfe.py.
-/
import Derived.Test.YtfahleafppfkaaaGreatDoorWf23
import Derived.Test.YtfahleafppfkaaaGreatDoorWf27
namespace Go.Proofs.YtfahleafppfkaaaGreatDoor
open Go.RowKit
set_option linter.unusedVariables false
set_option linter.unusedSimpArgs false
section
variable {b:Bok} {R:Rul} {ts:List Typ} {rule part k:Int} {x:Eve} {known:List Eve}
theorem takes_e1(h:bookE b≠0):takesE b rule part k x known=(false,bookE b):=by unfold takesE;rw[if_pos h]
theorem takes_e2(h0:bookE b=0)(h: ¬ (0≤rule∧rule<b.rules.length)):takesE b rule part k x known=(false,2):=by unfold takesE;rw[if_neg (by rw[h0];simp),if_pos h]
theorem takes_e3(h0:bookE b=0)(h:0≤rule∧rule<b.rules.length)(hr:rule.toNat<b.rules.length):takesE b rule part k x known=takesR b.types b.rules[rule.toNat] part k x known:=by
 unfold takesE
 rw[if_neg (by rw[h0];simp),if_neg (fun hn=>hn h),show b.rules.getD rule.toNat rul00=b.rules[rule.toNat]by simp[List.getD,List.getElem?_eq_getElem hr]]
theorem part_in(h:0≤k∧k<(partL R part).length):0≤part∧part≤2:=by
 unfold partL at h
 by_cases h0:part=0
 ·omega
 by_cases h1:part=1
 ·omega
 by_cases h2:part=2
 ·omega
 rw[if_neg h0,if_neg h1,if_neg h2]at h
 simp at h
 omega
theorem takesR_bad(h: ¬ (0≤k∧k<(partL R part).length)):takesR ts R part k x known=(false,2):=by unfold takesR;rw[if_pos (.inr h)]
theorem takesR_ev(h:0≤k∧k<(partL R part).length){j:Nat}(hz:AllZ (evE ts (x::known)) j)(hj:j<known.length+1){e:Int}(he:evE ts (x::known) j=e)(hn:e≠0):takesR ts R part k x known=(false,e):=by
 have hf:=firstN_at hz hj (by rw[he];exact hn)
 unfold takesR
 rw[if_neg (fun hh=>hh.elim (fun g=>g (part_in h)) (fun g=>g h)),if_pos (by rw[hf,he];exact hn),hf,he]
theorem takesR_form(h:0≤k∧k<(partL R part).length)(hz:AllZ (evE ts (x::known)) (known.length+1))(hf:(known.length:Int)≠(if part=0 then k else R.whens.length)):takesR ts R part k x known=(false,4):=by
 unfold takesR
 rw[if_neg (fun hh=>hh.elim (fun g=>g (part_in h)) (fun g=>g h)),if_neg (by rw[firstN_zero hz];simp),if_pos hf]
theorem takesR_mis(h:0≤k∧k<(partL R part).length)(hz:AllZ (evE ts (x::known)) (known.length+1))(hf:(known.length:Int)=(if part=0 then k else R.whens.length)){j:Nat}(hm:AllZ (misE ts R.whens known) j)(hj:j<known.length)(he:misE ts R.whens known j=13):takesR ts R part k x known=(false,13):=by
 have hg:=firstN_at hm hj (by rw[he];decide)
 unfold takesR
 rw[if_neg (fun hh=>hh.elim (fun g=>g (part_in h)) (fun g=>g h)),if_neg (by rw[firstN_zero hz];simp),if_neg (fun hn=>hn hf),if_pos (by rw[hg,he];decide)]
theorem takesR_end(h:0≤k∧k<(partL R part).length)(hz:AllZ (evE ts (x::known)) (known.length+1))(hf:(known.length:Int)=(if part=0 then k else R.whens.length))(hm:AllZ (misE ts R.whens known) known.length):
  takesR ts R part k x known=(sameS (evT ts x).name ((partL R part).getD k.toNat pat0).type&&holdR ts R.whens known x 8 ((partL R part).getD k.toNat pat0).wher,0):=by
 unfold takesR
 rw[if_neg (fun hh=>hh.elim (fun g=>g (part_in h)) (fun g=>g h)),if_neg (by rw[firstN_zero hz];simp),if_neg (fun hn=>hn hf),if_neg (by rw[firstN_zero hm];simp)]
theorem evE_at{l:List Eve}{j:Nat}(h:j<l.length):evE ts l j=eventE ts l[j].e l[j].vals:=by unfold evE;rw[show l.getD j default=l[j]by simp[List.getD,List.getElem?_eq_getElem h]]
theorem misE_at{wh:List Pat}{l:List Eve}{j:Nat}(h:j<l.length)(hw:j<wh.length):misE ts wh l j=if sameS (evT ts l[j]).name wh[j].type=true then 0 else 13:=by
 unfold misE
 rw[show l.getD j default=l[j]by simp[List.getD,List.getElem?_eq_getElem h],show wh.getD j pat0=wh[j]by simp[List.getD,List.getElem?_eq_getElem hw]]
theorem vars_snoc{wh:List Pat}{j:Nat}(hw:j<wh.length):vars (wh.take j)++[wh[j].var]=vars (wh.take (j+1)):=by
 unfold vars
 rw[List.take_add_one,List.getElem?_eq_getElem hw,List.map_append]
 rfl
end
section
variable {g:Nat} {F F3:Nat→Prop} {w0:World}
set_option maxRecDepth 8000 in
set_option maxHeartbeats 16000000 in
theorem takes_book(hg:g<w0.heap.size)(E:Env F w0)(hF: ∀ b,F b→b<w0.heap.size)(b:Bok)(a1:Option Addr)(n1 c1:Nat)(a2:Option Addr)(n2 c2:Nat)(X1:SlF F w0 2 typF a1 n1 c1 b.types)(X2:SlF F w0 7 rulF a2 n2 c2 b.rules)(hts: ∀ t∈b.types,typOk t)(hrs: ∀ x∈b.rules,RulFit x)(hes: ∀ x∈b.rules,x.etype.size≤maxLen)(x:Eve)(px:Option Addr)(qx rx:Nat)(hxv:SlF F3 w0 3 (plainF valC) px qx rx x.vals)(hxo:eveOk x)(a3:Option Addr)(n3 c3:Nat)(known:List Eve)(X3:SlF F3 w0 5 eveF a3 n3 c3 known)(hko: ∀ y∈known,eveOk y)(hn3:n3*56≤140737488351232)(rule part k:Int)(h0:bookE b≠0):Calls Tryz.prog 37 #[.agg #[.slice a1 n1 c1,.slice a2 n2 c2],.int .i64 rule,.int .i64 part,.int .i64 k,.agg #[.int .i64 x.e.number,.int .i64 x.e.type,.int .i64 x.e.start,.int .i64 x.e.stop,.slice px qx rx],.slice a3 n3 c3] w0 fun e w' =>e= .returned (.tuple #[.bool (takesE b rule part k x known).1,.int .i64 (takesE b rule part k x known).2])∧Below w0.heap.size w0 w' :=by
 have M:=Mem.begin hg ⟨0,0⟩
 have HC:Hid (∀ wx,Below w0.heap.size w0 wx→Calls Tryz.prog 28 #[.agg #[.slice a1 n1 c1,.slice a2 n2 c2]] wx fun e w' =>e= .returned (.int .i64 (bookE b))∧Below wx.heap.size wx w'):=fun wx hb=>check_any (E.below hb).lt (E.below hb) (fun k hk=>Nat.lt_of_lt_of_le (hF k hk) hb.size) b a1 n1 c1 a2 n2 c2 (X1.below typF_firm hb) (X2.below rulF_firm hb) hts hrs hes
 have HV:Hid (takesE b rule part k x known=(false,bookE b)):=takes_e1 h0
 have hqb:(bookE b !=0)=true:=by simpa using h0
 generalize takesE b rule part k x known=T at HV ⊢
 generalize bookE b=q at HC HV hqb
 clear h0 X1 X2 X3 hts hrs hes hxv hxo hko hg hF E
 go_enter Tryz.func37,Tryz.ntmps37
 go_wp2_with (first|(with_reducible (first|(refine wB (L:=[]) M ?_;clear M;intro za w1 M)|(refine wB M ?_;clear M;intro zx w1 M)|refine wq M ?_))|(go_at_call 28;with_reducible refine(HC.out _ M.new).mono ?_;rintro e w5 ⟨rfl,hb5⟩;replace M:=M.below hb5;clear hb5))
 go_ret2
 rw[HV.out]
 exact⟨rfl,M.new⟩
set_option maxRecDepth 8000 in
set_option maxHeartbeats 16000000 in
theorem takes_norule(hg:g<w0.heap.size)(E:Env F w0)(hF: ∀ b,F b→b<w0.heap.size)(b:Bok)(a1:Option Addr)(n1 c1:Nat)(a2:Option Addr)(n2 c2:Nat)(X1:SlF F w0 2 typF a1 n1 c1 b.types)(X2:SlF F w0 7 rulF a2 n2 c2 b.rules)(hts: ∀ t∈b.types,typOk t)(hrs: ∀ x∈b.rules,RulFit x)(hes: ∀ x∈b.rules,x.etype.size≤maxLen)(x:Eve)(px:Option Addr)(qx rx:Nat)(hxv:SlF F3 w0 3 (plainF valC) px qx rx x.vals)(hxo:eveOk x)(a3:Option Addr)(n3 c3:Nat)(known:List Eve)(X3:SlF F3 w0 5 eveF a3 n3 c3 known)(hko: ∀ y∈known,eveOk y)(hn3:n3*56≤140737488351232)(rule part k:Int)(h0:bookE b=0)(hr: ¬ (0≤rule∧rule<b.rules.length)):Calls Tryz.prog 37 #[.agg #[.slice a1 n1 c1,.slice a2 n2 c2],.int .i64 rule,.int .i64 part,.int .i64 k,.agg #[.int .i64 x.e.number,.int .i64 x.e.type,.int .i64 x.e.start,.int .i64 x.e.stop,.slice px qx rx],.slice a3 n3 c3] w0 fun e w' =>e= .returned (.tuple #[.bool (takesE b rule part k x known).1,.int .i64 (takesE b rule part k x known).2])∧Below w0.heap.size w0 w' :=by
 have M:=Mem.begin hg ⟨0,0⟩
 have HC:Hid (∀ wx,Below w0.heap.size w0 wx→Calls Tryz.prog 28 #[.agg #[.slice a1 n1 c1,.slice a2 n2 c2]] wx fun e w' =>e= .returned (.int .i64 (bookE b))∧Below wx.heap.size wx w'):=fun wx hb=>check_any (E.below hb).lt (E.below hb) (fun k hk=>Nat.lt_of_lt_of_le (hF k hk) hb.size) b a1 n1 c1 a2 n2 c2 (X1.below typF_firm hb) (X2.below rulF_firm hb) hts hrs hes
 have HV:Hid (takesE b rule part k x known=(false,2)):=takes_e2 h0 hr
 have N2:=X2.len
 rw[h0]at HC
 have hd:rule<0∨(¬ rule<0∧(n2:Int)≤rule):=by omega
 generalize takesE b rule part k x known=T at HV ⊢
 clear h0 hr N2 X1 X2 X3 hts hrs hes hxv hxo hko hg hF E
 obtain⟨u1,hu1⟩: ∃ u1,decide (rule<0)=u1:=⟨_,rfl⟩
 obtain⟨u2,hu2⟩: ∃ u2,decide ((n2:Int)≤rule)=u2:=⟨_,rfl⟩
 have hu:Hid (u1=true∨u2=true):=by
  rcases hd with hd|⟨hd1,hd⟩
  ·exact .inl (by rw[←hu1];simpa using hd)
  ·exact .inr (by rw[←hu2];simpa using hd)
 clear hd
 cases u1<;>cases u2
 ·exact absurd hu.out (by simp)
 all_goals
  clear hu
  go_enter Tryz.func37,Tryz.ntmps37
  go_wp2_with (first|(with_reducible (first|(refine wB (L:=[]) M ?_;clear M;intro za w1 M)|(refine wB M ?_;clear M;intro zx w1 M)|refine wq M ?_))|(go_at_call 28;with_reducible refine(HC.out _ M.new).mono ?_;rintro e w5 ⟨rfl,hb5⟩;replace M:=M.below hb5;clear hb5))
  go_ret2
  rw[HV.out]
  exact⟨rfl,M.new⟩
set_option maxRecDepth 8000 in
set_option maxHeartbeats 16000000 in
theorem takes_nopat(hg:g<w0.heap.size)(E:Env F w0)(hF: ∀ b,F b→b<w0.heap.size)(b:Bok)(a1:Option Addr)(n1 c1:Nat)(a2:Option Addr)(n2 c2:Nat)(X1:SlF F w0 2 typF a1 n1 c1 b.types)(X2:SlF F w0 7 rulF a2 n2 c2 b.rules)(hts: ∀ t∈b.types,typOk t)(hrs: ∀ x∈b.rules,RulFit x)(hes: ∀ x∈b.rules,x.etype.size≤maxLen)(x:Eve)(px:Option Addr)(qx rx:Nat)(hxv:SlF F3 w0 3 (plainF valC) px qx rx x.vals)(hxo:eveOk x)(a3:Option Addr)(n3 c3:Nat)(known:List Eve)(X3:SlF F3 w0 5 eveF a3 n3 c3 known)(hko: ∀ y∈known,eveOk y)(hn3:n3*56≤140737488351232)(rule part k:Int)(h0:bookE b=0)(hr:0≤rule∧rule<b.rules.length)(hk: ∀ (h:rule.toNat<b.rules.length),¬ (0≤k∧k<(partL b.rules[rule.toNat] part).length)):Calls Tryz.prog 37 #[.agg #[.slice a1 n1 c1,.slice a2 n2 c2],.int .i64 rule,.int .i64 part,.int .i64 k,.agg #[.int .i64 x.e.number,.int .i64 x.e.type,.int .i64 x.e.start,.int .i64 x.e.stop,.slice px qx rx],.slice a3 n3 c3] w0 fun e w' =>e= .returned (.tuple #[.bool (takesE b rule part k x known).1,.int .i64 (takesE b rule part k x known).2])∧Below w0.heap.size w0 w' :=by
 have M:=Mem.begin hg ⟨0,0⟩
 have HC:Hid (∀ wx,Below w0.heap.size w0 wx→Calls Tryz.prog 28 #[.agg #[.slice a1 n1 c1,.slice a2 n2 c2]] wx fun e w' =>e= .returned (.int .i64 (bookE b))∧Below wx.heap.size wx w'):=fun wx hb=>check_any (E.below hb).lt (E.below hb) (fun k hk=>Nat.lt_of_lt_of_le (hF k hk) hb.size) b a1 n1 c1 a2 n2 c2 (X1.below typF_firm hb) (X2.below rulF_firm hb) hts hrs hes
 have hrl:rule.toNat<b.rules.length:=by omega
 have HTE:=takes_e3 (part:=part) (k:=k) (x:=x) (known:=known) h0 hr hrl
 have N2:=X2.len
 have hd1:decide (rule<0)=false:=by simp;omega
 have hd2:decide ((n2:Int)≤rule)=false:=by simp;omega
 have hrz:=rule_zero h0 hrl
 have hro:=hrs _ (List.getElem_mem hrl)
 obtain⟨cr,or,rowr,hixr, -,hrrr,hwr⟩:=SlF.rowAt (P:=Tryz.prog) X2 rulF_firm Tryz.underlying23 size_rul (i:=rule.toNat) hrl
 rw[show((rule.toNat:Nat):Int)=rule from Int.toNat_of_nonneg hr.1]at hixr
 obtain⟨b1,m1,e1,b2,m2,e2,b3,m3,e3,b4,m4,e4,b6,m6,e6,er,Y1,Y2,Y3, -, -⟩:=hrrr
 subst er
 have HR:Hid (∀ wx,Below w0.heap.size w0 wx→wx.rangeAt cr or [.string b.rules[rule.toNat].name,.slice b1 m1 e1,.slice b2 m2 e2,.slice b3 m3 e3,.slice b4 m4 e4,.string b.rules[rule.toNat].etype,.slice b6 m6 e6]):=fun wx hb=>(hwr wx hb).1
 have hsm:b.rules[rule.toNat].manies.length≤100000:=man_few hrz
 have hwf:b.rules[rule.toNat].whens.length≤100000:=when_few hrz
 have HPA:Hid (∀ wx,Below w0.heap.size w0 wx→Calls Tryz.prog 73 #[.agg #[.string b.rules[rule.toNat].name,.slice b1 m1 e1,.slice b2 m2 e2,.slice b3 m3 e3,.slice b4 m4 e4,.string b.rules[rule.toNat].etype,.slice b6 m6 e6],.int .i64 part,.int .i64 k] wx (PatPost F w0 wx (partL b.rules[rule.toNat] part) k)):=fun wx hb=>takePat_any (Nat.lt_of_lt_of_le hg hb.size) hb Y1 Y2 Y3 hsm part k
 rw[h0]at HC
 have HV:Hid (takesE b rule part k x known=(false,2)):=by show _=_;rw[HTE];exact takesR_bad (hk hrl)
 have HPB:Hid (∀ wx,Below w0.heap.size w0 wx→Calls Tryz.prog 73 #[.agg #[.string b.rules[rule.toNat].name,.slice b1 m1 e1,.slice b2 m2 e2,.slice b3 m3 e3,.slice b4 m4 e4,.string b.rules[rule.toNat].etype,.slice b6 m6 e6],.int .i64 part,.int .i64 k] wx fun e w' =>e= .returned (.tuple #[.agg pat18z.toArray,.bool false])∧Below wx.heap.size wx w'):=fun wx hb=>(HPA.out wx hb).mono (fun e w' h=>⟨h.2.2 (hk hrl),h.1⟩)
 unfold pat18z at HPB
 generalize takesE b rule part k x known=T at HV ⊢
 generalize b.rules[rule.toNat]=R at HR HPB
 clear HPA HTE h0 hr hk N2 hrz hro hwr Y1 Y2 Y3 hsm hwf hrl X1 X2 X3 hts hrs hes hxv hxo hko hg hF E
 go_enter Tryz.func37,Tryz.ntmps37
 go_wp2_with (first|(with_reducible (first|(refine wB (L:=[]) M ?_;clear M;intro za w1 M)|(refine wB M ?_;clear M;intro zx w1 M)|(refine wV M ?_;clear M;intro zp w M)|refine wq M ?_|(refine wS M ?_;clear M;intro w M)|refine wA (HR.out _ M.new) ?_))|(go_at_call 28;with_reducible refine(HC.out _ M.new).mono ?_;rintro e w5 ⟨rfl,hb5⟩;replace M:=M.below hb5;clear hb5)|(go_at_call 73;with_reducible refine(HPB.out _ M.new).mono ?_;rintro e w5 ⟨rfl,hb5⟩;replace M:=M.below hb5;clear hb5))
 go_ret2
 rw[HV.out]
 exact⟨rfl,M.new⟩
set_option maxRecDepth 8000 in
set_option maxHeartbeats 16000000 in
theorem takes_main(hg:g<w0.heap.size)(E:Env F w0)(hF: ∀ b,F b→b<w0.heap.size)(b:Bok)(a1:Option Addr)(n1 c1:Nat)(a2:Option Addr)(n2 c2:Nat)(X1:SlF F w0 2 typF a1 n1 c1 b.types)(X2:SlF F w0 7 rulF a2 n2 c2 b.rules)(hts: ∀ t∈b.types,typOk t)(hrs: ∀ x∈b.rules,RulFit x)(hes: ∀ x∈b.rules,x.etype.size≤maxLen)(x:Eve)(px:Option Addr)(qx rx:Nat)(hxv:SlF F3 w0 3 (plainF valC) px qx rx x.vals)(hxo:eveOk x)(a3:Option Addr)(n3 c3:Nat)(known:List Eve)(X3:SlF F3 w0 5 eveF a3 n3 c3 known)(hko: ∀ y∈known,eveOk y)(hn3:n3*56≤140737488351232)(rule part k:Int)(h0:bookE b=0)(hr:0≤rule∧rule<b.rules.length)(hk0: ∀ (h:rule.toNat<b.rules.length),0≤k∧k<(partL b.rules[rule.toNat] part).length):Calls Tryz.prog 37 #[.agg #[.slice a1 n1 c1,.slice a2 n2 c2],.int .i64 rule,.int .i64 part,.int .i64 k,.agg #[.int .i64 x.e.number,.int .i64 x.e.type,.int .i64 x.e.start,.int .i64 x.e.stop,.slice px qx rx],.slice a3 n3 c3] w0 fun e w' =>e= .returned (.tuple #[.bool (takesE b rule part k x known).1,.int .i64 (takesE b rule part k x known).2])∧Below w0.heap.size w0 w' :=by
 have M:=Mem.begin hg ⟨0,0⟩
 have HC:Hid (∀ wx,Below w0.heap.size w0 wx→Calls Tryz.prog 28 #[.agg #[.slice a1 n1 c1,.slice a2 n2 c2]] wx fun e w' =>e= .returned (.int .i64 (bookE b))∧Below wx.heap.size wx w'):=fun wx hb=>check_any (E.below hb).lt (E.below hb) (fun k hk=>Nat.lt_of_lt_of_le (hF k hk) hb.size) b a1 n1 c1 a2 n2 c2 (X1.below typF_firm hb) (X2.below rulF_firm hb) hts hrs hes
 have hrl:rule.toNat<b.rules.length:=by omega
 have HTE:=takes_e3 (part:=part) (k:=k) (x:=x) (known:=known) h0 hr hrl
 have N2:=X2.len
 have hd1:decide (rule<0)=false:=by simp;omega
 have hd2:decide ((n2:Int)≤rule)=false:=by simp;omega
 have hrz:=rule_zero h0 hrl
 have hro:=hrs _ (List.getElem_mem hrl)
 obtain⟨cr,or,rowr,hixr, -,hrrr,hwr⟩:=SlF.rowAt (P:=Tryz.prog) X2 rulF_firm Tryz.underlying23 size_rul (i:=rule.toNat) hrl
 rw[show((rule.toNat:Nat):Int)=rule from Int.toNat_of_nonneg hr.1]at hixr
 obtain⟨b1,m1,e1,b2,m2,e2,b3,m3,e3,b4,m4,e4,b6,m6,e6,er,Y1,Y2,Y3, -, -⟩:=hrrr
 subst er
 have HR:Hid (∀ wx,Below w0.heap.size w0 wx→wx.rangeAt cr or [.string b.rules[rule.toNat].name,.slice b1 m1 e1,.slice b2 m2 e2,.slice b3 m3 e3,.slice b4 m4 e4,.string b.rules[rule.toNat].etype,.slice b6 m6 e6]):=fun wx hb=>(hwr wx hb).1
 have hsm:b.rules[rule.toNat].manies.length≤100000:=man_few hrz
 have hwf:b.rules[rule.toNat].whens.length≤100000:=when_few hrz
 have HPA:Hid (∀ wx,Below w0.heap.size w0 wx→Calls Tryz.prog 73 #[.agg #[.string b.rules[rule.toNat].name,.slice b1 m1 e1,.slice b2 m2 e2,.slice b3 m3 e3,.slice b4 m4 e4,.string b.rules[rule.toNat].etype,.slice b6 m6 e6],.int .i64 part,.int .i64 k] wx (PatPost F w0 wx (partL b.rules[rule.toNat] part) k)):=fun wx hb=>takePat_any (Nat.lt_of_lt_of_le hg hb.size) hb Y1 Y2 Y3 hsm part k
 rw[h0]at HC
 have hk:=hk0 hrl
 have hkl:k.toNat<(partL b.rules[rule.toNat] part).length:=by omega
 obtain⟨P,hP⟩: ∃ P,P=(partL b.rules[rule.toNat] part).getD k.toNat pat0:=⟨_,rfl⟩
 have hPf:PatFit P:=by rw[hP];exact partL_fit hro hkl
 obtain⟨n4,hn4⟩: ∃ n4,n4=1+n3:=⟨_,rfl⟩
 have NK:=X3.len
 have hle3:=X3.le
 have HPB:Hid (∀ wx,Below w0.heap.size w0 wx→Calls Tryz.prog 73 #[.agg #[.string b.rules[rule.toNat].name,.slice b1 m1 e1,.slice b2 m2 e2,.slice b3 m3 e3,.slice b4 m4 e4,.string b.rules[rule.toNat].etype,.slice b6 m6 e6],.int .i64 part,.int .i64 k] wx fun e w' => ∃ (p1:Option Addr) (q1 s1:Nat),e= .returned (.tuple #[.agg #[.string P.var,.string P.type,.int .i64 P.wher.kind,.slice p1 q1 s1,.int .i64 P.wher.left.kind,.int .i64 P.wher.left.vkind,.int .i64 P.wher.left.vint,.string P.wher.left.vtext,.string P.wher.left.var,.string P.wher.left.field,.int .i64 P.wher.right.kind,.int .i64 P.wher.right.vkind,.int .i64 P.wher.right.vint,.string P.wher.right.vtext,.string P.wher.right.var,.string P.wher.right.field,.int .i64 P.window,.int .i64 P.n],.bool true])∧SlF F w0 14 CondF p1 q1 s1 P.wher.subs∧Below wx.heap.size wx w'):=fun wx hb=>(HPA.out wx hb).mono (fun e w' h=>by
  obtain⟨row,e1,p1,q1,s1,e2,hs⟩:=h.2.1 hk
  rw[←hP]at e2 hs
  subst e2
  exact⟨p1,q1,s1,e1,hs,h.1⟩)
 have HJ:Hid (∀ wx q,Below w0.heap.size w0 wx→w0.heap.size≤q→Own q [.int .i64 x.e.number,.int .i64 x.e.type,.int .i64 x.e.start,.int .i64 x.e.stop,.slice px qx rx] 65 wx→ ∃ ra rc w',(Builtin.append_ #[26,26] 26 #[.slice (some ⟨q,0,none⟩) 1 1,.slice a3 n3 c3]).run Tryz.prog wx= .ok (.slice ra n4 rc) w' ∧SlF (fun _=>True) w' 5 eveF ra n4 rc (x::known)∧But q wx w'):=fun wx q hb hq ho=>by
  obtain⟨i0,hi,hz0,hz1,hz2⟩:=info_parts info_eve
  rw[hn4]
  exact run_join (F:=under w0.heap.size) Tryz.underlying26 hi hz0 hz1 hz2 rfl (by omega) eveF_firm eveF_one ho rfl ⟨px,qx,rx,rfl,(hxv.wide (plainF_firm _) (G:=under w0.heap.size) (fun b _ h=>h)).below (plainF_firm _) hb⟩ (fun b hbq=>by intro e;subst e;have:b<w0.heap.size:=hbq;omega) ((X3.wide eveF_firm (G:=under w0.heap.size) (fun b _ h=>h)).below eveF_firm hb) (by omega) (by unfold maxLen;omega)
 have HT:=Lib.hid (fun wx (hb:Below w0.heap.size w0 wx)=>typ_R (X1.below typF_firm hb) hts)
 have HX1:=Lib.hid X1
 have HX3:=Lib.hid X3
 have HXV:=Lib.hid hxv
 have HY1:=Lib.hid Y1
 have HTS:=Lib.hid hts
 have HKO:=Lib.hid hko
 have HXO:=Lib.hid hxo
 have HPF:=Lib.hid hPf
 have HKK:=Lib.hid hk
 have HNK:=Lib.hid NK
 have HN4:=Lib.hid hn4
 have HG:Hid (∀ known' :List Eve,known' =known→EvGood b.types x→(∀ i (hi:i<known.length),EvGood b.types known[i])→(known.length:Int)=(if part=0 then k else(b.rules[rule.toNat].whens.length:Int))→AllZ (misE b.types b.rules[rule.toNat].whens known) known.length→sameS (evT b.types x).name P.type=true→HoldGood b.types b.rules[rule.toNat].whens known x 8 P.wher):=fun _ _ h1 h2 h3 h4 h5=>by
  have h6:=takes_good h0 hrl (part_in hk) hkl h1 h2 (by rw[h3];by_cases p0:part=0<;>simp[p0]<;>omega) h4 (by rw[←hP];exact h5)
  rw[←hP]at h6
  exact h6
 have HFEW:=Lib.hid hwf
 have HLE:Hid ((known.length:Int)=(if part=0 then k else(b.rules[rule.toNat].whens.length:Int))→known.length≤b.rules[rule.toNat].whens.length):=fun h=>by
  by_cases p0:part=0
  ·rw[if_pos p0]at h
   have:=hk.2
   unfold partL at this
   rw[if_pos p0]at this
   omega
  ·rw[if_neg p0]at h;omega
 have HW:Hid (takesE b rule part k x known=takesR b.types b.rules[rule.toNat] part k x known):=HTE
 have HVE:Hid (∀ {j:Nat},AllZ (evE b.types (x::known)) j→j<known.length+1→ ∀ {e:Int},evE b.types (x::known) j=e→e≠0→takesE b rule part k x known=(false,e)):=fun hz hj e he hn=>HTE.trans (takesR_ev hk hz hj he hn)
 have HVF:Hid (AllZ (evE b.types (x::known)) (known.length+1)→(known.length:Int)≠(if part=0 then k else(b.rules[rule.toNat].whens.length:Int))→takesE b rule part k x known=(false,4)):=fun hz hf=>HTE.trans (takesR_form hk hz hf)
 have HVM:Hid (AllZ (evE b.types (x::known)) (known.length+1)→(known.length:Int)=(if part=0 then k else(b.rules[rule.toNat].whens.length:Int))→ ∀ {j:Nat},AllZ (misE b.types b.rules[rule.toNat].whens known) j→j<known.length→misE b.types b.rules[rule.toNat].whens known j=13→takesE b rule part k x known=(false,13)):=fun hz hf j hm hj he=>HTE.trans (takesR_mis hk hz hf hm hj he)
 have HVN:Hid (AllZ (evE b.types (x::known)) (known.length+1)→(known.length:Int)=(if part=0 then k else(b.rules[rule.toNat].whens.length:Int))→AllZ (misE b.types b.rules[rule.toNat].whens known) known.length→takesE b rule part k x known=(sameS (evT b.types x).name P.type&&holdR b.types b.rules[rule.toNat].whens known x 8 P.wher,0)):=fun hz hf hm=>HTE.trans (by rw[hP];exact takesR_end hk hz hf hm)
 have HW1:Hid (∀ wx,Below w0.heap.size w0 wx→wx.cell? ⟨cr,or+1,none⟩=some (.slice b1 m1 e1)):=fun wx hb=>(HR.out wx hb) 1 _ rfl
 generalize takesE b rule part k x known=T at HVE HVF HVM HVN ⊢
 generalize b.rules[rule.toNat]=R at *
 clear HPA HTE HW h0 hr hk0 hk hkl hP hPf N2 hrz hro hwr Y1 Y2 Y3 hsm hwf hrl X1 X2 X3 hts hrs hes hxv hxo hko hF E NK hn4
 replace hg:=Lib.hid hg
 go_enter Tryz.func37,Tryz.ntmps37
 go_wp2_with (first|(with_reducible (first|(refine wB (L:=[]) M ?_;clear M;intro za w1 M)|(refine wB M ?_;clear M;intro zx w1 M)|(refine wV M ?_;clear M;intro zp w M)|refine wq M ?_|(refine wS M ?_;clear M;intro w M)|(refine wR M ?_;clear M;intro q w M)|refine wA (HR.out _ M.new) ?_))|(go_at_call 28;with_reducible refine(HC.out _ M.new).mono ?_;rintro e w5 ⟨rfl,hb5⟩;replace M:=M.below hb5;clear hb5)|(go_at_call 73;with_reducible refine(HPB.out _ M.new).mono ?_;rintro e w5 ⟨p1,q1,s1,rfl,hSP,hb5⟩;have HSP:=Lib.hid hSP;clear hSP;replace M:=M.below hb5;clear hb5)|(at_builtin;obtain⟨ra,rc,w6,hrun,hS6,hb6⟩:=HJ.out _ _ M.new (M.ne (Mem.of_get (i:=0) rfl)).1 (M.own_ (Mem.of_get (i:=0) rfl));refine wpList_append_run rfl _ _ 26 rfl rfl rfl rfl hrun ?_;replace M:=M.lose (i:=0) rfl hb6;clear hrun hb6))
 have hb06:=M.new
 have hza:Own za [.slice a1 n1 c1,.slice a2 n2 c2] 25 w6:=M.own_ (by simp)
 have hzx:Own zx [.int .i64 x.e.number,.int .i64 x.e.type,.int .i64 x.e.start,.int .i64 x.e.stop,.slice px qx rx] 65 w6:=M.own_ (by simp)
 have hzp:Own zp [.string P.var,.string P.type,.int .i64 P.wher.kind,.slice p1 q1 s1,.int .i64 P.wher.left.kind,.int .i64 P.wher.left.vkind,.int .i64 P.wher.left.vint,.string P.wher.left.vtext,.string P.wher.left.var,.string P.wher.left.field,.int .i64 P.wher.right.kind,.int .i64 P.wher.right.vkind,.int .i64 P.wher.right.vint,.string P.wher.right.vtext,.string P.wher.right.var,.string P.wher.right.field,.int .i64 P.window,.int .i64 P.n] 78 w6:=M.own_ (by simp)
 have HA0:Hid (∀ wx,Below w6.heap.size w6 wx→wx.cell? ⟨za,0,none⟩=some (.slice a1 n1 c1)):=fun wx hb=>(hza.below hb).cell 0
 have HA1:Hid (∀ wx,Below w6.heap.size w6 wx→wx.cell? ⟨za,1,none⟩=some (.slice a2 n2 c2)):=fun wx hb=>(hza.below hb).cell 1
 have HX5:Hid (∀ wx,Below w6.heap.size w6 wx→wx.rangeAt zx 0 [.int .i64 x.e.number,.int .i64 x.e.type,.int .i64 x.e.start,.int .i64 x.e.stop,.slice px qx rx]):=fun wx hb=>(hzx.below hb).range
 have HXT:Hid (∀ wx,Below w6.heap.size w6 wx→wx.cell? ⟨zx,1,none⟩=some (.int .i64 x.e.type)):=fun wx hb=>(hzx.below hb).cell 1
 have HPT:Hid (∀ wx,Below w6.heap.size w6 wx→wx.cell? ⟨zp,1,none⟩=some (.string P.type)):=fun wx hb=>(hzp.below hb).cell 1
 have HPC:Hid (∀ wx,Below w6.heap.size w6 wx→wx.rangeAt zp 2 [.int .i64 P.wher.kind,.slice p1 q1 s1,.int .i64 P.wher.left.kind,.int .i64 P.wher.left.vkind,.int .i64 P.wher.left.vint,.string P.wher.left.vtext,.string P.wher.left.var,.string P.wher.left.field,.int .i64 P.wher.right.kind,.int .i64 P.wher.right.vkind,.int .i64 P.wher.right.vint,.string P.wher.right.vtext,.string P.wher.right.var,.string P.wher.right.field]):=fun wx hb=>range_part (hzp.below hb).range 2 _ rfl
 have HB06:=Lib.hid hb06
 have hg6:g<w6.heap.size:=Nat.lt_of_lt_of_le hg.out hb06.size
 have HS6:=Lib.hid hS6
 clear hza hzx hzp hb06 hS6 HPB HJ HC M hg
 have M:=Mem.begin hg6 ⟨0,0⟩
 have hlift: ∀ wx:World,Below w6.heap.size w6 wx→Below w0.heap.size w0 wx:=fun wx hb=>HB06.out.trans (hb.mono HB06.out.size)
 have HL:=Lib.hid hlift
 have HW6:Hid (∀ wx,Below w6.heap.size w6 wx→wx.cell? ⟨cr,or+1,none⟩=some (.slice b1 m1 e1)):=fun wx hb=>HW1.out wx (hlift wx hb)
 have N4:Hid (n4=(x::known).length):=by have:=HN4.out;have:=HNK.out;show _=_;simp only[List.length_cons];omega
 have hle4:=HS6.out.le
 have HGG:=Lib.hid hg6
 clear hlift HW1 hg6
 go_loopg [57] n4 (fun f i wr=> ∃ (j:Nat),j+f=n4∧i= .int .i64 j∧Mem (StaysB g w6) g w6 wr ⟨0,0⟩ []∧Hid (AllZ (evE b.types (x::known)) j))
 case atStart=>exact⟨0,by omega,rfl,M,allZ_zero _⟩
 case round=>
  clear M
  obtain⟨j,hj,rfl,M,HZ⟩:=hrel
  by_cases hlt:j<n4
  ·have hkl:j<(x::known).length:=by have:=N4.out;omega
   obtain⟨ct,ot,rowt,hixt, -,hrrt,hwt⟩:=SlF.rowAt (P:=Tryz.prog) HS6.out eveF_firm Tryz.underlying26 size_eve (i:=j) hkl
   obtain⟨p2,q2,s2,et,ut⟩:=hrrt
   subst et
   have HRE:=Lib.hid (fun wx hb=>(hwt wx hb).1)
   have hto:eveOk (x::known)[j]:=by
    rcases List.mem_cons.1 (List.getElem_mem hkl)with h|h
    ·rw[h];exact HXO.out
    ·exact HKO.out _ h
   have HEV:Hid (∀ wx,Below w6.heap.size w6 wx→Calls Tryz.prog 23 #[.slice a1 n1 c1,.agg #[.int .i64 (x::known)[j].e.number,.int .i64 (x::known)[j].e.type,.int .i64 (x::known)[j].e.start,.int .i64 (x::known)[j].e.stop,.slice p2 q2 s2]] wx fun e w' =>e= .returned (.int .i64 (eventE b.types (x::known)[j].e (x::known)[j].vals))∧Below wx.heap.size wx w'):=fun wx hb=>event_any a1 n1 c1 b.types (x::known)[j].e p2 q2 s2 (x::known)[j].vals wx (HT.out wx (HL.out _ hb)) (val_R (ut.below (plainF_firm _) hb) hto)
   have HZ2:Hid (eventE b.types (x::known)[j].e (x::known)[j].vals=0→AllZ (evE b.types (x::known)) (j+1)):=fun h=>allZ_succ HZ.out (by rw[evE_at hkl];exact h)
   have HV2:Hid (∀ e,eventE b.types (x::known)[j].e (x::known)[j].vals=e→e≠0→T=(false,e)):=fun e he hn=>HVE.out HZ.out (by simp only[List.length_cons]at hkl;exact hkl) (by rw[evE_at hkl];exact he) hn
   clear hwt hto ut HZ
   generalize (x::known)[j]=y at HRE HEV HZ2 HV2
   clear hkl
   by_cases hq:eventE b.types y.e y.vals=0
   ·have HZ3:=Lib.hid (HZ2.out hq)
    rw[hq]at HEV
    clear HZ2 HV2 hq
    go_wp2_with (first|(with_reducible (first|(refine wV M ?_;clear M;intro zy w M)|refine wq M ?_|(refine wS M ?_;clear M;intro w M)|refine wA (HRE.out _ M.new) ?_|refine wC (HA0.out _ M.new) ?_))|(go_at_call 23;with_reducible refine(HEV.out _ M.new).mono ?_;rintro e w5 ⟨rfl,hb5⟩;replace M:=M.below hb5;clear hb5))
    go_roundg (n4 - (j+1))
    case measure=>omega
    case rel=>exact⟨j+1,by omega,by go_num,M.drop,HZ3⟩
   ·have HV:=Lib.hid (HV2.out _ rfl hq)
    have hqb:(eventE b.types y.e y.vals !=0)=true:=by simpa using hq
    generalize eventE b.types y.e y.vals=te at HEV HV hqb
    clear HZ2 HV2 hq
    go_wp2_with (first|(with_reducible (first|(refine wV M ?_;clear M;intro zy w M)|refine wq M ?_|(refine wS M ?_;clear M;intro w M)|refine wA (HRE.out _ M.new) ?_|refine wC (HA0.out _ M.new) ?_))|(go_at_call 23;with_reducible refine(HEV.out _ M.new).mono ?_;rintro e w5 ⟨rfl,hb5⟩;replace M:=M.below hb5;clear hb5))
    go_ret2
    rw[HV.out]
    exact⟨rfl,HL.out _ M.new⟩
  ·have HZF:Hid (AllZ (evE b.types (x::known)) (known.length+1)):=by have e:j=known.length+1:=(by have:=N4.out;simp only[List.length_cons]at this;omega);show AllZ _ _;rw[←e];exact HZ.out
   obtain⟨want,hwant⟩: ∃ want:Int,want=if part=0 then k else(R.whens.length:Int):=⟨_,rfl⟩
   have HWT:=Lib.hid hwant
   have HNW:=Lib.hid HY1.out.len
   clear HZ hwant HVE HS6 N4 hle4
   go_upto_if 71 with(with_reducible (first|refine wq M ?_|(refine wS M ?_;clear M;intro w M)|(refine wV M ?_;clear M;intro z w M)|(refine wR M ?_;clear M;intro q w M)))
   go_cut [20] (fun vv wx=>vv= .int .i64 want∧Mem (StaysB g w6) g w6 wx ⟨0,0⟩ [])
   case first=>
    by_cases p0:part=0
    ·have pb:(part !=0)=false:=by simpa using p0
     have HWV:Hid (k=want):=by show _=_;rw[HWT.out,if_pos p0]
     clear p0
     go_wp2_with (with_reducible (first|refine wq M ?_|(refine wS M ?_;clear M;intro w M)|(refine wV M ?_;clear M;intro z w M)|(refine wR M ?_;clear M;intro q w M)))
     go_meet
     case rel=>exact⟨by rw[HWV.out],M⟩
    ·have pb:(part !=0)=true:=by simpa using p0
     have HWV:Hid ((m1:Int)=want):=by show _=_;rw[HWT.out,if_neg p0,HNW.out]
     clear p0
     go_wp2_with (with_reducible (first|refine wC (HA1.out _ M.new) ?_|refine wC (HW6.out _ M.new) ?_))
     go_meet
     case rel=>exact⟨by rw[HWV.out],M⟩
   case rest=>
   clear M
   obtain⟨rfl,M⟩:=hcut
   by_cases hf:(n3:Int)=want
   rotate_left
   ·have HV:=Lib.hid (HVF.out HZF.out (by rw[←HWT.out,←HNK.out];exact hf))
    have hfb:((n3:Int)!=want)=true:=by simpa using hf
    clear HZF HVF HVM HVN hf
    go_wp2_with (with_reducible (first|refine wq M ?_|(refine wS M ?_;clear M;intro w M)|(refine wV M ?_;clear M;intro z w M)|(refine wR M ?_;clear M;intro q w M)))
    go_ret2
    rw[HV.out]
    exact⟨rfl,HL.out _ M.new⟩
   have hfe:(known.length:Int)=(if part=0 then k else(R.whens.length:Int)):=by rw[←HWT.out,←HNK.out];exact hf
   have HFE:=Lib.hid hfe
   have HLW:=Lib.hid (HLE.out hfe)
   have HMI:Hid (∀ {j:Nat},AllZ (misE b.types R.whens known) j→j<known.length→misE b.types R.whens known j=13→T=(false,13)):=fun hm hj he=>HVM.out HZF.out hfe hm hj he
   have HME:=Lib.hid (HVN.out HZF.out hfe)
   have HGX:Hid (EvGood b.types x):=evGood_of (HZF.out 0 (by omega))
   have HGK:Hid (∀ i (hi:i<known.length),EvGood b.types known[i]):=fun i hi=>evGood_of (by have h:=HZF.out (i+1) (by omega);rw[evE_at (by simp only[List.length_cons];omega)]at h;simpa using h)
   have hfb:((n3:Int)!=want)=false:=by simpa using hf
   clear HVF HVM HVN hf hfe HZF HLE
   go_wp2_with (with_reducible (first|(refine wB M ?_;clear M;intro zv w1 M)|refine wC (HA0.out _ M.new) ?_|refine wA (HX5.out _ M.new) ?_))
   replace M:=M.none_ (R:=wordF) wordF_firm 9 1
   go_loopg [91] n3 (fun f i wr=> ∃ (j:Nat) (sa:Option Addr) (sc:Nat) (names:List ByteArray),j+f=n3∧names=vars (R.whens.take j)∧names.length=j∧i= .int .i64 j∧Mem (StaysB g w6) g w6 wr ⟨0,0⟩ (slc w6.heap.size 9 1 wordF (.slice sa names.length sc) names::own zv [.slice a1 n1 c1,.int .i64 x.e.number,.int .i64 x.e.type,.int .i64 x.e.start,.int .i64 x.e.stop,.slice px qx rx,.slice sa names.length sc,.slice a3 n3 c3] 127::[])∧Hid (AllZ (misE b.types R.whens known) j))
   case atStart=>exact⟨0,none,0,[],by omega,by simp[vars],rfl,rfl,M,allZ_zero _⟩
   case round=>
    clear M
    obtain⟨j,sa,sc,names,hj,hnm,hnl,rfl,M,HM⟩:=hrel
    have HNM:=Lib.hid hnm
    have HNL:=Lib.hid hnl
    clear hnm hnl
    by_cases hlt:j<n3
    ·have hkl:j<known.length:=by have:=HNK.out;omega
     have hwl:j<R.whens.length:=by have:=HLW.out;omega
     obtain⟨ck,ok,rowk,hixk, -,hrrk,hwk⟩:=SlF.rowAt (P:=Tryz.prog) HX3.out eveF_firm Tryz.underlying26 size_eve (i:=j) hkl
     obtain⟨p2,q2,s2,et, -⟩:=hrrk
     subst et
     have HRK:Hid (∀ wx,Below w6.heap.size w6 wx→wx.rangeAt ck ok [.int .i64 known[j].e.number,.int .i64 known[j].e.type,.int .i64 known[j].e.start,.int .i64 known[j].e.stop,.slice p2 q2 s2]):=fun wx hb=>(hwk wx (HL.out _ hb)).1
     obtain⟨cw,ow,roww,hixw, -,hrrw,hww⟩:=SlF.rowAt (P:=Tryz.prog) HY1.out patF_firm Tryz.underlying53 size_pat (i:=j) hwl
     obtain⟨p3,q3,s3,ew, -⟩:=hrrw
     subst ew
     have HRW:Hid (∀ wx,Below w6.heap.size w6 wx→wx.rangeAt cw ow (patC R.whens[j] p3 q3 s3)):=fun wx hb=>(hww wx (HL.out _ hb)).1
     have hgy:=HGK.out j hkl
     have htl:known[j].e.type.toNat<b.types.length:=by have:=hgy.lo;have:=hgy.hi;omega
     obtain⟨ct,ot,rowt,hixt, -,hrrt,hwt⟩:=SlF.rowAt (P:=Tryz.prog) HX1.out typF_firm Tryz.underlying22 size_typ (i:=known[j].e.type.toNat) htl
     rw[show((known[j].e.type.toNat:Nat):Int)=known[j].e.type from Int.toNat_of_nonneg hgy.lo]at hixt
     obtain⟨p4,q4,s4,e4t, -⟩:=hrrt
     subst e4t
     have hte:b.types[known[j].e.type.toNat]=evT b.types known[j]:=by unfold evT;simp[List.getD,List.getElem?_eq_getElem htl]
     have HTN:Hid (∀ wx,Below w6.heap.size w6 wx→wx.cell? ⟨ct,ot,none⟩=some (.string (evT b.types known[j]).name)):=fun wx hb=>by have h:=(hwt wx (HL.out _ hb)).1 0 _ rfl;rw[hte]at h;exact h
     have HNN:Hid (names++[R.whens[j].var]=vars (R.whens.take (j+1))):=by show _=_;rw[HNM.out];exact vars_snoc hwl
     have HMS:=Lib.hid (misE_at (ts:=b.types) hkl hwl)
     have HM2:Hid (misE b.types R.whens known j=0→AllZ (misE b.types R.whens known) (j+1)):=fun h=>allZ_succ HM.out h
     have HM3:Hid (misE b.types R.whens known j=13→T=(false,13)):=fun h=>HMI.out HM.out hkl h
     have hlen:Hid (names.length≤100000):=by have:=HNL.out;have:=HFEW.out;have:=HLW.out;have:=HNK.out;show _≤_;omega
     clear hwk hww hwt hte htl hgy HM
     generalize (evT b.types known[j]).name=nm at HTN HMS
     generalize known[j]=y at HRK hixt
     generalize R.whens[j]=W at HRW HNN HMS
     clear hkl hwl
     unfold patC cndC opdC at HRW
     simp only[List.cons_append,List.nil_append]at HRW
     go_wp2_with (with_reducible (first|(refine wS M ?_;clear M;intro w M)|(refine wV M ?_;clear M;intro z w M)|refine wA (HRK.out _ M.new) ?_|refine wA (HRW.out _ M.new) ?_|refine wC (HA1.out _ M.new) ?_|refine wC (HW6.out _ M.new) ?_))
     cases hsm:sameS nm W.type with
     |true=>
      have hsb:(nm.toList==W.type.toList)=true:=hsm
      have hsn:(nm.toList !=W.type.toList)=false:=by simp only[bne,hsb];rfl
      have HM4:=Lib.hid (HM2.out (by rw[HMS.out,if_pos hsm]))
      clear HMS HM2 HM3 hsm
      ((refine wp_region_calm M (by kernel_rfl) (by kernel_rfl) ?_);(repeat((with_reducible refine c_list rfl fun K hK=>?_);(first|(refine c_load (l' :=?_) ⟨_,M⟩ (fun w M=>?_) ?_;rotate_left;focus((first|(refine q_cellat (HA0.out _ M.new) ?_)|(refine q_cellat (HTN.out _ M.new) ?_)|refine q_get M (by exact rfl) ?_);refine⟨rfl,?_⟩;with_reducible rfl))|(refine c_pure (v:=?_) (fun w=>?_) ?_;rotate_left;focus(go_simp;try with_reducible rfl)));(try go_simp);with_reducible refine hK _ ?_;clear hK K));(refine wpQuiet_nil ?_);clear M;intro w M)
      go_wp2_with (with_reducible (first|refine wq M ?_|(refine wS M ?_;clear M;intro w M)|(refine wV M ?_;clear M;intro z w M)|(refine wR M ?_;clear M;intro q w M)))
      (refine wp_region_any (by kernel_rfl) ?_;(try(change wpAny _ _ _ _ _ _ _ (World.drew _)));replace M:=M.drew;generalize World.drew _=w at M ⊢;have S:=St.o;((refine tk 0 (v:=?_) rfl (by kernel_rfl) rfl ?_ ?_;rotate_left;focus(intro w;go_simp;try with_reducible rfl));(try go_simp);(refine tk 1 (v:=?_) rfl (by kernel_rfl) rfl ?_ ?_;rotate_left;focus(intro w;go_simp;try with_reducible rfl));(try go_simp);(refine tk 2 (v:=?_) rfl (by kernel_rfl) rfl ?_ ?_;rotate_left;focus(intro w;go_simp;try with_reducible rfl));(try go_simp);(refine tk 3 (v:=?_) rfl (by kernel_rfl) rfl ?_ ?_;rotate_left;focus(intro w;go_simp;try with_reducible rfl));(try go_simp);(refine tk 5 (v:=?_) rfl (by kernel_rfl) rfl ?_ ?_;rotate_left;focus(intro w;go_simp;try with_reducible rfl));(try go_simp);replace S:=S.add 47;refine rd2 4 6 (by kernel_rfl) rfl rfl ?_ rfl rfl ?_<;>intro K hK);all_goals(first|(refine o_dst (some 119) ?_;(refine q_get M (by exact rfl) ?_);(all_goals(refine hK _ _ ?_;clear hK K;replace S:=S.add 16)))|(refine o_dst (some 121) ?_;(refine q_get M (by exact rfl) ?_);(all_goals(refine hK _ _ ?_;clear hK K;replace S:=S.add 64))));all_goals(first|(replace S:St 63:=S;refine rd1 6 (by kernel_rfl) rfl rfl ?_<;>intro K hK)|(replace S:St 111:=S;refine rd2 4 7 (by kernel_rfl) rfl rfl ?_ rfl rfl ?_<;>intro K hK));all_goals(first|(refine o_dst (some 121) ?_;(refine q_get M (by exact rfl) ?_);(all_goals(refine hK _ _ ?_;clear hK K;replace S:=S.add 64)))|(refine o_dst (some 119) ?_;(refine q_get M (by exact rfl) ?_);(all_goals(refine hK _ _ ?_;clear hK K;replace S:=S.add 16)))|(refine o_dst (some 122) ?_;(refine q_row1 M ?_;clear M;intro q w M);(all_goals(refine hK _ _ ?_;clear hK K;replace S:=S.add 128))));all_goals(first|(replace S:St 127:=S;refine rd1 7 (by kernel_rfl) rfl rfl ?_<;>intro K hK)|(replace S:St 239:=S;refine rd1 4 (by kernel_rfl) rfl rfl ?_<;>intro K hK));all_goals(first|(refine o_dst (some 122) ?_;(refine q_row1 M ?_;clear M;intro q w M);(all_goals(refine hK _ _ ?_;clear hK K;replace S:=S.add 128)))|(refine o_dst (some 119) ?_;(refine q_get M (by exact rfl) ?_);(all_goals(refine hK _ _ ?_;clear hK K;replace S:=S.add 16))));all_goals(refine rd1 8 (by kernel_rfl) rfl rfl ?_<;>intro K hK);all_goals(refine o_dst (some 123) ?_;(refine q_app (R:=wordF) wordF_firm M 3 rfl W.var rfl (by rfl) (by rfl) hlen.out ?_;clear M;intro ra2 rc2 w M;(try simp only[List.set_cons_zero,List.set_cons_succ]at M));(all_goals(refine hK _ _ ?_;clear hK K;replace S:=S.add 256)));all_goals((refine tk 9 (v:=?_) rfl (by kernel_rfl) rfl ?_ ?_;rotate_left;focus(intro w;go_simp;try with_reducible rfl));(try go_simp);(refine tk 10 (v:=?_) rfl (by kernel_rfl) rfl ?_ ?_;rotate_left;focus(intro w;go_simp;try with_reducible rfl));(try go_simp);replace S:=S.add 1536;refine rd1 11 (by kernel_rfl) rfl rfl ?_<;>intro K hK);all_goals(refine o_dst none ?_;((refine q_set M (by rfl) (by rfl) ?_);clear M;intro w M;simp only[List.set_cons_zero,List.set_cons_succ]at M);(all_goals(refine hK _ _ ?_;clear hK K;replace S:=S.add 2048)));all_goals(clear S;(refine wpAny_done (by kernel_rfl) ?_ _)))
      all_goals
       go_wp2_with (with_reducible (first|refine wq M ?_|(refine wS M ?_;clear M;intro w M)|(refine wV M ?_;clear M;intro z w M)|(refine wR M ?_;clear M;intro q w M)))
       go_roundg (n3 - (j+1))
       case measure=>omega
       case rel=>exact⟨j+1,_,_,_,by omega,HNN.out,by rw[List.length_append,HNL.out];rfl,by go_num,by(have M2:=M.drop.drop.drop);(rw[List.length_append];exact M2),HM4⟩
     |false=>
      have hsb:(nm.toList==W.type.toList)=false:=hsm
      have hsn:(nm.toList !=W.type.toList)=true:=by simp only[bne,hsb];rfl
      have HV:=Lib.hid (HM3.out (by rw[HMS.out,if_neg (by rw[hsm];simp)]))
      clear HMS HM2 HM3 hsm
      ((refine wp_region_calm M (by kernel_rfl) (by kernel_rfl) ?_);(repeat((with_reducible refine c_list rfl fun K hK=>?_);(first|(refine c_load (l' :=?_) ⟨_,M⟩ (fun w M=>?_) ?_;rotate_left;focus((first|(refine q_cellat (HA0.out _ M.new) ?_)|(refine q_cellat (HTN.out _ M.new) ?_)|refine q_get M (by exact rfl) ?_);refine⟨rfl,?_⟩;with_reducible rfl))|(refine c_pure (v:=?_) (fun w=>?_) ?_;rotate_left;focus(go_simp;try with_reducible rfl)));(try go_simp);with_reducible refine hK _ ?_;clear hK K));(refine wpQuiet_nil ?_);clear M;intro w M)
      go_wp2_with (with_reducible (first|refine wq M ?_|(refine wS M ?_;clear M;intro w M)|(refine wV M ?_;clear M;intro z w M)|(refine wR M ?_;clear M;intro q w M)))
      go_ret2
      rw[HV.out]
      exact⟨rfl,HL.out _ M.new⟩
    ·have hjn:j=known.length:=by have:=HNK.out;omega
     have hmz:AllZ (misE b.types R.whens known) known.length:=by rw[←hjn];exact HM.out
     have HV:=Lib.hid (HME.out hmz)
     have htl:x.e.type.toNat<b.types.length:=by have:=HGX.out.lo;have:=HGX.out.hi;omega
     obtain⟨ct,ot,rowt,hixt, -,hrrt,hwt⟩:=SlF.rowAt (P:=Tryz.prog) HX1.out typF_firm Tryz.underlying22 size_typ (i:=x.e.type.toNat) htl
     rw[show((x.e.type.toNat:Nat):Int)=x.e.type from Int.toNat_of_nonneg HGX.out.lo]at hixt
     obtain⟨p4,q4,s4,e4t, -⟩:=hrrt
     subst e4t
     have hte:b.types[x.e.type.toNat]=evT b.types x:=by unfold evT;simp[List.getD,List.getElem?_eq_getElem htl]
     have HTN:Hid (∀ wx,Below w6.heap.size w6 wx→wx.cell? ⟨ct,ot,none⟩=some (.string (evT b.types x).name)):=fun wx hb=>by have h:=(hwt wx (HL.out _ hb)).1 0 _ rfl;rw[hte]at h;exact h
     have hhg:=HG.out known rfl HGX.out HGK.out HFE.out hmz
     have hnv:names=vars (R.whens.take known.length):=by rw[←hjn];exact HNM.out
     clear hwt hte htl
     cases hsm:sameS (evT b.types x).name P.type with
     |false=>
      have hsb:((evT b.types x).name.toList==P.type.toList)=false:=hsm
      rw[hsm]at HV
      generalize (evT b.types x).name=nm at HTN hsb
      clear hhg hmz hnv hsm HM HGX HGK
      go_wp2_with (with_reducible (first|refine wq M ?_|(refine wS M ?_;clear M;intro w M)|(refine wV M ?_;clear M;intro z w M)|(refine wR M ?_;clear M;intro q w M)))
      ((refine wp_region_calm M (by kernel_rfl) (by kernel_rfl) ?_);(repeat(first|((with_reducible refine c_list rfl fun K hK=>?_);(first|(refine c_load (l' :=?_) ⟨_,M⟩ (fun w M=>?_) ?_;rotate_left;focus((first|(refine q_cellat (HA0.out _ M.new) ?_)|(refine q_cellat (HXT.out _ M.new) ?_)|(refine q_cellat (HTN.out _ M.new) ?_)|(refine q_cellat (HPT.out _ M.new) ?_));refine⟨rfl,?_⟩;with_reducible rfl))|(refine c_pure (v:=?_) (fun w=>?_) ?_;rotate_left;focus(go_simp;try with_reducible rfl)));(try go_simp);with_reducible refine hK _ ?_;clear hK K)|(with_reducible refine c_skipT ?_)));(refine wpQuiet_nil ?_);clear M;intro w M)
      go_wp2_with (with_reducible (first|refine wq M ?_|(refine wS M ?_;clear M;intro w M)|(refine wV M ?_;clear M;intro z w M)|(refine wR M ?_;clear M;intro q w M)))
      go_ret2
      rw[HV.out]
      exact⟨rfl,HL.out _ M.new⟩
     |true=>
      have hsb:((evT b.types x).name.toList==P.type.toList)=true:=hsm
      have hgood:=hhg hsm
      rw[hsm,Bool.true_and]at HV
      have hzv:Own zv [.slice a1 n1 c1,.int .i64 x.e.number,.int .i64 x.e.type,.int .i64 x.e.start,.int .i64 x.e.stop,.slice px qx rx,.slice sa names.length sc,.slice a3 n3 c3] 127 wr:=M.own_ (by simp)
      obtain⟨sa2,sc2,e2x,M⟩:=M.done wordF_firm (by omega)
      injection e2x with e5 e6 e7
      subst e5 e7
      have hns:=M.dat_ (i:=0) rfl
      have hb0r:=HL.out _ M.new
      have hb6r:=Lib.hid M.new
      have V:View (fun _=>True) wr zv ⟨a1,n1,c1,px,qx,rx,sa,names.length,sc,a3,n3,c3⟩ b.types names known x:=
       ⟨hzv.lt,hzv.range,(HX1.out.below typF_firm hb0r).wide typF_firm (fun _ _ _=>trivial),(HXV.out.below (plainF_firm _) hb0r).wide (plainF_firm _) (fun _ _ _=>trivial),hns.wide wordF_firm (fun _ _ _=>trivial),(HX3.out.below eveF_firm hb0r).wide eveF_firm (fun _ _ _=>trivial),HTS.out,HXO.out,HKO.out⟩
      have HH:Hid (∀ wx,Below wr.heap.size wr wx→Calls Tryz.prog 74 #[.pointer (some ⟨zv,0,none⟩),.agg (cnd14 P.wher.kind p1 q1 s1 P.wher.left P.wher.right).toArray] wx fun e w' =>e= .returned (.bool (holdR b.types R.whens known x 8 P.wher))∧Below wx.heap.size wx w'):=fun wx hb=>
       holds_any V hnv HLW.out 8 P.wher p1 q1 s1 wx hb (HSP.out.below condF_firm (hb0r.trans (hb.mono hb0r.size))) HPF.out.con hgood
      have hgr:g<wr.heap.size:=Nat.lt_of_lt_of_le (HGG.out) hb6r.out.size
      have HA0r:Hid (∀ wx,Below wr.heap.size wr wx→wx.cell? ⟨za,0,none⟩=some (.slice a1 n1 c1)):=fun wx hb=>HA0.out wx (hb6r.out.trans (hb.mono hb6r.out.size))
      have HXTr:Hid (∀ wx,Below wr.heap.size wr wx→wx.cell? ⟨zx,1,none⟩=some (.int .i64 x.e.type)):=fun wx hb=>HXT.out wx (hb6r.out.trans (hb.mono hb6r.out.size))
      have HPTr:Hid (∀ wx,Below wr.heap.size wr wx→wx.cell? ⟨zp,1,none⟩=some (.string P.type)):=fun wx hb=>HPT.out wx (hb6r.out.trans (hb.mono hb6r.out.size))
      have HPCr:Hid (∀ wx,Below wr.heap.size wr wx→wx.rangeAt zp 2 [.int .i64 P.wher.kind,.slice p1 q1 s1,.int .i64 P.wher.left.kind,.int .i64 P.wher.left.vkind,.int .i64 P.wher.left.vint,.string P.wher.left.vtext,.string P.wher.left.var,.string P.wher.left.field,.int .i64 P.wher.right.kind,.int .i64 P.wher.right.vkind,.int .i64 P.wher.right.vint,.string P.wher.right.vtext,.string P.wher.right.var,.string P.wher.right.field]):=fun wx hb=>HPC.out wx (hb6r.out.trans (hb.mono hb6r.out.size))
      have HTNr:Hid (∀ wx,Below wr.heap.size wr wx→wx.cell? ⟨ct,ot,none⟩=some (.string (evT b.types x).name)):=fun wx hb=>HTN.out wx (hb6r.out.trans (hb.mono hb6r.out.size))
      have HB0R:=Lib.hid hb0r
      unfold cnd14 at HH
      generalize holdR b.types R.whens known x 8 P.wher=hh at HH HV
      generalize (evT b.types x).name=nm at HTNr hsb
      clear M hzv hns V hgood hhg hmz hnv hsm HM HGX HGK HTN HA0 HXT HPT HPC hb0r
      have M:=Mem.begin hgr ⟨0,0⟩
      go_wp2_with (with_reducible (first|refine wq M ?_|(refine wS M ?_;clear M;intro w M)|(refine wV M ?_;clear M;intro z w M)|(refine wR M ?_;clear M;intro q w M)))
      ((refine wp_region_calm M (by kernel_rfl) (by kernel_rfl) ?_);(repeat(first|((with_reducible refine c_list rfl fun K hK=>?_);(first|(refine c_load (l' :=?_) ⟨_,M⟩ (fun w M=>?_) ?_;rotate_left;focus((first|(refine q_cellat (HA0r.out _ M.new) ?_)|(refine q_cellat (HXTr.out _ M.new) ?_)|(refine q_cellat (HTNr.out _ M.new) ?_)|(refine q_cellat (HPTr.out _ M.new) ?_));refine⟨rfl,?_⟩;with_reducible rfl))|(refine c_pure (v:=?_) (fun w=>?_) ?_;rotate_left;focus(go_simp;try with_reducible rfl)));(try go_simp);with_reducible refine hK _ ?_;clear hK K)|((with_reducible refine c_listg fun K hK=>?_);(first|(refine c_load (l' :=?_) ⟨_,M⟩ (fun w M=>?_) ?_;rotate_left;focus((refine q_at (HPCr.out _ M.new) (by rfl) ?_);refine⟨rfl,?_⟩;with_reducible rfl))|(refine c_call (n:=74) (args:=?_) (v:=?_) (fun w=>?_) (fun w M=>?_) ?_;rotate_left 2;(focus(go_simp;try with_reducible rfl));(focus(with_reducible refine(HH.out _ M.new).mono ?_;rintro e w5 ⟨rfl,hb5⟩;refine⟨?_,M.below hb5⟩;with_reducible rfl)))|(refine c_pure (v:=?_) (fun w=>?_) ?_;rotate_left;focus(go_simp;try with_reducible rfl)));(try go_simp);with_reducible refine hK _ ?_;clear hK K)));(refine wpQuiet_nil ?_);clear M;intro w M)
      all_goals
       go_wp2_with (with_reducible (first|refine wq M ?_|(refine wS M ?_;clear M;intro w M)|(refine wV M ?_;clear M;intro z w M)|(refine wR M ?_;clear M;intro q w M)))
       go_ret2
       rw[HV.out]
       exact⟨rfl,HB0R.out.trans (M.new.mono HB0R.out.size)⟩
theorem takes_any(hg:g<w0.heap.size)(E:Env F w0)(hF: ∀ b,F b→b<w0.heap.size)(b:Bok)(a1:Option Addr)(n1 c1:Nat)(a2:Option Addr)(n2 c2:Nat)(X1:SlF F w0 2 typF a1 n1 c1 b.types)(X2:SlF F w0 7 rulF a2 n2 c2 b.rules)(hts: ∀ t∈b.types,typOk t)(hrs: ∀ x∈b.rules,RulFit x)(hes: ∀ x∈b.rules,x.etype.size≤maxLen)(x:Eve)(px:Option Addr)(qx rx:Nat)(hxv:SlF F3 w0 3 (plainF valC) px qx rx x.vals)(hxo:eveOk x)(a3:Option Addr)(n3 c3:Nat)(known:List Eve)(X3:SlF F3 w0 5 eveF a3 n3 c3 known)(hko: ∀ y∈known,eveOk y)(hn3:n3*56≤140737488351232)(rule part k:Int):Calls Tryz.prog 37 #[.agg #[.slice a1 n1 c1,.slice a2 n2 c2],.int .i64 rule,.int .i64 part,.int .i64 k,.agg #[.int .i64 x.e.number,.int .i64 x.e.type,.int .i64 x.e.start,.int .i64 x.e.stop,.slice px qx rx],.slice a3 n3 c3] w0 fun e w' =>e= .returned (.tuple #[.bool (takesE b rule part k x known).1,.int .i64 (takesE b rule part k x known).2])∧Below w0.heap.size w0 w' :=by
 by_cases h0:bookE b=0
 ·by_cases hr:0≤rule∧rule<b.rules.length
  ·have hrl:rule.toNat<b.rules.length:=by omega
   by_cases hk:0≤k∧k<(partL b.rules[rule.toNat] part).length
   ·exact takes_main hg E hF b a1 n1 c1 a2 n2 c2 X1 X2 hts hrs hes x px qx rx hxv hxo a3 n3 c3 known X3 hko hn3 rule part k h0 hr (fun _=>hk)
   ·exact takes_nopat hg E hF b a1 n1 c1 a2 n2 c2 X1 X2 hts hrs hes x px qx rx hxv hxo a3 n3 c3 known X3 hko hn3 rule part k h0 hr (fun _=>hk)
  ·exact takes_norule hg E hF b a1 n1 c1 a2 n2 c2 X1 X2 hts hrs hes x px qx rx hxv hxo a3 n3 c3 known X3 hko hn3 rule part k h0 hr
 ·exact takes_book hg E hF b a1 n1 c1 a2 n2 c2 X1 X2 hts hrs hes x px qx rx hxv hxo a3 n3 c3 known X3 hko hn3 rule part k h0
end
end Go.Proofs.YtfahleafppfkaaaGreatDoor
