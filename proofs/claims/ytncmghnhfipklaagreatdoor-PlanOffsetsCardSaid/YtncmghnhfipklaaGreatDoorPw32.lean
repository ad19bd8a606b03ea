/-
  The walks of the reference's BookFault, the last part: books. Printed by chko.py.
-/
import Derived.Test.YtncmghnhfipklaaGreatDoorPw27
namespace Go.Proofs.YtncmghnhfipklaaGreatDoor
open Go.RowKit
set_option linter.unusedVariables false
set_option linter.unusedSimpArgs false
theorem book_small{b:Bok}(h: ¬ (6<b.types.length∨5<b.rules.length)):bookE b=if firstN (btypE b) b.types.length≠0 then firstN (btypE b) b.types.length
  else if firstN (brulE b) b.rules.length≠0 then firstN (brulE b) b.rules.length else if endB b=true then 15 else 0:=by
 unfold bookE;rw[if_neg h]
theorem book_type{b:Bok}(h: ¬ (6<b.types.length∨5<b.rules.length)){j:Nat}(hz:AllZ (btypE b) j)(hj:j<b.types.length){e:Int}(he:btypE b j=e)(hn:e≠0):bookE b=e:=by
 subst he
 rw[book_small h,firstN_at hz hj hn,if_pos hn]
theorem book_rule{b:Bok}(h: ¬ (6<b.types.length∨5<b.rules.length))(h1:AllZ (btypE b) b.types.length){j:Nat}(hz:AllZ (brulE b) j)(hj:j<b.rules.length){e:Int}(he:brulE b j=e)(hn:e≠0):bookE b=e:=by
 subst he
 rw[book_small h,firstN_zero h1,if_neg (by simp),firstN_at hz hj hn,if_pos hn]
theorem book_rest{b:Bok}(h: ¬ (6<b.types.length∨5<b.rules.length))(h1:AllZ (btypE b) b.types.length)(h2:AllZ (brulE b) b.rules.length):bookE b=if endB b=true then 15 else 0:=by
 rw[book_small h,firstN_zero h1,if_neg (by simp),firstN_zero h2,if_neg (by simp)]
def btypP(l:List Typ)(t:Typ)(j:Nat):Int:=
 if typE t.name t.fields≠0 then typE t.name t.fields
 else if keptB t.name=true∨t.fields.any (fun f=>keptB f.name)=true then 4
 else if typI l t.name<j then 7 else 0
theorem btypE_at{b:Bok}{j:Nat}(h:j<b.types.length):btypE b j=btypP (b.types.take j) b.types[j] j:=by
 unfold btypE btypP
 rw[List.getD_eq_getElem?_getD,List.getElem?_eq_getElem h]
 rfl
def brulP(ts:List Typ)(l:List Rul)(x:Rul):Int:=if ruleE ts x≠0 then ruleE ts x else if l.any (fun y=>sameS y.name x.name)=true then 7 else 0
theorem brulE_at{b:Bok}{j:Nat}(h:j<b.rules.length):brulE b j=brulP b.types (b.rules.take j) b.rules[j]:=by
 unfold brulE brulP
 rw[List.getD_eq_getElem?_getD,List.getElem?_eq_getElem h]
 rfl
theorem place_ge(i n:Nat):decide ((0:Int)≤placeV i n)=decide (i<n):=by
 unfold placeV
 by_cases h:i<n
 ·rw[if_pos h];simp[h]
 ·rw[if_neg h];simp[h]
theorem noB_any{α:Type}{l:List α}{p:α→Bool}(h:NoB l p l.length):l.any p=false:=List.any_eq_false.2 (fun q hq=>by
 obtain⟨i,hi,rfl⟩:=List.mem_iff_getElem.1 hq
 have e:=h i hi hi
 simpa using e)
section
variable {g:Nat} {F G:Nat→Prop} {w0:World}
set_option maxRecDepth 8000 in
set_option maxHeartbeats 16000000 in
theorem bookFault_size(hg:g<w0.heap.size)(b:Bok)(a1:Option Addr)(n1 c1:Nat)(a2:Option Addr)(n2 c2:Nat)(X1:SlF F w0 2 typF a1 n1 c1 b.types)(X2:SlF G w0 7 rulF a2 n2 c2 b.rules)(hts: ∀ t∈b.types,typOk t)(hrs: ∀ x∈b.rules,RulOk x)(h0:6<b.types.length∨5<b.rules.length):Calls Tryz.prog 13 #[.agg #[.slice a1 n1 c1,.slice a2 n2 c2]] w0 fun e w' =>e= .returned (.int .i64 (bookE b))∧Below w0.heap.size w0 w' :=by
 have HV:Hid (bookE b=1):=by show _=_;unfold bookE;rw[if_pos h0]
 have M:=Mem.begin hg ⟨0,0⟩
 have N1:=X1.len
 have N2:=X2.len
 by_cases c1:6<n1
 ·have d1:decide ((6:Int)<n1)=true:=by simp;omega
  clear h0 X1 X2 hts hrs hg N1 N2
  go_enter Tryz.func13,Tryz.ntmps13
  go_wp2_with (with_reducible (first|(refine wB (L:=[]) M ?_;clear M;intro za w1 M)|refine wq M ?_))
  go_ret
  rw[HV.out]
  exact⟨rfl,M.new⟩
 ·have d1:decide ((6:Int)<n1)=false:=by simp;omega
  have d2:decide ((5:Int)<n2)=true:=by simp;omega
  clear h0 X1 X2 hts hrs hg N1 N2
  go_enter Tryz.func13,Tryz.ntmps13
  go_wp2_with (with_reducible (first|(refine wB (L:=[]) M ?_;clear M;intro za w1 M)|refine wq M ?_))
  go_ret
  rw[HV.out]
  exact⟨rfl,M.new⟩
set_option maxRecDepth 8000 in
set_option maxHeartbeats 16000000 in
theorem bookFault_main(hg:g<w0.heap.size)(b:Bok)(a1:Option Addr)(n1 c1:Nat)(a2:Option Addr)(n2 c2:Nat)(X1:SlF F w0 2 typF a1 n1 c1 b.types)(X2:SlF G w0 7 rulF a2 n2 c2 b.rules)(hts: ∀ t∈b.types,typOk t)(hrs: ∀ x∈b.rules,RulOk x)(h0: ¬ (6<b.types.length∨5<b.rules.length)):Calls Tryz.prog 13 #[.agg #[.slice a1 n1 c1,.slice a2 n2 c2]] w0 fun e w' =>e= .returned (.int .i64 (bookE b))∧Below w0.heap.size w0 w' :=by
 have M:=Mem.begin hg ⟨0,0⟩
 have N1:=Lib.hid X1.len
 have N2:=Lib.hid X2.len
 have hle1:=X1.le
 have hle2:=X2.le
 have d1:decide ((6:Int)<n1)=false:=by have:=N1.out;simp;omega
 have d2:decide ((5:Int)<n2)=false:=by have:=N2.out;simp;omega
 have hn2:n2≤1000000:=by have:=N2.out;omega
 have h0:=Lib.hid h0
 have X1:=Lib.hid X1
 have X2:=Lib.hid X2
 have hgg:=Lib.hid hg
 clear hg
 go_enter Tryz.func13,Tryz.ntmps13
 go_wp2_with (with_reducible (first|(refine wB (L:=[]) M ?_;clear M;intro za w1 M)|refine wq M ?_))
 go_loopg [3] n1 (fun f i wr=> ∃ (j:Nat),j+f=n1∧i= .int .i64 j∧Mem (StaysB g w0) g w0 wr ⟨0,0⟩ (own za [.slice a1 n1 c1,.slice a2 n2 c2] 25::[])∧Hid (AllZ (btypE b) j))
 case atStart=>exact⟨0,by omega,rfl,M,allZ_zero _⟩
 case round=>
  clear M
  obtain⟨j,hj,rfl,M,HZ⟩:=hrel
  by_cases hlt:j<n1
  ·have hkl:j<b.types.length:=by have:=N1.out;omega
   have HE:Hid (∀ e,btypP (b.types.take j) b.types[j] j=e→e≠0→bookE b=e):=fun e he hn=>book_type h0.out HZ.out hkl (by rw[btypE_at hkl];exact he) hn
   have HZ2:Hid (btypP (b.types.take j) b.types[j] j=0→AllZ (btypE b) (j+1)):=fun h=>allZ_succ HZ.out (by rw[btypE_at hkl];exact h)
   obtain⟨ct,ot,rowt,hixt, -,hrrt,hwt⟩:=SlF.rowAt (P:=Tryz.prog) X1.out typF_firm Tryz.underlying22 size_typ (i:=j) hkl
   obtain⟨p1,q1,s1,et,ut⟩:=hrrt
   subst et
   have HR:=Lib.hid (fun wx hb=>(hwt wx hb).1)
   have hto:=hts _ (List.getElem_mem hkl)
   have hjc:j≤c1:=by omega
   have HTN:Hid (∀ wx,Below w0.heap.size w0 wx→Calls Tryz.prog 29 #[.slice a1 j c1,.string b.types[j].name] wx fun e w' =>e= .returned (.int .i64 (placeV (typI (b.types.take j) b.types[j].name) j))∧Below wx.heap.size wx w'):=fun wx hb=>by
    have h:=typeNamed_any (Nat.lt_of_lt_of_le hgg.out hb.size) ((X1.out.take j c1 (by omega) (by omega) (Nat.le_refl _)).below typF_firm hb) b.types[j].name
    have e:(b.types.take j).length=j:=by rw[List.length_take];omega
    rw[e]at h
    exact h
   have hge:=place_ge (typI (b.types.take j) b.types[j].name) j
   generalize b.types[j]=t at HE HZ2 HR hto HTN hge ut
   unfold btypP at HE HZ2
   generalize placeV (typI (b.types.take j) t.name) j=pv at HTN hge
   generalize typI (b.types.take j) t.name=ti at hge HE HZ2
   have HTF:Hid (∀ wx,Below w0.heap.size w0 wx→Calls Tryz.prog 27 #[.agg #[.string t.name,.slice p1 q1 s1]] wx fun e w' =>e= .returned (.int .i64 (typE t.name t.fields))∧Below wx.heap.size wx w'):=fun wx hb=>
    typeFault_any t.name p1 q1 s1 t.fields wx hto.1 (fld_R (ut.below (plainF_firm _) hb) hto.2)
   have HKW:Hid (∀ s wx,Calls Tryz.prog 28 #[.string s] wx fun e w' =>e= .returned (.bool (keptB s))∧Below wx.heap.size wx w'):=fun s wx=>by rw[kept_same];exact keptWord_any s wx
   have UT:=Lib.hid ut
   have NT:=Lib.hid ut.len
   have hleT:=ut.le
   clear hwt hto ut
   unfold typC at HR
   by_cases hte:typE t.name t.fields=0
   ·rw[hte]at HTF
    have HE2:=Lib.hid (fun e he=>HE.out e (by rw[if_neg (by rw[hte];simp)];exact he))
    have HZ3:=Lib.hid (fun he=>HZ2.out (by rw[if_neg (by rw[hte];simp)];exact he))
    clear HE HZ2 hte
    cases hkn:keptB t.name with
    |true=>
     have HV:Hid (bookE b=4):=HE2.out 4 (by rw[if_pos (Or.inl hkn)]) (by decide)
     have HKN:Hid (∀ wx,Calls Tryz.prog 28 #[.string t.name] wx fun e w' =>e= .returned (.bool true)∧Below wx.heap.size wx w'):=fun wx=>by have h:=HKW.out t.name wx;rw[hkn]at h;exact h
     clear HE2 HZ3 hkn HTN hge HKW hts hrs
     go_wp2_with (first|(with_reducible (first|refine wq M ?_|(refine wS M ?_;clear M;intro w M)|(refine wV M ?_;clear M;intro z w M)|refine wA (HR.out _ M.new) ?_))|(go_at_call 27;with_reducible refine(HTF.out _ M.new).mono ?_;rintro e w5 ⟨rfl,hb5⟩;replace M:=M.below hb5;clear hb5)|(go_at_call 28;with_reducible refine(HKN.out _).mono ?_;rintro e w5 ⟨rfl,hb5⟩;replace M:=M.below hb5;clear hb5))
     go_ret
     rw[HV.out]
     exact⟨rfl,M.new⟩
    |false=>
     have HKN:Hid (∀ wx,Calls Tryz.prog 28 #[.string t.name] wx fun e w' =>e= .returned (.bool false)∧Below wx.heap.size wx w'):=fun wx=>by have h:=HKW.out t.name wx;rw[hkn]at h;exact h
     go_wp2_with (first|(with_reducible (first|refine wq M ?_|(refine wS M ?_;clear M;intro w M)|(refine wV M ?_;clear M;intro z w M)|refine wA (HR.out _ M.new) ?_))|(go_at_call 27;with_reducible refine(HTF.out _ M.new).mono ?_;rintro e w5 ⟨rfl,hb5⟩;replace M:=M.below hb5;clear hb5)|(go_at_call 28;with_reducible refine(HKN.out _).mono ?_;rintro e w5 ⟨rfl,hb5⟩;replace M:=M.below hb5;clear hb5))
     go_loopg [6] q1 (fun f i wr=> ∃ (m:Nat),m+f=q1∧i= .int .i64 m∧Mem (StaysB g w0) g w0 wr ⟨0,0⟩ (own z [.string t.name,.slice p1 q1 s1] 51::own za [.slice a1 n1 c1,.slice a2 n2 c2] 25::[])∧Hid (NoB t.fields (fun f=>keptB f.name) m))
     case atStart=>exact⟨0,by omega,rfl,M,noB_zero _ _⟩
     case round=>
      clear M
      obtain⟨m,hm,rfl,M,HB⟩:=hrel
      by_cases hltm:m<q1
      ·have hkm:m<t.fields.length:=by have:=NT.out;omega
       obtain⟨cf,of,rowf,hixf, -,hrrf,hwf⟩:=SlF.rowAt (P:=Tryz.prog) UT.out (plainF_firm _) Tryz.underlying49 size_fld (i:=m) hkm
       have e2:rowf=fldC t.fields[m]:=hrrf
       subst e2
       have HF0:Hid (∀ wx,Below w0.heap.size w0 wx→wx.cell? ⟨cf,of,none⟩=some (.string t.fields[m].name)):=fun wx hb=>(hwf wx hb).1 0 _ rfl
       cases hkf:keptB t.fields[m].name with
       |true=>
        have HV:Hid (bookE b=4):=HE2.out 4 (by rw[if_pos (Or.inr (List.any_eq_true.2 ⟨_,List.getElem_mem hkm,hkf⟩))]) (by decide)
        have HKF:Hid (∀ wx,Calls Tryz.prog 28 #[.string t.fields[m].name] wx fun e w' =>e= .returned (.bool true)∧Below wx.heap.size wx w'):=fun wx=>by have h:=HKW.out t.fields[m].name wx;rw[hkf]at h;exact h
        clear hwf hrrf
        generalize t.fields[m].name=fnm at HF0 HKF hkf
        clear HE2 HZ3 hkn HTN hge HKW hts hrs HB hkf hkm
        go_wp2_with (first|(with_reducible (first|refine wq M ?_|refine wC (HF0.out _ M.new) ?_))|(go_at_call 28;with_reducible refine(HKF.out _).mono ?_;rintro e w5 ⟨rfl,hb5⟩;replace M:=M.below hb5;clear hb5))
        go_ret
        rw[HV.out]
        exact⟨rfl,M.new⟩
       |false=>
        have HB2:=Lib.hid (noB_succ HB.out hkm hkf)
        have HKF:Hid (∀ wx,Calls Tryz.prog 28 #[.string t.fields[m].name] wx fun e w' =>e= .returned (.bool false)∧Below wx.heap.size wx w'):=fun wx=>by have h:=HKW.out t.fields[m].name wx;rw[hkf]at h;exact h
        clear hwf hrrf
        generalize t.fields[m].name=fnm at HF0 HKF hkf
        clear HE2 HZ3 hkn HTN hge HKW hts hrs HB hkf hkm
        go_wp2_with (first|(with_reducible (first|refine wq M ?_|refine wC (HF0.out _ M.new) ?_))|(go_at_call 28;with_reducible refine(HKF.out _).mono ?_;rintro e w5 ⟨rfl,hb5⟩;replace M:=M.below hb5;clear hb5))
        go_roundg (q1 - (m+1))
        case measure=>omega
        case rel=>exact⟨m+1,by omega,by go_num,M,HB2⟩
      ·have hany:t.fields.any (fun f=>keptB f.name)=false:=noB_any (by have e:m=t.fields.length:=(by have:=NT.out;omega);rw[←e];exact HB.out)
       have HE3:=Lib.hid (fun e he=>HE2.out e (by rw[if_neg (by rw[hkn,hany];simp)];exact he))
       have HZ4:=Lib.hid (fun he=>HZ3.out (by rw[if_neg (by rw[hkn,hany];simp)];exact he))
       clear HE2 HZ3 HB hany
       by_cases htj:ti<j
       ·have HV:Hid (bookE b=7):=HE3.out 7 (by rw[if_pos htj]) (by decide)
        have hgd:decide ((0:Int)≤pv)=true:=by rw[hge];simpa using htj
        clear HE3 HZ4 hkn hge HKW hts hrs htj
        go_wp2_with (with_reducible refine wq M ?_)
        ((refine wp_region_still_tail 6 (by kernel_rfl) (by kernel_rfl) ?_);(simp only[List.take_succ_cons,List.take_zero,List.drop_succ_cons,List.drop_zero]);(change wpStill _ _ (World.drew _) (fun a' =>wpList _ _ _ _ a' (World.drew _)) _ _);replace M:=M.drew;generalize World.drew _=wd at M ⊢;(repeat(first|((with_reducible refine s_list rfl fun K hK=>?_);refine s_load ?_;(refine q_get M (by exact rfl) ?_);refine⟨rfl,hK _ ?_⟩;clear hK K)|((with_reducible refine s_list rfl fun K hK=>?_);refine s_pure ?_;go_simp;refine hK _ ?_;clear hK K)));(refine wpStill_nil ?_))
        go_wp2_with (go_at_call 29;with_reducible refine(HTN.out _ M.new).mono ?_;rintro e w5 ⟨rfl,hb5⟩;replace M:=M.below hb5;clear hb5)
        all_goals go_ret
        all_goals(rw[HV.out];exact⟨rfl,M.new⟩)
       ·have HZ5:=Lib.hid (HZ4.out (by rw[if_neg htj]))
        have hgd:decide ((0:Int)≤pv)=false:=by rw[hge];simpa using htj
        clear HE3 HZ4 hkn hge HKW hts hrs htj
        go_wp2_with (with_reducible refine wq M ?_)
        ((refine wp_region_still_tail 6 (by kernel_rfl) (by kernel_rfl) ?_);(simp only[List.take_succ_cons,List.take_zero,List.drop_succ_cons,List.drop_zero]);(change wpStill _ _ (World.drew _) (fun a' =>wpList _ _ _ _ a' (World.drew _)) _ _);replace M:=M.drew;generalize World.drew _=wd at M ⊢;(repeat(first|((with_reducible refine s_list rfl fun K hK=>?_);refine s_load ?_;(refine q_get M (by exact rfl) ?_);refine⟨rfl,hK _ ?_⟩;clear hK K)|((with_reducible refine s_list rfl fun K hK=>?_);refine s_pure ?_;go_simp;refine hK _ ?_;clear hK K)));(refine wpStill_nil ?_))
        go_wp2_with (go_at_call 29;with_reducible refine(HTN.out _ M.new).mono ?_;rintro e w5 ⟨rfl,hb5⟩;replace M:=M.below hb5;clear hb5)
        all_goals
         go_roundg (n1 - (j+1))
         case measure=>omega
         case rel=>exact⟨j+1,by omega,by go_num,M.drop,HZ5⟩
   ·have HV:Hid (bookE b=typE t.name t.fields):=HE.out _ (by rw[if_pos hte]) hte
    have hqb:(typE t.name t.fields !=0)=true:=by simpa using hte
    generalize typE t.name t.fields=te at HTF HV hqb
    clear HE HZ2 hte HTN hge HKW hts hrs
    go_wp2_with (first|(with_reducible (first|refine wq M ?_|(refine wS M ?_;clear M;intro w M)|(refine wV M ?_;clear M;intro z w M)|refine wA (HR.out _ M.new) ?_))|(go_at_call 27;with_reducible refine(HTF.out _ M.new).mono ?_;rintro e w5 ⟨rfl,hb5⟩;replace M:=M.below hb5;clear hb5))
    go_ret
    rw[HV.out]
    exact⟨rfl,M.new⟩
  ·have HT1:Hid (AllZ (btypE b) b.types.length):=by have e:j=b.types.length:=(by have:=N1.out;omega);rw[←e];exact HZ.out
   clear HZ
   go_wp2_with (with_reducible refine wq M ?_)
   go_loopg [7] n2 (fun f i wr=> ∃ (j:Nat),j+f=n2∧i= .int .i64 j∧Mem (StaysB g w0) g w0 wr ⟨0,0⟩ (own za [.slice a1 n1 c1,.slice a2 n2 c2] 25::[])∧Hid (AllZ (brulE b) j))
   case atStart=>exact⟨0,by omega,rfl,M,allZ_zero _⟩
   case round=>
    clear M
    obtain⟨j,hj,rfl,M,HZ⟩:=hrel
    by_cases hlt:j<n2
    ·have hkl:j<b.rules.length:=by have:=N2.out;omega
     have HE:Hid (∀ e,brulP b.types (b.rules.take j) b.rules[j]=e→e≠0→bookE b=e):=fun e he hn=>book_rule h0.out HT1.out HZ.out hkl (by rw[brulE_at hkl];exact he) hn
     have HZ2:Hid (brulP b.types (b.rules.take j) b.rules[j]=0→AllZ (brulE b) (j+1)):=fun h=>allZ_succ HZ.out (by rw[brulE_at hkl];exact h)
     obtain⟨cr,or,rowr,hixr, -,hrrr,hwr⟩:=SlF.rowAt (P:=Tryz.prog) X2.out rulF_firm Tryz.underlying23 size_rul (i:=j) hkl
     have hro:=hrs _ (List.getElem_mem hkl)
     have HRF:Hid (∀ wx,Below w0.heap.size w0 wx→Calls Tryz.prog 30 #[.slice a1 n1 c1,.agg rowr.toArray] wx fun e w' =>e= .returned (.int .i64 (ruleE b.types b.rules[j]))∧Below wx.heap.size wx w'):=fun wx hb=>
      ruleFault_any (Nat.lt_of_lt_of_le hgg.out hb.size) (X1.out.below typF_firm hb) hts b.rules[j] rowr (rulF_firm _ _ _ _ _ _ (Same.below hb) hrrr) hro
     obtain⟨b1,m1,e1,b2,m2,e2,b3,m3,e3,b4,m4,e4,b6,m6,e6,rfl, -⟩:=hrrr
     have HR:=Lib.hid (fun wx hb=>(hwr wx hb).1)
     have HX0:Hid (∀ wx,Below w0.heap.size w0 wx→wx.cell? ⟨cr,or,none⟩=some (.string b.rules[j].name)):=fun wx hb=>(hwr wx hb).1 0 _ rfl
     have HTK:Hid (∀ k (hk:k<j),k<b.rules.length∧(b.rules.take j).length=j):=fun k hk=>⟨by omega,by rw[List.length_take];omega⟩
     clear hwr hro HZ
     generalize b.rules[j]=x at HE HZ2 HRF HR HX0
     unfold brulP at HE HZ2
     unfold rulC at HR HRF
     by_cases hq:ruleE b.types x=0
     ·rw[hq]at HRF
      have HE2:=Lib.hid (fun e he=>HE.out e (by rw[if_neg (by rw[hq];simp)];exact he))
      have HZ3:=Lib.hid (fun he=>HZ2.out (by rw[if_neg (by rw[hq];simp)];exact he))
      have hrs:=Lib.hid hrs
      have hts:=Lib.hid hts
      clear HE HZ2 hq
      go_upto_region 22 with(with_reducible refine wq M ?_)
      go_cut [8] (fun v wx=>v= .int .i64 0∧Mem (StaysB g w0) g w0 wx ⟨0,0⟩ (own za [.slice a1 n1 c1,.slice a2 n2 c2] 25::[]))
      case first=>
       ((refine wp_region_still_tail 7 (by kernel_rfl) (by kernel_rfl) ?_);(simp only[List.take_succ_cons,List.take_zero,List.drop_succ_cons,List.drop_zero]);(change wpStill _ _ (World.drew _) (fun a' =>wpList _ _ _ _ a' (World.drew _)) _ _);replace M:=M.drew;generalize World.drew _=wd at M ⊢;(repeat(first|((with_reducible refine s_list rfl fun K hK=>?_);refine s_load ?_;(first|(refine q_at (HR.out _ M.new) (by rfl) ?_)|refine q_get M (by exact rfl) ?_);refine⟨rfl,hK _ ?_⟩;clear hK K)|((with_reducible refine s_list rfl fun K hK=>?_);refine s_pure ?_;go_simp;refine hK _ ?_;clear hK K)));(refine wpStill_nil ?_))
       go_wp2_with (go_at_call 30;with_reducible refine(HRF.out _ M.new).mono ?_;rintro e w5 ⟨rfl,hb5⟩;replace M:=M.below hb5;clear hb5)
       all_goals
        go_meet
        case rel=>exact⟨rfl,M⟩
      case rest=>
      clear M
      obtain⟨rfl,M⟩:=hcut
      go_wp2_with (with_reducible (first|refine wq M ?_|(refine wS M ?_;clear M;intro w M)|(refine wV M ?_;clear M;intro z w M)|(refine wR M ?_;clear M;intro q w M)))
      go_loopg [9] j (fun f i wr=> ∃ (k:Nat),k+f=j∧i= .int .i64 k∧Mem (StaysB g w0) g w0 wr ⟨0,0⟩ (own za [.slice a1 n1 c1,.slice a2 n2 c2] 25::[])∧Hid (NoB (b.rules.take j) (fun y=>sameS y.name x.name) k))
      case atStart=>exact⟨0,by omega,rfl,M,noB_zero _ _⟩
      case round=>
       clear M
       obtain⟨k,hk,rfl,M,HB⟩:=hrel
       by_cases hltk:k<j
       ·have hkk:k<b.rules.length:=(HTK.out k hltk).1
        have hkt:k<(b.rules.take j).length:=by rw[(HTK.out k hltk).2];exact hltk
        have hgk:(b.rules.take j)[k]=b.rules[k]:=List.getElem_take
        obtain⟨cs,os,rows,hixs, -,hrrs,hws⟩:=SlF.rowAt (P:=Tryz.prog) X2.out rulF_firm Tryz.underlying23 size_rul (i:=k) hkk
        obtain⟨d1',d2',d3',d4',d5',d6',d7',d8',d9',d10',d11',d12',d13',d14',d15',rfl, -⟩:=hrrs
        have HY0:Hid (∀ wx,Below w0.heap.size w0 wx→wx.cell? ⟨cs,os,none⟩=some (.string b.rules[k].name)):=fun wx hb=>(hws wx hb).1 0 _ rfl
        have hkn2:(k:Int)<n2:=by omega
        clear hws
        cases hsm:sameS b.rules[k].name x.name with
        |true=>
         have hsb:(b.rules[k].name.toList==x.name.toList)=true:=hsm
         have HV:Hid (bookE b=7):=HE2.out 7 (by rw[if_pos (List.any_eq_true.2 ⟨(b.rules.take j)[k],List.getElem_mem hkt,by rw[hgk];exact hsm⟩)]) (by decide)
         generalize b.rules[k].name=ynm at HY0 hsb
         clear HE2 HZ3 HB hkt hgk hsm HTK HRF
         go_wp2_with (with_reducible (first|refine wq M ?_|(refine wS M ?_;clear M;intro w M)|(refine wV M ?_;clear M;intro z w M)|(refine wR M ?_;clear M;intro q w M)))
         ((refine wp_region_still_lit (by kernel_rfl) (by kernel_rfl) ?_);(change wpStill _ _ (World.drew _) _ _ _);replace M:=M.drew;(repeat(first|((with_reducible refine s_list rfl fun K hK=>?_);refine s_load ?_;(first|(refine q_cellat (HX0.out _ M.new) ?_)|(refine q_cellat (HY0.out _ M.new) ?_)|refine q_get M (by exact rfl) ?_);refine⟨rfl,hK _ ?_⟩;clear hK K)|((with_reducible refine s_list rfl fun K hK=>?_);refine s_pure ?_;go_simp;refine hK _ ?_;clear hK K)));(refine wpStill_nil ?_))
         go_wp2_with (with_reducible (first|refine wq M ?_|(refine wS M ?_;clear M;intro w M)|(refine wV M ?_;clear M;intro z w M)|(refine wR M ?_;clear M;intro q w M)))
         go_ret
         rw[HV.out]
         exact⟨rfl,M.new⟩
        |false=>
         have hsb:(b.rules[k].name.toList==x.name.toList)=false:=hsm
         have HB2:=Lib.hid (noB_succ HB.out hkt (by rw[hgk];exact hsm))
         generalize b.rules[k].name=ynm at HY0 hsb
         clear HE2 HZ3 HB hkt hgk hsm HTK HRF
         go_wp2_with (with_reducible (first|refine wq M ?_|(refine wS M ?_;clear M;intro w M)|(refine wV M ?_;clear M;intro z w M)|(refine wR M ?_;clear M;intro q w M)))
         ((refine wp_region_still_lit (by kernel_rfl) (by kernel_rfl) ?_);(change wpStill _ _ (World.drew _) _ _ _);replace M:=M.drew;(repeat(first|((with_reducible refine s_list rfl fun K hK=>?_);refine s_load ?_;(first|(refine q_cellat (HX0.out _ M.new) ?_)|(refine q_cellat (HY0.out _ M.new) ?_)|refine q_get M (by exact rfl) ?_);refine⟨rfl,hK _ ?_⟩;clear hK K)|((with_reducible refine s_list rfl fun K hK=>?_);refine s_pure ?_;go_simp;refine hK _ ?_;clear hK K)));(refine wpStill_nil ?_))
         go_wp2_with (with_reducible (first|refine wq M ?_|(refine wS M ?_;clear M;intro w M)|(refine wV M ?_;clear M;intro z w M)|(refine wR M ?_;clear M;intro q w M)))
         go_roundg (j - (k+1))
         case measure=>omega
         case rel=>exact⟨k+1,by omega,by go_num,M,HB2⟩
       ·have hany:(b.rules.take j).any (fun y=>sameS y.name x.name)=false:=noB_any (by have e:k=(b.rules.take j).length:=(by rw[List.length_take];omega);rw[←e];exact HB.out)
        have HZ5:=Lib.hid (HZ3.out (by rw[hany];rfl))
        clear HE2 HZ3 HB hany HTK HRF
        go_wp2_with (with_reducible (first|refine wq M ?_|(refine wS M ?_;clear M;intro w M)|(refine wV M ?_;clear M;intro z w M)|(refine wR M ?_;clear M;intro q w M)))
        go_roundg (n2 - (j+1))
        case measure=>omega
        case rel=>exact⟨j+1,by omega,by go_num,M,HZ5⟩
     ·have HV:Hid (bookE b=ruleE b.types x):=HE.out _ (by rw[if_pos hq]) hq
      have hqb:(ruleE b.types x !=0)=true:=by simpa using hq
      generalize ruleE b.types x=q at HRF HV hqb
      clear HE HZ2 hq hts hrs HTK
      go_wp2_with (with_reducible refine wq M ?_)
      ((refine wp_region_still_tail 7 (by kernel_rfl) (by kernel_rfl) ?_);(simp only[List.take_succ_cons,List.take_zero,List.drop_succ_cons,List.drop_zero]);(change wpStill _ _ (World.drew _) (fun a' =>wpList _ _ _ _ a' (World.drew _)) _ _);replace M:=M.drew;generalize World.drew _=wd at M ⊢;(repeat(first|((with_reducible refine s_list rfl fun K hK=>?_);refine s_load ?_;(first|(refine q_at (HR.out _ M.new) (by rfl) ?_)|refine q_get M (by exact rfl) ?_);refine⟨rfl,hK _ ?_⟩;clear hK K)|((with_reducible refine s_list rfl fun K hK=>?_);refine s_pure ?_;go_simp;refine hK _ ?_;clear hK K)));(refine wpStill_nil ?_))
      go_wp2_with (go_at_call 30;with_reducible refine(HRF.out _ M.new).mono ?_;rintro e w5 ⟨rfl,hb5⟩;replace M:=M.below hb5;clear hb5)
      all_goals go_ret
      all_goals(rw[HV.out];exact⟨rfl,M.new⟩)
    ·have HT2:Hid (AllZ (brulE b) b.rules.length):=by have e:j=b.rules.length:=(by have:=N2.out;omega);rw[←e];exact HZ.out
     have HV0:=Lib.hid (book_rest h0.out HT1.out HT2.out)
     clear HZ HT1 HT2 hts hrs
     go_wp2_with (with_reducible refine wq M ?_)
     go_loopg [10] n1 (fun f i wr=> ∃ (j:Nat),j+f=n1∧i= .int .i64 j∧Mem (StaysB g w0) g w0 wr ⟨0,0⟩ (own za [.slice a1 n1 c1,.slice a2 n2 c2] 25::[])∧Hid (NoB b.types (fun t=>comesB b.rules b.rules.length t.name t.name) j))
     case atStart=>exact⟨0,by omega,rfl,M,noB_zero _ _⟩
     case round=>
      clear M
      obtain⟨j,hj,rfl,M,HB⟩:=hrel
      by_cases hlt:j<n1
      ·have hkl:j<b.types.length:=by have:=N1.out;omega
       obtain⟨ct,ot,rowt,hixt, -,hrrt,hwt⟩:=SlF.rowAt (P:=Tryz.prog) X1.out typF_firm Tryz.underlying22 size_typ (i:=j) hkl
       obtain⟨p1,q1,s1,et,ut⟩:=hrrt
       subst et
       have HT0:Hid (∀ wx,Below w0.heap.size w0 wx→wx.cell? ⟨ct,ot,none⟩=some (.string b.types[j].name)):=fun wx hb=>(hwt wx hb).1 0 _ rfl
       have HCO:Hid (∀ wx,Below w0.heap.size w0 wx→Calls Tryz.prog 31 #[.agg #[.slice a1 n1 c1,.slice a2 n2 c2],.string b.types[j].name,.string b.types[j].name,.int .i64 n2] wx fun e w' =>e= .returned (.bool (comesB b.rules b.rules.length b.types[j].name b.types[j].name))∧Below wx.heap.size wx w'):=fun wx hb=>by
        have h:=comesOf_any b.types[j].name a1 n1 c1 a2 n2 c2 X2.out hgg.out n2 hn2 b.types[j].name wx hb
        have e:=N2.out
        rw[←e]
        exact h
       clear hwt ut
       cases hcm:comesB b.rules b.rules.length b.types[j].name b.types[j].name with
       |true=>
        have HV:Hid (bookE b=15):=by
         have e:endB b=true:=List.any_eq_true.2 ⟨_,List.getElem_mem hkl,hcm⟩
         show _=_
         rw[HV0.out,if_pos e]
        rw[hcm]at HCO
        generalize b.types[j].name=tn at HT0 HCO
        clear HB HV0 hcm hkl
        go_wp2_with (with_reducible refine wq M ?_)
        ((refine wp_region_still_tail 16 (by kernel_rfl) (by kernel_rfl) ?_);(simp only[List.take_succ_cons,List.take_zero,List.drop_succ_cons,List.drop_zero]);(change wpStill _ _ (World.drew _) (fun a' =>wpList _ _ _ _ a' (World.drew _)) _ _);replace M:=M.drew;generalize World.drew _=wd at M ⊢;(repeat(first|((with_reducible refine s_list rfl fun K hK=>?_);refine s_load ?_;(first|(refine q_cellat (HT0.out _ M.new) ?_)|refine q_all M (by rfl) ?_|refine q_get M (by exact rfl) ?_);refine⟨rfl,hK _ ?_⟩;clear hK K)|((with_reducible refine s_list rfl fun K hK=>?_);refine s_pure ?_;go_simp;refine hK _ ?_;clear hK K)));(refine wpStill_nil ?_))
        go_wp2_with (go_at_call 31;with_reducible refine(HCO.out _ M.new).mono ?_;rintro e w5 ⟨rfl,hb5⟩;replace M:=M.below hb5;clear hb5)
        go_ret
        rw[HV.out]
        exact⟨rfl,M.new⟩
       |false=>
        have HB2:=Lib.hid (noB_succ HB.out hkl hcm)
        rw[hcm]at HCO
        generalize b.types[j].name=tn at HT0 HCO
        clear HB HV0 hcm hkl
        go_wp2_with (with_reducible refine wq M ?_)
        ((refine wp_region_still_tail 16 (by kernel_rfl) (by kernel_rfl) ?_);(simp only[List.take_succ_cons,List.take_zero,List.drop_succ_cons,List.drop_zero]);(change wpStill _ _ (World.drew _) (fun a' =>wpList _ _ _ _ a' (World.drew _)) _ _);replace M:=M.drew;generalize World.drew _=wd at M ⊢;(repeat(first|((with_reducible refine s_list rfl fun K hK=>?_);refine s_load ?_;(first|(refine q_cellat (HT0.out _ M.new) ?_)|refine q_all M (by rfl) ?_|refine q_get M (by exact rfl) ?_);refine⟨rfl,hK _ ?_⟩;clear hK K)|((with_reducible refine s_list rfl fun K hK=>?_);refine s_pure ?_;go_simp;refine hK _ ?_;clear hK K)));(refine wpStill_nil ?_))
        go_wp2_with (go_at_call 31;with_reducible refine(HCO.out _ M.new).mono ?_;rintro e w5 ⟨rfl,hb5⟩;replace M:=M.below hb5;clear hb5)
        all_goals
         go_roundg (n1 - (j+1))
         case measure=>omega
         case rel=>exact⟨j+1,by omega,by go_num,M,HB2⟩
      ·have hend:endB b=false:=noB_any (by have e:j=b.types.length:=(by have:=N1.out;omega);rw[←e];exact HB.out)
       have HV:Hid (bookE b=0):=by show _=_;rw[HV0.out,hend];rfl
       clear HB HV0 hend
       go_wp2_with (with_reducible refine wq M ?_)
       go_ret
       rw[HV.out]
       exact⟨rfl,M.new⟩
theorem bookFault_any(hg:g<w0.heap.size)(b:Bok)(a1:Option Addr)(n1 c1:Nat)(a2:Option Addr)(n2 c2:Nat)(X1:SlF F w0 2 typF a1 n1 c1 b.types)(X2:SlF G w0 7 rulF a2 n2 c2 b.rules)(hts: ∀ t∈b.types,typOk t)(hrs: ∀ x∈b.rules,RulOk x):Calls Tryz.prog 13 #[.agg #[.slice a1 n1 c1,.slice a2 n2 c2]] w0 fun e w' =>e= .returned (.int .i64 (bookE b))∧Below w0.heap.size w0 w' :=by
 by_cases h0:6<b.types.length∨5<b.rules.length
 ·exact bookFault_size hg b a1 n1 c1 a2 n2 c2 X1 X2 hts hrs h0
 ·exact bookFault_main hg b a1 n1 c1 a2 n2 c2 X1 X2 hts hrs h0
end
end Go.Proofs.YtncmghnhfipklaaGreatDoor
