/-
  The walks of the program's Check, the last part: books. Printed by pgo.py.
-/
import Derived.Test.YtncmghnhfipklaaGreatDoorPw32
import Derived.Test.YtncmghnhfipklaaGreatDoorPw33
import Derived.Test.YtncmghnhfipklaaGreatDoorPw35
import Derived.Test.YtncmghnhfipklaaGreatDoorPw01
namespace Go.Proofs.YtncmghnhfipklaaGreatDoor
open Go.RowKit
set_option linter.unusedVariables false
set_option linter.unusedSimpArgs false
theorem btyp_good{b:Bok}(h:AllZ (btypE b) b.types.length): ∀ t∈b.types,typE t.name t.fields=0:=fun t ht=>by
  obtain⟨i,hi,rfl⟩:=List.mem_iff_getElem.1 ht
  have hz:=h i hi
  rw[btypE_at hi]at hz
  unfold btypP at hz
  apply Classical.byContradiction
  intro hn
  rw[if_pos hn]at hz
  exact hn hz
def okB(t:Typ)(m:Nat):Bool:=!keptB t.name&&!(t.fields.take m).any (fun f=>keptB f.name)
theorem okB_zero(t:Typ):okB t 0=!keptB t.name:=by unfold okB;simp
theorem okB_succ{t:Typ}{m:Nat}(h:m<t.fields.length):okB t (m+1)=(okB t m&&!keptB t.fields[m].name):=by
  unfold okB
  rw[List.take_add_one,List.getElem?_eq_getElem h,List.any_append]
  simp[Bool.and_assoc]
theorem okB_end(t:Typ)(m:Nat)(h:t.fields.length≤m):okB t m=(!keptB t.name&&!t.fields.any (fun f=>keptB f.name)):=by
  unfold okB
  rw[List.take_of_length_le h]
section
variable {g:Nat} {F:Nat→Prop} {w0:World}
set_option maxRecDepth 8000 in
set_option maxHeartbeats 16000000 in
theorem check_size(hg:g<w0.heap.size)(E:Env F w0)(hF: ∀ b,F b→b<w0.heap.size)(b:Bok)(a1:Option Addr)(n1 c1:Nat)(a2:Option Addr)(n2 c2:Nat)(X1:SlF F w0 2 typF a1 n1 c1 b.types)(X2:SlF F w0 7 rulF a2 n2 c2 b.rules)(hts: ∀ t∈b.types,typOk t)(hrs: ∀ x∈b.rules,RulFit x)(hes: ∀ x∈b.rules,x.etype.size≤maxLen)(h0:6<b.types.length∨5<b.rules.length):Calls Tryz.prog 11 #[.agg #[.slice a1 n1 c1,.slice a2 n2 c2]] w0 fun e w' =>e= .returned (.int .i64 (bookE b))∧Below w0.heap.size w0 w' :=by
  have HV:Hid (bookE b=1):=by show _=_;unfold bookE;rw[if_pos h0]
  have M:=Mem.begin hg ⟨0,0⟩
  have N1:=X1.len
  have N2:=X2.len
  by_cases c1:6<n1
  · have d1:decide ((6:Int)<n1)=true:=by simp;omega
    clear h0 X1 X2 hts hrs hg N1 N2 E hF hes
    go_enter Tryz.func11,Tryz.ntmps11
    go_wp2_with (with_reducible (first|(refine wB (L:=[]) M ?_;clear M;intro za w1 M)|refine wq M ?_))
    go_ret
    rw[HV.out]
    exact⟨rfl,M.new⟩
  · have d1:decide ((6:Int)<n1)=false:=by simp;omega
    have d2:decide ((5:Int)<n2)=true:=by simp;omega
    clear h0 X1 X2 hts hrs hg N1 N2 E hF hes
    go_enter Tryz.func11,Tryz.ntmps11
    go_wp2_with (with_reducible (first|(refine wB (L:=[]) M ?_;clear M;intro za w1 M)|refine wq M ?_))
    go_ret
    rw[HV.out]
    exact⟨rfl,M.new⟩
set_option maxRecDepth 8000 in
set_option maxHeartbeats 16000000 in
theorem check_main(hg:g<w0.heap.size)(E:Env F w0)(hF: ∀ b,F b→b<w0.heap.size)(b:Bok)(a1:Option Addr)(n1 c1:Nat)(a2:Option Addr)(n2 c2:Nat)(X1:SlF F w0 2 typF a1 n1 c1 b.types)(X2:SlF F w0 7 rulF a2 n2 c2 b.rules)(hts: ∀ t∈b.types,typOk t)(hrs: ∀ x∈b.rules,RulFit x)(hes: ∀ x∈b.rules,x.etype.size≤maxLen)(h0: ¬ (6<b.types.length∨5<b.rules.length)):Calls Tryz.prog 11 #[.agg #[.slice a1 n1 c1,.slice a2 n2 c2]] w0 fun e w' =>e= .returned (.int .i64 (bookE b))∧Below w0.heap.size w0 w' :=by
  have M:=Mem.begin hg ⟨0,0⟩
  have N1:=Lib.hid X1.len
  have N2:=Lib.hid X2.len
  have hle1:=X1.le
  have hle2:=X2.le
  have d1:decide ((6:Int)<n1)=false:=by have:=N1.out;simp;omega
  have d2:decide ((5:Int)<n2)=false:=by have:=N2.out;simp;omega
  have hn2:Hid (b.rules.length≤1000000):=by show _≤_;omega
  replace h0:=Lib.hid h0
  replace X1:=Lib.hid X1
  replace X2:=Lib.hid X2
  replace hts:=Lib.hid hts
  replace hrs:=Lib.hid hrs
  replace hes:=Lib.hid hes
  replace E:=Lib.hid E
  replace hF:=Lib.hid hF
  replace hg:=Lib.hid hg
  go_enter Tryz.func11,Tryz.ntmps11
  go_wp2_with (with_reducible (first|(refine wB (L:=[]) M ?_;clear M;intro za w1 M)|refine wq M ?_))
  go_loopg [29] n1 (fun f i wr=> ∃ (j:Nat),j+f=n1∧i= .int .i64 j∧Mem (StaysB g w0) g w0 wr ⟨0,0⟩ (own za [.slice a1 n1 c1,.slice a2 n2 c2] 25::[])∧Hid (AllZ (btypE b) j))
  case atStart=>exact⟨0,by omega,rfl,M,allZ_zero _⟩
  case round=>
    clear M
    obtain⟨j,hj,rfl,M,HZ⟩:=hrel
    by_cases hlt:j<n1
    · have hkl:j<b.types.length:=by have:=N1.out;omega
      have HE:Hid (∀ e,btypP (b.types.take j) b.types[j] j=e→e≠0→bookE b=e):=fun e he hn=>book_type h0.out HZ.out hkl (by rw[btypE_at hkl];exact he) hn
      have HZ2:Hid (btypP (b.types.take j) b.types[j] j=0→AllZ (btypE b) (j+1)):=fun h=>allZ_succ HZ.out (by rw[btypE_at hkl];exact h)
      obtain⟨ct,ot,rowt,hixt, -,hrrt,hwt⟩:=SlF.rowAt (P:=Tryz.prog) X1.out typF_firm Tryz.underlying22 size_typ (i:=j) hkl
      obtain⟨p1,q1,s1,et,ut⟩:=hrrt
      subst et
      have HR:=Lib.hid (fun wx hb=>(hwt wx hb).1)
      have hto:=hts.out _ (List.getElem_mem hkl)
      have hjc:j≤c1:=by omega
      have HXJ:Hid (SlF F w0 2 typF a1 j c1 (b.types.take j)):=X1.out.take j c1 (by omega) (by omega) (Nat.le_refl _)
      have HTL:Hid ((b.types.take j).length=j):=by show _=_;rw[List.length_take];omega
      generalize b.types[j]=t at HE HZ2 HR hto ut
      unfold btypP at HE HZ2
      have HTF:Hid (∀ wx,Below w0.heap.size w0 wx→Calls Tryz.prog 18 #[.agg #[.string t.name,.slice p1 q1 s1]] wx fun e w' =>e= .returned (.int .i64 (typE t.name t.fields))∧Below wx.heap.size wx w'):=fun wx hb=>
        checkType_any t.name p1 q1 s1 t.fields wx hto.1 (fld_R (ut.below (plainF_firm _) hb) hto.2)
      have HKW:Hid (∀ s wx,Below w0.heap.size w0 wx→Calls Tryz.prog 19 #[.string s] wx fun e w' =>e= .returned (.bool (keptB s))∧Below wx.heap.size wx w'):=fun s wx hb=>(kept_any F s wx (E.out.below hb).kept (E.out.below hb).rels).mono (by rintro e w' ⟨rfl,rfl⟩;exact⟨rfl,Below.refl _ _⟩)
      have UT:=Lib.hid ut
      have NT:=Lib.hid ut.len
      have hleT:=ut.le
      clear hwt hto ut HZ hkl
      unfold typC at HR
      by_cases hte:typE t.name t.fields=0
      · rw[hte]at HTF
        have HE2:=Lib.hid (fun e he=>HE.out e (by rw[if_neg (by rw[hte];simp)];exact he))
        have HZ3:=Lib.hid (fun he=>HZ2.out (by rw[if_neg (by rw[hte];simp)];exact he))
        clear HE HZ2 hte
        have HKN:=Lib.hid (HKW.out t.name)
        go_upto_region 10 with(first|(with_reducible (first|(refine wV M ?_;clear M;intro zt w M)|refine wq M ?_|(refine wS M ?_;clear M;intro w M)|refine wA (HR.out _ M.new) ?_))|(go_at_call 18;with_reducible refine(HTF.out _ M.new).mono ?_;rintro e w5 ⟨rfl,hb5⟩;replace M:=M.below hb5;clear hb5)|(go_at_call 19;with_reducible refine(HKN.out _ M.new).mono ?_;rintro e w5 ⟨rfl,hb5⟩;replace M:=M.below hb5;clear hb5))
        go_wp2_with (with_reducible refine wq M ?_)
        go_loopg [6,46] q1 (fun f v i wr=> ∃ (m:Nat),m+f=q1∧v= .bool (okB t m)∧i= .int .i64 m∧Mem (StaysB g w0) g w0 wr ⟨0,0⟩ (own zt [.string t.name,.slice p1 q1 s1] 51::own za [.slice a1 n1 c1,.slice a2 n2 c2] 25::[]))
        case atStart=>exact⟨0,by omega,by rw[okB_zero],rfl,M⟩
        case round=>
          clear M HKN
          obtain⟨m,hm,rfl,rfl,M⟩:=hrel
          by_cases hltm:m<q1
          · have hkm:m<t.fields.length:=by have:=NT.out;omega
            obtain⟨cf,of,rowf,hixf, -,hrrf,hwf⟩:=SlF.rowAt (P:=Tryz.prog) UT.out (plainF_firm _) Tryz.underlying49 size_fld (i:=m) hkm
            have e2:rowf=fldC t.fields[m]:=hrrf
            subst e2
            have HR2:Hid (∀ wx,Below w0.heap.size w0 wx→wx.rangeAt cf of [.string t.fields[m].name,.int .i64 t.fields[m].kind]):=fun wx hb=>(hwf wx hb).1
            have HKF:=Lib.hid (HKW.out t.fields[m].name)
            have HOS:=Lib.hid (okB_succ hkm)
            clear hwf hrrf
            generalize t.fields[m].name=fnm at HR2 HKF HOS
            generalize t.fields[m].kind=fkd at HR2
            generalize okB t m=o1 at HOS ⊢
            clear hkm
            cases o1 with
            |true=>
              generalize keptB fnm=kb at HKF HOS
              cases kb<;>
              (
               go_wp2_with (first|(with_reducible (first|(refine wV M ?_;clear M;intro zf w M)|refine wq M ?_|(refine wS M ?_;clear M;intro w M)|refine wA (HR2.out _ M.new) ?_))|(go_at_call 19;with_reducible refine(HKF.out _ M.new).mono ?_;rintro e w5 ⟨rfl,hb5⟩;replace M:=M.below hb5;clear hb5))
               go_roundg (q1 - (m+1))
               case measure=>omega
               case rel=>exact⟨m+1,by omega,by rw[HOS.out];rfl,by go_num,M.drop⟩)
            |false=>
              go_wp2_with (with_reducible (first|(refine wV M ?_;clear M;intro zf w M)|refine wq M ?_|(refine wS M ?_;clear M;intro w M)|refine wA (HR2.out _ M.new) ?_))
              go_roundg (q1 - (m+1))
              case measure=>omega
              case rel=>exact⟨m+1,by omega,by rw[HOS.out];rfl,by go_num,M.drop⟩
          · have hend:=okB_end t m (by have:=NT.out;omega)
            generalize okB t m=o1 at hend ⊢
            cases o1 with
            |false=>
              have hor:keptB t.name=true∨t.fields.any (fun f=>keptB f.name)=true:=by
                cases h1:keptB t.name<;>cases h2:t.fields.any (fun f=>keptB f.name)<;>simp[h1,h2]at hend ⊢
              have HV:Hid (bookE b=4):=HE2.out 4 (by rw[if_pos hor]) (by decide)
              clear HE2 HZ3 hend hor
              go_wp2_with (with_reducible (first|refine wq M ?_|(refine wS M ?_;clear M;intro w M)|(refine wV M ?_;clear M;intro z w M)|(refine wR M ?_;clear M;intro q w M)))
              go_ret
              rw[HV.out]
              exact⟨rfl,M.new⟩
            |true=>
              have hor: ¬ (keptB t.name=true∨t.fields.any (fun f=>keptB f.name)=true):=by
                cases h1:keptB t.name<;>cases h2:t.fields.any (fun f=>keptB f.name)<;>simp[h1,h2]at hend ⊢
              have HE3:=Lib.hid (fun e he=>HE2.out e (by rw[if_neg hor];exact he))
              have HZ4:=Lib.hid (fun he=>HZ3.out (by rw[if_neg hor];exact he))
              clear HE2 HZ3 hend hor
              go_wp2_with (with_reducible refine wq M ?_)
              go_loopg [65] j (fun f i wr=> ∃ (k:Nat),k+f=j∧i= .int .i64 k∧Mem (StaysB g w0) g w0 wr ⟨0,0⟩ (own zt [.string t.name,.slice p1 q1 s1] 51::own za [.slice a1 n1 c1,.slice a2 n2 c2] 25::[])∧Hid (NoB (b.types.take j) (fun u=>sameS u.name t.name) k))
              case atStart=>exact⟨0,by omega,rfl,M,noB_zero _ _⟩
              case round=>
                clear M
                obtain⟨k,hk,rfl,M,HB⟩:=hrel
                by_cases hltk:k<j
                · have hkt:k<(b.types.take j).length:=by rw[HTL.out];exact hltk
                  obtain⟨cs,os,rows,hixs, -,hrrs,hws⟩:=SlF.rowAt (P:=Tryz.prog) HXJ.out typF_firm Tryz.underlying22 size_typ (i:=k) hkt
                  obtain⟨p2,q2,s2,et2, -⟩:=hrrs
                  subst et2
                  have HR2:Hid (∀ wx,Below w0.heap.size w0 wx→wx.rangeAt cs os [.string (b.types.take j)[k].name,.slice p2 q2 s2]):=fun wx hb=>(hws wx hb).1
                  have HSQ:Hid (∀ c,sameS (b.types.take j)[k].name t.name=c→((b.types.take j)[k].name.toList==t.name.toList)=c):=fun c h=>h
                  have HF1:Hid (sameS (b.types.take j)[k].name t.name=true→typI (b.types.take j) t.name<j):=fun h=>by
                    have e:typI (b.types.take j) t.name=k:=noB_at HB.out hkt h
                    omega
                  have HF0:Hid (sameS (b.types.take j)[k].name t.name=false→NoB (b.types.take j) (fun u=>sameS u.name t.name) (k+1)):=fun h=>noB_succ HB.out hkt h
                  clear hws HB
                  generalize (b.types.take j)[k].name=unm at HR2 HSQ HF1 HF0
                  clear hkt
                  cases hsm:sameS unm t.name with
                  |true=>
                    have hsb:=HSQ.out _ hsm
                    have HV:Hid (bookE b=7):=HE3.out 7 (by rw[if_pos (HF1.out hsm)]) (by decide)
                    clear HE3 HZ4 HSQ HF1 HF0 hsm
                    go_wp2_with (with_reducible (first|(refine wV M ?_;clear M;intro zu w M)|refine wq M ?_|(refine wS M ?_;clear M;intro w M)|refine wA (HR2.out _ M.new) ?_))
                    go_ret
                    rw[HV.out]
                    exact⟨rfl,M.new⟩
                  |false=>
                    have hsb:=HSQ.out _ hsm
                    have HB2:=Lib.hid (HF0.out hsm)
                    clear HSQ HF1 HF0 hsm
                    go_wp2_with (with_reducible (first|(refine wV M ?_;clear M;intro zu w M)|refine wq M ?_|(refine wS M ?_;clear M;intro w M)|refine wA (HR2.out _ M.new) ?_))
                    go_roundg (j - (k+1))
                    case measure=>omega
                    case rel=>exact⟨k+1,by omega,by go_num,M.drop,HB2⟩
                · have hkj:k=j:=by omega
                  have hno: ¬ typI (b.types.take j) t.name<j:=by
                    have e:typI (b.types.take j) t.name=(b.types.take j).length:=noB_none (by have h:=HB.out;rw[hkj]at h;rw[HTL.out];exact h)
                    rw[e,HTL.out]
                    omega
                  have HZ5:=Lib.hid (HZ4.out (by rw[if_neg hno]))
                  clear HE3 HZ4 HB hno
                  go_wp2_with (with_reducible (first|refine wq M ?_|(refine wS M ?_;clear M;intro w M)|(refine wV M ?_;clear M;intro z w M)|(refine wR M ?_;clear M;intro q w M)))
                  go_roundg (n1 - (j+1))
                  case measure=>omega
                  case rel=>exact⟨j+1,by omega,by go_num,M.drop,HZ5⟩
      · have HV:Hid (bookE b=typE t.name t.fields):=HE.out _ (by rw[if_pos hte]) hte
        have hqb:(typE t.name t.fields !=0)=true:=by simpa using hte
        generalize typE t.name t.fields=te at HTF HV hqb
        clear HE HZ2 hte HKW
        go_wp2_with (first|(with_reducible (first|(refine wV M ?_;clear M;intro zt w M)|refine wq M ?_|(refine wS M ?_;clear M;intro w M)|refine wA (HR.out _ M.new) ?_))|(go_at_call 18;with_reducible refine(HTF.out _ M.new).mono ?_;rintro e w5 ⟨rfl,hb5⟩;replace M:=M.below hb5;clear hb5))
        go_ret
        rw[HV.out]
        exact⟨rfl,M.new⟩
    · have HT1:Hid (AllZ (btypE b) b.types.length):=by have e:j=b.types.length:=(by have:=N1.out;omega);rw[←e];exact HZ.out
      have HTG:Hid (∀ t∈b.types,TypGood t):=fun t ht=>⟨hts.out t ht,btyp_good HT1.out t ht⟩
      clear HZ
      go_wp2_with (with_reducible refine wq M ?_)
      go_loopg [79] n2 (fun f i wr=> ∃ (j:Nat),j+f=n2∧i= .int .i64 j∧Mem (StaysB g w0) g w0 wr ⟨0,0⟩ (own za [.slice a1 n1 c1,.slice a2 n2 c2] 25::[])∧Hid (AllZ (brulE b) j))
      case atStart=>exact⟨0,by omega,rfl,M,allZ_zero _⟩
      case round=>
        clear M
        obtain⟨j,hj,rfl,M,HZ⟩:=hrel
        by_cases hlt:j<n2
        · have hkl:j<b.rules.length:=by have:=N2.out;omega
          have HE:Hid (∀ e,brulP b.types (b.rules.take j) b.rules[j]=e→e≠0→bookE b=e):=fun e he hn=>book_rule h0.out HT1.out HZ.out hkl (by rw[brulE_at hkl];exact he) hn
          have HZ2:Hid (brulP b.types (b.rules.take j) b.rules[j]=0→AllZ (brulE b) (j+1)):=fun h=>allZ_succ HZ.out (by rw[brulE_at hkl];exact h)
          obtain⟨cr,or,rowr,hixr, -,hrrr,hwr⟩:=SlF.rowAt (P:=Tryz.prog) X2.out rulF_firm Tryz.underlying23 size_rul (i:=j) hkl
          have hro:=hrs.out _ (List.getElem_mem hkl)
          have HRF:Hid (∀ wx,Below w0.heap.size w0 wx→Calls Tryz.prog 20 #[.slice a1 n1 c1,.agg rowr.toArray] wx fun e w' =>e= .returned (.int .i64 (ruleE b.types b.rules[j]))∧Below wx.heap.size wx w'):=fun wx hb=>
            rule_any (Nat.lt_of_lt_of_le hg.out hb.size) (X1.out.below typF_firm hb) (E.out.below hb) (fun k hk=>Nat.lt_of_lt_of_le (hF.out k hk) hb.size) HTG.out b.rules[j] rowr (rulF_firm _ _ _ _ _ _ (Same.below hb) hrrr) hro
          obtain⟨b1,m1,e1,b2,m2,e2,b3,m3,e3,b4,m4,e4,b6,m6,e6,rfl, -⟩:=hrrr
          have HR:=Lib.hid (fun wx hb=>(hwr wx hb).1)
          have hjc:j≤c2:=by omega
          have HXJ:Hid (SlF F w0 7 rulF a2 j c2 (b.rules.take j)):=X2.out.take j c2 (by omega) (by omega) (Nat.le_refl _)
          have HTL:Hid ((b.rules.take j).length=j):=by show _=_;rw[List.length_take];omega
          clear hwr hro HZ
          generalize b.rules[j]=x at HE HZ2 HRF HR
          clear hkl
          unfold brulP at HE HZ2
          unfold rulC at HR HRF
          by_cases hq:ruleE b.types x=0
          · rw[hq]at HRF
            have HE2:=Lib.hid (fun e he=>HE.out e (by rw[if_neg (by rw[hq];simp)];exact he))
            have HZ3:=Lib.hid (fun he=>HZ2.out (by rw[if_neg (by rw[hq];simp)];exact he))
            clear HE HZ2 hq
            go_wp2_with (first|(with_reducible (first|(refine wV M ?_;clear M;intro zr w M)|refine wq M ?_|(refine wS M ?_;clear M;intro w M)|refine wA (HR.out _ M.new) ?_))|(go_at_call 20;with_reducible refine(HRF.out _ M.new).mono ?_;rintro e w5 ⟨rfl,hb5⟩;replace M:=M.below hb5;clear hb5))
            go_loopg [96] j (fun f i wr=> ∃ (k:Nat),k+f=j∧i= .int .i64 k∧Mem (StaysB g w0) g w0 wr ⟨0,0⟩ (own zr [.string x.name,.slice b1 m1 e1,.slice b2 m2 e2,.slice b3 m3 e3,.slice b4 m4 e4,.string x.etype,.slice b6 m6 e6] 47::own za [.slice a1 n1 c1,.slice a2 n2 c2] 25::[])∧Hid (NoB (b.rules.take j) (fun y=>sameS y.name x.name) k))
            case atStart=>exact⟨0,by omega,rfl,M,noB_zero _ _⟩
            case round=>
              clear M
              obtain⟨k,hk,rfl,M,HB⟩:=hrel
              by_cases hltk:k<j
              · have hkt:k<(b.rules.take j).length:=by rw[HTL.out];exact hltk
                obtain⟨cs,os,rows,hixs, -,hrrs,hws⟩:=SlF.rowAt (P:=Tryz.prog) HXJ.out rulF_firm Tryz.underlying23 size_rul (i:=k) hkt
                obtain⟨f1,f2,f3,f4,f5,f6,f7,f8,f9,f10,f11,f12,f13,f14,f15,rfl, -⟩:=hrrs
                have HR2:Hid (∀ wx,Below w0.heap.size w0 wx→wx.rangeAt cs os [.string (b.rules.take j)[k].name,.slice f1 f2 f3,.slice f4 f5 f6,.slice f7 f8 f9,.slice f10 f11 f12,.string (b.rules.take j)[k].etype,.slice f13 f14 f15]):=fun wx hb=>(hws wx hb).1
                have HSQ:Hid (∀ c,sameS (b.rules.take j)[k].name x.name=c→((b.rules.take j)[k].name.toList==x.name.toList)=c):=fun c h=>h
                have HF1:Hid (sameS (b.rules.take j)[k].name x.name=true→(b.rules.take j).any (fun y=>sameS y.name x.name)=true):=fun h=>List.any_eq_true.2 ⟨_,List.getElem_mem hkt,h⟩
                have HF0:Hid (sameS (b.rules.take j)[k].name x.name=false→NoB (b.rules.take j) (fun y=>sameS y.name x.name) (k+1)):=fun h=>noB_succ HB.out hkt h
                clear hws HB
                generalize (b.rules.take j)[k]=y at HR2 HSQ HF1 HF0
                clear hkt
                cases hsm:sameS y.name x.name with
                |true=>
                  have hsb:=HSQ.out _ hsm
                  have HV:Hid (bookE b=7):=HE2.out 7 (by rw[if_pos (HF1.out hsm)]) (by decide)
                  clear HE2 HZ3 HSQ HF1 HF0 hsm HRF
                  go_wp2_with (with_reducible (first|(refine wV M ?_;clear M;intro zu w M)|refine wq M ?_|(refine wS M ?_;clear M;intro w M)|refine wA (HR2.out _ M.new) ?_))
                  go_ret
                  rw[HV.out]
                  exact⟨rfl,M.new⟩
                |false=>
                  have hsb:=HSQ.out _ hsm
                  have HB2:=Lib.hid (HF0.out hsm)
                  clear HSQ HF1 HF0 hsm HRF
                  go_wp2_with (with_reducible (first|(refine wV M ?_;clear M;intro zu w M)|refine wq M ?_|(refine wS M ?_;clear M;intro w M)|refine wA (HR2.out _ M.new) ?_))
                  go_roundg (j - (k+1))
                  case measure=>omega
                  case rel=>exact⟨k+1,by omega,by go_num,M.drop,HB2⟩
              · have hany:(b.rules.take j).any (fun y=>sameS y.name x.name)=false:=noB_any (by have h:=HB.out;rw[show k=j by omega]at h;rw[HTL.out];exact h)
                have HZ5:=Lib.hid (HZ3.out (by rw[hany];rfl))
                clear HE2 HZ3 HB hany HRF
                go_wp2_with (with_reducible (first|refine wq M ?_|(refine wS M ?_;clear M;intro w M)|(refine wV M ?_;clear M;intro z w M)|(refine wR M ?_;clear M;intro q w M)))
                go_roundg (n2 - (j+1))
                case measure=>omega
                case rel=>exact⟨j+1,by omega,by go_num,M.drop,HZ5⟩
          · have HV:Hid (bookE b=ruleE b.types x):=HE.out _ (by rw[if_pos hq]) hq
            have hqb:(ruleE b.types x !=0)=true:=by simpa using hq
            generalize ruleE b.types x=q at HRF HV hqb
            clear HE HZ2 hq
            go_wp2_with (first|(with_reducible (first|(refine wV M ?_;clear M;intro zr w M)|refine wq M ?_|(refine wS M ?_;clear M;intro w M)|refine wA (HR.out _ M.new) ?_))|(go_at_call 20;with_reducible refine(HRF.out _ M.new).mono ?_;rintro e w5 ⟨rfl,hb5⟩;replace M:=M.below hb5;clear hb5))
            go_ret
            rw[HV.out]
            exact⟨rfl,M.new⟩
        · have HT2:Hid (AllZ (brulE b) b.rules.length):=by have e:j=b.rules.length:=(by have:=N2.out;omega);rw[←e];exact HZ.out
          have HV0:=Lib.hid (book_rest h0.out HT1.out HT2.out)
          have HEN:Hid (∀ wx,Below w0.heap.size w0 wx→Calls Tryz.prog 21 #[.agg #[.slice a1 n1 c1,.slice a2 n2 c2]] wx fun e w' =>e= .returned (.bool (endB b))∧Below wx.heap.size wx w'):=fun wx hb=>
            endless_any (Nat.lt_of_lt_of_le hg.out hb.size) b a1 n1 c1 (X1.out.below typF_firm hb) (X2.out.below rulF_firm hb) (fun t ht=>(hts.out t ht).1) hes.out hn2.out
          clear HZ HT1 HT2 HTG
          generalize endB b=eb at HEN HV0
          cases eb with
          |true=>
            have HV:Hid (bookE b=15):=HV0.out
            go_wp2_with (first|(with_reducible refine wq M ?_)|(go_at_call 21;with_reducible refine(HEN.out _ M.new).mono ?_;rintro e w5 ⟨rfl,hb5⟩;replace M:=M.below hb5;clear hb5))
            go_ret
            rw[HV.out]
            exact⟨rfl,M.new⟩
          |false=>
            have HV:Hid (bookE b=0):=HV0.out
            go_wp2_with (first|(with_reducible refine wq M ?_)|(go_at_call 21;with_reducible refine(HEN.out _ M.new).mono ?_;rintro e w5 ⟨rfl,hb5⟩;replace M:=M.below hb5;clear hb5))
            go_ret
            rw[HV.out]
            exact⟨rfl,M.new⟩
theorem check_any(hg:g<w0.heap.size)(E:Env F w0)(hF: ∀ b,F b→b<w0.heap.size)(b:Bok)(a1:Option Addr)(n1 c1:Nat)(a2:Option Addr)(n2 c2:Nat)(X1:SlF F w0 2 typF a1 n1 c1 b.types)(X2:SlF F w0 7 rulF a2 n2 c2 b.rules)(hts: ∀ t∈b.types,typOk t)(hrs: ∀ x∈b.rules,RulFit x)(hes: ∀ x∈b.rules,x.etype.size≤maxLen):Calls Tryz.prog 11 #[.agg #[.slice a1 n1 c1,.slice a2 n2 c2]] w0 fun e w' =>e= .returned (.int .i64 (bookE b))∧Below w0.heap.size w0 w' :=by
  by_cases h0:6<b.types.length∨5<b.rules.length
  · exact check_size hg E hF b a1 n1 c1 a2 n2 c2 X1 X2 hts hrs hes h0
  · exact check_main hg E hF b a1 n1 c1 a2 n2 c2 X1 X2 hts hrs hes h0
end
end Go.Proofs.YtncmghnhfipklaaGreatDoor
