/-
  The walks of the program's Check, ninth part: rules. Printed by pgi.py.
-/
import Derived.Test.YtncmghnhfipklaaGreatDoorPw28
import Derived.Deep.CutBlock
import Derived.Deep.DeepCutAuto
namespace Go.Proofs.YtncmghnhfipklaaGreatDoor
open Go.RowKit
set_option linter.unusedVariables false
set_option linter.unusedSimpArgs false
structure PatFit (p:Pat):Prop where
 var:p.var.size≤maxLen
 con:CondFit p.wher
structure RulFit (x:Rul):Prop where
 name:x.name.size≤maxLen
 whens: ∀ p∈x.whens,PatFit p
 nots: ∀ p∈x.nots,PatFit p
 manies: ∀ m∈x.manies,PatFit m.pat
 evals: ∀ o∈x.evals,OpdFit o
theorem RulFit.ok{x:Rul}(h:RulFit x):RulOk x:=⟨h.name,fun p hp=>⟨(h.whens p hp).var,(h.whens p hp).con.ok⟩,fun p hp=>⟨(h.nots p hp).var,(h.nots p hp).con.ok⟩,fun m hm=>⟨(h.manies m hm).var,(h.manies m hm).con.ok⟩,fun o ho=>(h.evals o ho).1⟩
section
variable {g:Nat} {F:Nat→Prop} {ao:Option Addr} {n cap:Nat} {w0:World} {ts:List Typ}
def PtnIs(F:Nat→Prop)(ts:List Typ)(q:Int)(p:Pat)(zt mt:Nat)(ft:MapF)(w0 w:World):Ending→World→Prop:=fun e w' =>
 ∃ tn a nn c,e= .returned (.tuple #[.agg #[.string tn,.slice a nn c],.int .i64 q])∧But zt w w' ∧ ∃ m f',MapOf Tryz.prog 9 w' zt m f' ∧
  (q=0→m=mt+1∧f' =putF ft p.var (.bool true)∧tn=(typAt ts p.type).name∧SlF F w0 2 (plainF fldC) a nn c (typAt ts p.type).fields)
section
variable {L:List Ent} {w:World} {zt mt zs zk mk:Nat} {ft fk:MapF} {known:List Pat}
theorem Mem.distinct(M:Mem (StaysB g w0) g w0 w ⟨0,0⟩ L){i j z y:Nat}{e f:Ent}(hi:L[i]?=some e)(hj:L[j]?=some f)(he:e.blk z)(hf:f.blk y)(hij:i≠j):z≠y:=by
 obtain⟨hil,hie⟩:=List.getElem?_eq_some_iff.1 hi
 obtain⟨hjl,hje⟩:=List.getElem?_eq_some_iff.1 hj
 have hp:=List.pairwise_iff_getElem.1 M.apart
 intro hzy
 subst hzy
 rcases Nat.lt_or_gt_of_ne hij with h|h
 ·have:=hp i j hil hjl h
  rw[hie,hje]at this
  exact this z he hf
 ·have:=hp j i hjl hil h
  rw[hie,hje]at this
  exact this z hf he
theorem scope_of(M:Mem (StaysB g w0) g w0 w ⟨0,0⟩ L)(hX:SlF F w0 2 typF ao n cap ts){i2 i3:Nat}
  (h2:L[i2]?=some (own zs [.slice ao n cap,.map (some zk)] 90))(h3:L[i3]?=some (mp Tryz.prog 9 zk mk fk))(HK:KnownF F w0 fk ts known)(hth: ∀ p∈known,typI ts p.type<ts.length):Scope F w zs zk mk fk ts known ao n cap:=by
 have hb:Below w0.heap.size w0 w:=M.new
 have b2:=M.low _ (Mem.of_get h2) _ rfl
 have hO:=M.own_ (Mem.of_get h2)
 exact⟨b2.2,by rw[hO.cell];rfl,by rw[hO.cell];rfl,hX.below typF_firm hb,M.map_ h3,fun s _ hs=>(HK.has s hs).elim fun cs h=>⟨cs,h.1,h.2.same (Same.below hb)⟩,fun s _ hs=>HK.hasnt s hs,hth⟩
theorem ptn_call(M:Mem (StaysB g w0) g w0 w ⟨0,0⟩ L)(hX:SlF F w0 2 typF ao n cap ts)(E:Env F w0)(hF: ∀ b,F b→b<w0.heap.size)(hts: ∀ t∈ts,TypGood t)(i1 i2 i3 i4:Nat)
  (h1:L[i1]?=some (mp Tryz.prog 9 zt mt ft))(h2:L[i2]?=some (own zs [.slice ao n cap,.map (some zk)] 90))(h3:L[i3]?=some (mp Tryz.prog 9 zk mk fk))(HK:KnownF F w0 fk ts known)(hth: ∀ p∈known,typI ts p.type<ts.length)
  {ahead:List ByteArray}(HT:TakF ft ahead){p:Pat}{so:Option Addr}{sn scap:Nat}(hC:SlF F w0 14 CondF so sn scap p.wher.subs)(hp:PatFit p)(part:Nat)(hpart:part≤2){qi:Nat}{ti:TypeId}{cs:List Value}(h4:L[i4]?=some (own qi cs ti))(hcs:cs=(winL part).map fun k=> .int .i64 k)
  {nn:Nat}(hnn:nn=(winL part).length)(r:List Value)(hr:r=pat18 p so sn scap){q:Int}(hq:q=patE ts known ahead p part)(hmt:mt<maxLen)(hd:i1≠i2∧i1≠i3∧i1≠i4):
  Calls Tryz.prog 38 #[.pointer (some ⟨zs,0,none⟩),.agg r.toArray,.map (some zt),.slice (some ⟨qi,0,none⟩) nn nn] w (PtnIs F ts q p zt mt ft w0 w):=by
 subst hcs hnn hr hq
 have hb:Below w0.heap.size w0 w:=M.new
 have b1:=M.low _ (Mem.of_get h1) _ rfl
 have b4:=M.low _ (Mem.of_get h4) _ rfl
 have hQ:=M.own_ (Mem.of_get h4)
 have hFz: ¬ F zt:=fun h=>by have:=hF _ h;omega
 have hS:=scope_of M hX h2 h3 HK hth
 have hne:zs≠zt:=(M.distinct h1 h2 rfl rfl hd.1).symm
 have hne2:zk≠zt:=(M.distinct h1 h3 rfl rfl hd.2.1).symm
 have hne3:zt≠qi:=M.distinct h1 h4 rfl rfl hd.2.2
 have hK:SlF (fun k=>k=qi) w 1 (plainF intC) (some ⟨qi,0,none⟩) (winL part).length (winL part).length (winL part):=by
  refine⟨rfl,Nat.le_refl _,by rcases(by omega:part=0∨part=1∨part=2)with rfl|rfl|rfl<;>decide,(fun h=>by cases h),fun i hi=>⟨qi,0,intC (winL part)[i],rfl,rfl,b4.2,⟨rfl,fun j hj=>?_⟩,rfl⟩⟩
  have hj0:j=0:=by omega
  subst hj0
  simp only[Nat.zero_add,Nat.mul_one,Nat.add_zero]
  rw[hQ.cell,List.getElem?_map,List.getElem?_eq_getElem hi]
  rfl
 refine(pattern_any (E.below hb) hS hts p (hC.below condF_firm hb) hp.var hp.con part hpart hK (M.map_ h1) hmt ahead (HT p.var) hFz hne3 hne hne2).mono ?_
 rintro e w' ⟨tn,a,nn,c,rfl,hbt,m,f',q1,q2⟩
 refine⟨tn,a,nn,c,rfl,hbt,m,f',q1,fun h0=>?_⟩
 obtain⟨r1,r2,r3,r4⟩:=q2 h0
 exact⟨r1,r2,r3,r4.back (fun b hb' =>⟨hF b hb',(hb.block b (hF b hb')).symm⟩)⟩
end
section
variable {P:Program} {dst:Option Tmp} {oty:TypeId} {pos:String} {after:Array Edge} {g:Option (Nat×Bool)} {l l' :List Value} {ds:List Deferred} {Q:Exit→Act→World→Prop} {K:Act→World→Prop} {w:World} {t j j' j2 z n:Nat}
theorem q_msett{k:TypeId}{v0 v:Value}{f:MapF}{x:ByteArray}[hm:Nth l j (.map (some z))][hx:Nth l j' (.string x)][hv:Nth l j2 v][hT:MapI P t k v0](ho:MapOf P k w z n f)(hn:n<maxLen)(hs:x.size≤maxLen)[hd:PutI l dst undef l']
  (h: ∀ w',MapOf P k w' z (n+1) (putF f x v)→But z w w' →K ⟨l'.toArray,ds⟩ w'):OWP P ⟨dst,.mapUpdate t (.tmp j) (.tmp j') (.tmp j2),oty,pos,after,g⟩ ⟨l.toArray,ds⟩ w K Q:=
 q_mset (eval_tmp hv.nth) ho hn hs h
end
set_option maxRecDepth 8000 in
set_option maxHeartbeats 4000000 in
theorem rule_name(hg:g<w0.heap.size)(hX:SlF F w0 2 typF ao n cap ts)(E:Env F w0)(hF: ∀ b,F b→b<w0.heap.size)(hts: ∀ t∈ts,TypGood t)(x:Rul)(row:List Value)(h:rulF F w0 row x)(hok:RulFit x)(h0:freeE x.name≠0):Calls Tryz.prog 20 #[.slice ao n cap,.agg row.toArray] w0 fun e w' =>e= .returned (.int .i64 (ruleE ts x))∧Below w0.heap.size w0 w' :=by
 have h' :=h
 obtain⟨a1,n1,c1,a2,n2,c2,a3,n3,c3,a4,n4,c4,a6,n6,c6,rfl,X1,X2,X3,X4,X6⟩:=h
 have M:=Mem.begin hg ⟨0,0⟩
 have HNM:Hid (∀ wx,Below w0.heap.size w0 wx→Calls Tryz.prog 37 #[.string x.name] wx fun e w' =>e= .returned (.int .i64 (freeE x.name))∧Below wx.heap.size wx w'):=fun wx hb=>cname_any x.name wx hok.name (E.below hb)
 have hle1:=X1.le
 have hle2:=X2.le
 have hle3:=X3.le
 have hle4:=X4.le
 have N1:=Lib.hid X1.len
 have N2:=Lib.hid X2.len
 have N3:=Lib.hid X3.len
 have N4:=Lib.hid X4.len
 have HV:Hid (ruleE ts x=freeE x.name):=by show _=_;unfold ruleE;rw[if_pos h0]
 rw[HV.out]
 have hqb:(freeE x.name !=0)=true:=by simpa using h0
 generalize freeE x.name=ev at HNM hqb
 unfold rulC
 clear X1 X2 X3 X4 X6 hX hts hok h' h0 HV hg E hF
 go_enter Tryz.func20,Tryz.ntmps20
 go_wp2_with (first|(with_reducible (first|(refine wB (L:=[]) M ?_;clear M;intro za w1 M)|refine wq M ?_))|(go_at_call 37;with_reducible refine(HNM.out _ M.new).mono ?_;rintro e w5 ⟨rfl,hb5⟩;replace M:=M.below hb5;clear hb5))
 go_ret
 exact⟨rfl,M.new⟩
set_option maxRecDepth 8000 in
set_option maxHeartbeats 4000000 in
theorem rule_size(hg:g<w0.heap.size)(hX:SlF F w0 2 typF ao n cap ts)(E:Env F w0)(hF: ∀ b,F b→b<w0.heap.size)(hts: ∀ t∈ts,TypGood t)(x:Rul)(row:List Value)(h:rulF F w0 row x)(hok:RulFit x)(h0:freeE x.name=0)(h1:sizeB x=true):Calls Tryz.prog 20 #[.slice ao n cap,.agg row.toArray] w0 fun e w' =>e= .returned (.int .i64 (ruleE ts x))∧Below w0.heap.size w0 w' :=by
 have h' :=h
 obtain⟨a1,n1,c1,a2,n2,c2,a3,n3,c3,a4,n4,c4,a6,n6,c6,rfl,X1,X2,X3,X4,X6⟩:=h
 have M:=Mem.begin hg ⟨0,0⟩
 have HNM:Hid (∀ wx,Below w0.heap.size w0 wx→Calls Tryz.prog 37 #[.string x.name] wx fun e w' =>e= .returned (.int .i64 (freeE x.name))∧Below wx.heap.size wx w'):=fun wx hb=>cname_any x.name wx hok.name (E.below hb)
 have hle1:=X1.le
 have hle2:=X2.le
 have hle3:=X3.le
 have hle4:=X4.le
 have N1:=Lib.hid X1.len
 have N2:=Lib.hid X2.len
 have N3:=Lib.hid X3.len
 have N4:=Lib.hid X4.len
 have HV:Hid (ruleE ts x=1):=by show _=_;unfold ruleE;rw[if_neg (by rw[h0];simp),if_pos h1]
 rw[HV.out]
 rw[h0]at HNM
 have hleaf:n1<1∨3<n1∨2<n2∨2<n3∨6<n4:=by
  have e1:=N1.out
  have e2:=N2.out
  have e3:=N3.out
  have e4:=N4.out
  unfold sizeB at h1
  simp only[Bool.or_eq_true,decide_eq_true_eq]at h1
  omega
 unfold rulC
 clear X1 X2 X3 X4 X6 hX hts hok h' h0 HV hg h1 E hF
 by_cases c1:n1<1
 ·have d1:decide ((n1:Int)<1)=true:=by simp;omega
  clear hleaf c1
  go_enter Tryz.func20,Tryz.ntmps20
  go_wp2_with (first|(with_reducible (first|(refine wB (L:=[]) M ?_;clear M;intro za w1 M)|refine wq M ?_))|(go_at_call 37;with_reducible refine(HNM.out _ M.new).mono ?_;rintro e w5 ⟨rfl,hb5⟩;replace M:=M.below hb5;clear hb5))
  go_ret
  exact⟨rfl,M.new⟩
 ·have d1:decide ((n1:Int)<1)=false:=by simp;omega
  by_cases c2:3<n1
  ·have d2:decide ((3:Int)<n1)=true:=by simp;omega
   clear hleaf c1
   go_enter Tryz.func20,Tryz.ntmps20
   go_wp2_with (first|(with_reducible (first|(refine wB (L:=[]) M ?_;clear M;intro za w1 M)|refine wq M ?_))|(go_at_call 37;with_reducible refine(HNM.out _ M.new).mono ?_;rintro e w5 ⟨rfl,hb5⟩;replace M:=M.below hb5;clear hb5))
   go_ret
   exact⟨rfl,M.new⟩
  ·have d2:decide ((3:Int)<n1)=false:=by simp;omega
   by_cases c3:2<n2
   ·have d3:decide ((2:Int)<n2)=true:=by simp;omega
    clear hleaf c1 c2
    go_enter Tryz.func20,Tryz.ntmps20
    go_wp2_with (first|(with_reducible (first|(refine wB (L:=[]) M ?_;clear M;intro za w1 M)|refine wq M ?_))|(go_at_call 37;with_reducible refine(HNM.out _ M.new).mono ?_;rintro e w5 ⟨rfl,hb5⟩;replace M:=M.below hb5;clear hb5))
    go_ret
    exact⟨rfl,M.new⟩
   ·have d3:decide ((2:Int)<n2)=false:=by simp;omega
    by_cases c4:2<n3
    ·have d4:decide ((2:Int)<n3)=true:=by simp;omega
     clear hleaf c1 c2 c3
     go_enter Tryz.func20,Tryz.ntmps20
     go_wp2_with (first|(with_reducible (first|(refine wB (L:=[]) M ?_;clear M;intro za w1 M)|refine wq M ?_))|(go_at_call 37;with_reducible refine(HNM.out _ M.new).mono ?_;rintro e w5 ⟨rfl,hb5⟩;replace M:=M.below hb5;clear hb5))
     go_ret
     exact⟨rfl,M.new⟩
    ·have d4:decide ((2:Int)<n3)=false:=by simp;omega
     have d5:decide ((6:Int)<n4)=true:=by simp;omega
     clear hleaf c1 c2 c3 c4
     go_enter Tryz.func20,Tryz.ntmps20
     go_wp2_with (first|(with_reducible (first|(refine wB (L:=[]) M ?_;clear M;intro za w1 M)|refine wq M ?_))|(go_at_call 37;with_reducible refine(HNM.out _ M.new).mono ?_;rintro e w5 ⟨rfl,hb5⟩;replace M:=M.below hb5;clear hb5))
     go_ret
     exact⟨rfl,M.new⟩
set_option maxRecDepth 8000 in
set_option maxHeartbeats 16000000 in
theorem rule_main(hg:g<w0.heap.size)(hX:SlF F w0 2 typF ao n cap ts)(E:Env F w0)(hF: ∀ b,F b→b<w0.heap.size)(hts: ∀ t∈ts,TypGood t)(x:Rul)(row:List Value)(h:rulF F w0 row x)(hok:RulFit x)(h0:freeE x.name=0)(h1:sizeB x=false):Calls Tryz.prog 20 #[.slice ao n cap,.agg row.toArray] w0 fun e w' =>e= .returned (.int .i64 (ruleE ts x))∧Below w0.heap.size w0 w' :=by
 have h' :=h
 obtain⟨a1,n1,c1,a2,n2,c2,a3,n3,c3,a4,n4,c4,a6,n6,c6,rfl,X1,X2,X3,X4,X6⟩:=h
 have M:=Mem.begin hg ⟨0,0⟩
 have HNM:Hid (∀ wx,Below w0.heap.size w0 wx→Calls Tryz.prog 37 #[.string x.name] wx fun e w' =>e= .returned (.int .i64 (freeE x.name))∧Below wx.heap.size wx w'):=fun wx hb=>cname_any x.name wx hok.name (E.below hb)
 have hle1:=X1.le
 have hle2:=X2.le
 have hle3:=X3.le
 have hle4:=X4.le
 have N1:=Lib.hid X1.len
 have N2:=Lib.hid X2.len
 have N3:=Lib.hid X3.len
 have N4:=Lib.hid X4.len
 have hs:(1≤n1∧n1≤3)∧n2≤2∧n3≤2∧n4≤6:=by
  have e1:=N1.out
  have e2:=N2.out
  have e3:=N3.out
  have e4:=N4.out
  unfold sizeB at h1
  simp only[Bool.or_eq_false_iff,decide_eq_false_iff_not]at h1
  omega
 have hp0:Hid (Pre0 x):=⟨h0,h1⟩
 rw[h0]at HNM
 obtain⟨⟨s1,s2⟩,s3,s4,s5⟩:=hs
 have d1:decide ((n1:Int)<1)=false:=by simp;omega
 have d2:decide ((3:Int)<n1)=false:=by simp;omega
 have d3:decide ((2:Int)<n2)=false:=by simp;omega
 have d4:decide ((2:Int)<n3)=false:=by simp;omega
 have d5:decide ((6:Int)<n4)=false:=by simp;omega
 unfold rulC
 replace hX:=Lib.hid hX
 replace h' :=Lib.hid h'
 replace X1:=Lib.hid X1
 replace X2:=Lib.hid X2
 replace X3:=Lib.hid X3
 replace X4:=Lib.hid X4
 replace X6:=Lib.hid X6
 replace hts:=Lib.hid hts
 replace hok:=Lib.hid hok
 replace hF:=Lib.hid hF
 replace E:=Lib.hid E
 replace hg:=Lib.hid hg
 clear h0 h1
 go_enter Tryz.func20,Tryz.ntmps20
 go_wp2_with (first|(with_reducible (first|(refine wB (L:=[]) M ?_;clear M;intro za w1 M)|(refine wB M ?_;clear M;intro zs w2 M)|(refine w_ (q_map (t:=88) M ?_);clear M;intro zk w M)|(refine w_ (q_map (t:=91) M ?_);clear M;intro zt w M)|refine wq M ?_))|(go_at_call 37;with_reducible refine(HNM.out _ M.new).mono ?_;rintro e w5 ⟨rfl,hb5⟩;replace M:=M.below hb5;clear hb5))
 go_loopg [66] n1 (fun f i wr=> ∃ (j mt mk:Nat) (ft fk:MapF),j+f=n1∧i= .int .i64 j∧Mem (StaysB g w0) g w0 wr ⟨0,0⟩ (mp Tryz.prog 9 zt mt ft::own zs [.slice ao n cap,.map (some zk)] 90::mp Tryz.prog 9 zk mk fk::own za [.string x.name,.slice a1 n1 c1,.slice a2 n2 c2,.slice a3 n3 c3,.slice a4 n4 c4,.string x.etype,.slice a6 n6 c6] 47::[])∧Hid (mt≤j∧mk≤j)∧Hid (TakF ft (vars (x.whens.take j)))∧Hid (KnownF F w0 fk ts (x.whens.take j))∧Hid (Stg ts x (Pre0 x) (whenE ts x) j 0))
 case atStart=>exact⟨0,0,0,noneF,noneF,by omega,rfl,M,⟨Nat.le_refl _,Nat.le_refl _⟩,takF_none,knownF_none _ _ _,⟨fun h=>absurd rfl h,fun _=>⟨hp0.out,allZ_zero _⟩⟩⟩
 case round=>
  clear M
  obtain⟨j,mt,mk,ft,fk,hj,rfl,M,HB,HT,HK,HS⟩:=hrel
  by_cases hlt:j<n1
  ·have hkl:j<x.whens.length:=by have:=N1.out;omega
   have HS2:=Lib.hid (stg_when HS.out rfl hkl)
   obtain⟨hp,hz⟩:=HS.out.2 rfl
   have hth:=Lib.hid (whens_there (by omega) hz)
   obtain⟨cp,op,rowp,hixp, -,hrrp,hwp⟩:=SlF.rowAt (P:=Tryz.prog) X1.out patF_firm Tryz.underlying40 size_pat (i:=j) hkl
   obtain⟨p1,q1,s1',ep,u1⟩:=patF.open18 hrrp
   subst ep
   have HR:=Lib.hid (fun wx hb=>(hwp wx hb).1)
   have hpo:=Lib.hid (hok.out.whens _ (List.getElem_mem hkl))
   have hC:=Lib.hid u1
   have hq:Hid (whenE ts x j=patE ts (x.whens.take j) (vars (x.whens.take j)) x.whens[j] 0):=by show _=_;unfold whenE;rw[List.getD_eq_getElem?_getD,List.getElem?_eq_getElem hkl];rfl
   have hmt:Hid (mt<maxLen):=by have:=HB.out.1;show _<_;unfold maxLen;omega
   have hmk:Hid (mk<maxLen):=by have:=HB.out.2;show _<_;unfold maxLen;omega
   have hpv:Hid (x.whens[j].var.size≤maxLen):=hpo.out.var
   have HTK:Hid (vars (x.whens.take j)++[x.whens[j].var]=vars (x.whens.take (j+1))):=take_vars hkl
   have HKK:Hid (x.whens.take j++[x.whens[j]]=x.whens.take (j+1)):=by show _=_;rw[List.take_add_one,List.getElem?_eq_getElem hkl];rfl
   clear hwp hrrp u1 hz hp
   generalize x.whens[j]=p at HR hpo hC hq hpv HTK HKK
   clear hkl
   generalize whenE ts x j=q at HS2 hq
   unfold pat18 at HR
   by_cases hq0:q=0
   ·subst hq0
    have hnf:=Lib.hid (pat_fresh hq.out.symm)
    go_wp2_with (first|(with_reducible (first|(refine wV M ?_;clear M;intro zp w M)|(refine w_ (q_three M ?_);clear M;intro qi w M)|refine wq M ?_|(refine wS M ?_;clear M;intro w M)|refine wA (HR.out _ M.new) ?_))|(go_at_call 38;with_reducible refine(ptn_call M hX.out E.out hF.out hts.out 2 3 4 0 rfl rfl rfl HK.out hth.out HT.out hC.out hpo.out 0 (by omega) rfl (by with_unfolding_all rfl) (by with_unfolding_all rfl) _ (by with_unfolding_all rfl) hq.out hmt.out (by decide)).mono ?_;rintro e w5 hh;unfold PtnIs at hh;obtain⟨tn,tya,tyn,tyc,he,hbt,m',f',ho',hpp⟩:=hh;subst he;obtain⟨rfl,rfl,rfl,hsl⟩:=hpp rfl;have HSL:=Lib.hid hsl;clear hsl hpp;replace M:=M.remap (i:=2) rfl hbt ho';clear hbt ho';(simp only[List.set_cons_zero,List.set_cons_succ]at M)))
    (refine wp_region_any (by kernel_rfl) ?_;(try(change wpAny _ _ _ _ _ _ _ (World.drew _)));replace M:=M.drew;generalize World.drew _=w at M ⊢;have S:=St.o;((refine tk 0 (v:=?_) rfl (by kernel_rfl) rfl ?_ ?_;rotate_left;focus(intro w;go_simp;try with_reducible rfl));(try go_simp);(refine tk 1 (v:=?_) rfl (by kernel_rfl) rfl ?_ ?_;rotate_left;focus(intro w;go_simp;try with_reducible rfl));(try go_simp);(refine tk 2 (v:=?_) rfl (by kernel_rfl) rfl ?_ ?_;rotate_left;focus(intro w;go_simp;try with_reducible rfl));(try go_simp);(refine tk 4 (v:=?_) rfl (by kernel_rfl) rfl ?_ ?_;rotate_left;focus(intro w;go_simp;try with_reducible rfl));(try go_simp);replace S:=S.add 23;refine rd3 3 5 6 (by kernel_rfl) rfl rfl ?_ rfl rfl ?_ rfl rfl ?_<;>intro K hK);all_goals(first|(refine o_dst (some 84) ?_;(refine q_get M (by exact rfl) ?_);(all_goals(refine hK _ _ ?_;clear hK K;replace S:=S.add 8)))|(refine o_dst (some 86) ?_;(refine q_get M (by exact rfl) ?_);(all_goals(refine hK _ _ ?_;clear hK K;replace S:=S.add 32)))|(refine o_dst (some 87) ?_;(refine q_all M (by rfl) ?_);(all_goals(refine hK _ _ ?_;clear hK K;replace S:=S.add 64))));all_goals(first|(replace S:St 31:=S;refine rd2 5 6 (by kernel_rfl) rfl rfl ?_ rfl rfl ?_<;>intro K hK)|(replace S:St 55:=S;refine rd2 3 6 (by kernel_rfl) rfl rfl ?_ rfl rfl ?_<;>intro K hK)|(replace S:St 87:=S;refine rd2 3 5 (by kernel_rfl) rfl rfl ?_ rfl rfl ?_<;>intro K hK));all_goals(first|(refine o_dst (some 86) ?_;(refine q_get M (by exact rfl) ?_);(all_goals(refine hK _ _ ?_;clear hK K;replace S:=S.add 32)))|(refine o_dst (some 87) ?_;(refine q_all M (by rfl) ?_);(all_goals(refine hK _ _ ?_;clear hK K;replace S:=S.add 64)))|(refine o_dst (some 84) ?_;(refine q_get M (by exact rfl) ?_);(all_goals(refine hK _ _ ?_;clear hK K;replace S:=S.add 8))));all_goals(first|(replace S:St 63:=S;refine rd1 6 (by kernel_rfl) rfl rfl ?_<;>intro K hK)|(replace S:St 95:=S;refine rd1 5 (by kernel_rfl) rfl rfl ?_<;>intro K hK)|(replace S:St 119:=S;refine rd1 3 (by kernel_rfl) rfl rfl ?_<;>intro K hK));all_goals(first|(refine o_dst (some 87) ?_;(refine q_all M (by rfl) ?_);(all_goals(refine hK _ _ ?_;clear hK K;replace S:=S.add 64)))|(refine o_dst (some 86) ?_;(refine q_get M (by exact rfl) ?_);(all_goals(refine hK _ _ ?_;clear hK K;replace S:=S.add 32)))|(refine o_dst (some 84) ?_;(refine q_get M (by exact rfl) ?_);(all_goals(refine hK _ _ ?_;clear hK K;replace S:=S.add 8))));all_goals(refine rd1 7 (by kernel_rfl) rfl rfl ?_<;>intro K hK);all_goals(refine o_dst none ?_;(refine q_msett (M.map_ (i:=5) rfl) hmk.out hpv.out ?_;intro wu hou hbu;replace M:=M.remap (i:=5) rfl hbu hou;clear hou hbu;(simp only[List.set_cons_zero,List.set_cons_succ]at M));(all_goals(refine hK _ _ ?_;clear hK K;replace S:=S.add 128)));all_goals(clear S;(refine wpAny_done (by kernel_rfl) ?_ _)))
    all_goals(go_wp2_with (with_reducible (first|refine wq M ?_|(refine wS M ?_;clear M;intro w M)|(refine wV M ?_;clear M;intro z w M)|(refine wR M ?_;clear M;intro q w M))))
    all_goals
     go_roundg (n1 - (j+1))
     case measure=>omega
     case rel=>exact⟨j+1,mt+1,mk+1,_,_,by omega,by go_num,M.drop.drop.drop,⟨Nat.succ_le_succ HB.out.1,Nat.succ_le_succ HB.out.2⟩,by(have h:=HT.out.snoc p.var;rw[HTK.out]at h;exact h),by(have h:=HK.out.snoc p hnf.out (cs:=[.string (typAt ts p.type).name,.slice tya tyn tyc]) ⟨_,_,_,rfl,HSL.out⟩;rw[HKK.out]at h;exact h),HS2⟩
   ·have hqb:(q !=0)=true:=by simpa using hq0
    have HV:Hid (ruleE ts x=q):=HS2.out.1 hq0
    replace hq0:=Lib.hid hq0
    go_wp2_with (first|(with_reducible (first|(refine wV M ?_;clear M;intro zp w M)|(refine w_ (q_three M ?_);clear M;intro qi w M)|refine wq M ?_|(refine wS M ?_;clear M;intro w M)|refine wA (HR.out _ M.new) ?_))|(go_at_call 38;with_reducible refine(ptn_call M hX.out E.out hF.out hts.out 2 3 4 0 rfl rfl rfl HK.out hth.out HT.out hC.out hpo.out 0 (by omega) rfl (by with_unfolding_all rfl) (by with_unfolding_all rfl) _ (by with_unfolding_all rfl) hq.out hmt.out (by decide)).mono ?_;rintro e w5 hh;unfold PtnIs at hh;obtain⟨tn,tya,tyn,tyc,he,hbt,m',f',ho',hpp⟩:=hh;subst he;clear hpp;replace M:=M.remap (i:=2) rfl hbt ho';clear hbt ho';(simp only[List.set_cons_zero,List.set_cons_succ]at M)))
    go_ret
    rw[HV.out]
    exact⟨rfl,M.new⟩
  ·have hjn:j=n1:=by omega
   have HT2:Hid (TakF ft (vars x.whens++vars (x.nots.take 0))):=by have h:=HT.out;rw[hjn,N1.out,List.take_length]at h;show TakF _ _;simpa[vars]using h
   have HK2:Hid (KnownF F w0 fk ts x.whens):=by have h:=HK.out;rw[hjn,N1.out,List.take_length]at h;exact h
   have HS2:Hid (Stg ts x (Pre1 ts x) (notE ts x) 0 0):=stg_next HS.out (fun _ hp hz=>⟨hp,by rw[←N1.out,←hjn];exact hz⟩)
   have hth:Hid (∀ p∈x.whens,typI ts p.type<ts.length):=by have h:=whens_there (Nat.le_refl _) (HS2.out.2 rfl).1.2;rw[List.take_length]at h;exact h
   have hmt3:Hid (mt≤3+0):=by have:=HB.out.1;show _≤_;omega
   clear HT HK HS HB hp0
   go_wp2_with (with_reducible refine wq M ?_)
   go_loopg [92] n2 (fun f i wr=> ∃ (j mt:Nat) (ft:MapF),j+f=n2∧i= .int .i64 j∧Mem (StaysB g w0) g w0 wr ⟨0,0⟩ (mp Tryz.prog 9 zt mt ft::own zs [.slice ao n cap,.map (some zk)] 90::mp Tryz.prog 9 zk mk fk::own za [.string x.name,.slice a1 n1 c1,.slice a2 n2 c2,.slice a3 n3 c3,.slice a4 n4 c4,.string x.etype,.slice a6 n6 c6] 47::[])∧Hid (mt≤3+j)∧Hid (TakF ft (vars x.whens++vars (x.nots.take j)))∧Hid (Stg ts x (Pre1 ts x) (notE ts x) j 0))
   case atStart=>exact⟨0,mt,ft,by omega,rfl,M,hmt3,HT2,HS2⟩
   case round=>
    clear M HT2 HS2 hmt3 hjn
    clear hlt hj
    obtain⟨j2,mt2,ft2,hj,rfl,M,HB,HT,HS⟩:=hrel
    by_cases hlt:j2<n2
    ·have hkl:j2<x.nots.length:=by have:=N2.out;omega
     have HS2:=Lib.hid (stg_not HS.out rfl hkl)
     obtain⟨cp,op,rowp,hixp, -,hrrp,hwp⟩:=SlF.rowAt (P:=Tryz.prog) X2.out patF_firm Tryz.underlying40 size_pat (i:=j2) hkl
     obtain⟨p1,q1,s1',ep,u1⟩:=patF.open18 hrrp
     subst ep
     have HR:=Lib.hid (fun wx hb=>(hwp wx hb).1)
     have hpo:=Lib.hid (hok.out.nots _ (List.getElem_mem hkl))
     have hC:=Lib.hid u1
     have hq:Hid (notE ts x j2=patE ts x.whens (vars x.whens++vars (x.nots.take j2)) x.nots[j2] 1):=by show _=_;unfold notE;rw[List.getD_eq_getElem?_getD,List.getElem?_eq_getElem hkl];rfl
     have hmt:Hid (mt2<maxLen):=by have:=HB.out;show _<_;unfold maxLen;omega
     have HTK:Hid ((vars x.whens++vars (x.nots.take j2))++[x.nots[j2].var]=vars x.whens++vars (x.nots.take (j2+1))):=by show _=_;rw[List.append_assoc,take_vars hkl]
     have HK:=HK2
     clear hwp hrrp u1
     generalize x.nots[j2]=p at HR hpo hC hq HTK
     clear hkl
     generalize notE ts x j2=q at HS2 hq
     unfold pat18 at HR
     by_cases hq0:q=0
     ·subst hq0
      go_wp2_with (first|(with_reducible (first|(refine wV M ?_;clear M;intro zp w M)|(refine w_ (q_one M ?_);clear M;intro qi w M)|refine wq M ?_|(refine wS M ?_;clear M;intro w M)|refine wA (HR.out _ M.new) ?_))|(go_at_call 38;with_reducible refine(ptn_call M hX.out E.out hF.out hts.out 2 3 4 0 rfl rfl rfl HK.out hth.out HT.out hC.out hpo.out 1 (by omega) rfl (by with_unfolding_all rfl) (by with_unfolding_all rfl) _ (by with_unfolding_all rfl) hq.out hmt.out (by decide)).mono ?_;rintro e w5 hh;unfold PtnIs at hh;obtain⟨tn,tya,tyn,tyc,he,hbt,m',f',ho',hpp⟩:=hh;subst he;obtain⟨rfl,rfl,rfl,hsl⟩:=hpp rfl;have HSL:=Lib.hid hsl;clear hsl hpp;replace M:=M.remap (i:=2) rfl hbt ho';clear hbt ho';(simp only[List.set_cons_zero,List.set_cons_succ]at M)))
      go_roundg (n2 - (j2+1))
      case measure=>omega
      case rel=>exact⟨j2+1,mt2+1,_,by omega,by go_num,M.drop.drop.drop,Nat.succ_le_succ HB.out,by(have h:=HT.out.snoc p.var;rw[HTK.out]at h;exact h),HS2⟩
     ·have hqb:(q !=0)=true:=by simpa using hq0
      have HV:Hid (ruleE ts x=q):=HS2.out.1 hq0
      replace hq0:=Lib.hid hq0
      go_wp2_with (first|(with_reducible (first|(refine wV M ?_;clear M;intro zp w M)|(refine w_ (q_one M ?_);clear M;intro qi w M)|refine wq M ?_|(refine wS M ?_;clear M;intro w M)|refine wA (HR.out _ M.new) ?_))|(go_at_call 38;with_reducible refine(ptn_call M hX.out E.out hF.out hts.out 2 3 4 0 rfl rfl rfl HK.out hth.out HT.out hC.out hpo.out 1 (by omega) rfl (by with_unfolding_all rfl) (by with_unfolding_all rfl) _ (by with_unfolding_all rfl) hq.out hmt.out (by decide)).mono ?_;rintro e w5 hh;unfold PtnIs at hh;obtain⟨tn,tya,tyn,tyc,he,hbt,m',f',ho',hpp⟩:=hh;subst he;clear hpp;replace M:=M.remap (i:=2) rfl hbt ho';clear hbt ho';(simp only[List.set_cons_zero,List.set_cons_succ]at M)))
      go_ret
      rw[HV.out]
      exact⟨rfl,M.new⟩
    ·have hjn:j2=n2:=by omega
     have HT2:Hid (TakF ft2 (vars x.whens++vars x.nots++vars ((x.manies.take 0).map Many.pat))):=by have h:=HT.out;rw[hjn,N2.out,List.take_length]at h;show TakF _ _;simpa[vars]using h
     have HS2:Hid (Stg ts x (Pre2 ts x) (manyE ts x) 0 0):=stg_next HS.out (fun _ hp hz=>⟨hp,by rw[←N2.out,←hjn];exact hz⟩)
     have hmt5:Hid (mt2≤5+0):=by have:=HB.out;show _≤_;omega
     have hap:Hid (Apart x):=apart_of (HS2.out.2 rfl).1.2
     clear HT HS HB
     go_wp2_with (with_reducible refine wq M ?_)
     go_loopg [111] n3 (fun f i wr=> ∃ (j mt:Nat) (ft:MapF),j+f=n3∧i= .int .i64 j∧Mem (StaysB g w0) g w0 wr ⟨0,0⟩ (mp Tryz.prog 9 zt mt ft::own zs [.slice ao n cap,.map (some zk)] 90::mp Tryz.prog 9 zk mk fk::own za [.string x.name,.slice a1 n1 c1,.slice a2 n2 c2,.slice a3 n3 c3,.slice a4 n4 c4,.string x.etype,.slice a6 n6 c6] 47::[])∧Hid (mt≤5+j)∧Hid (TakF ft (vars x.whens++vars x.nots++vars ((x.manies.take j).map Many.pat)))∧Hid (Stg ts x (Pre2 ts x) (manyE ts x) j 0))
     case atStart=>exact⟨0,mt2,ft2,by omega,rfl,M,hmt5,HT2,HS2⟩
     case round=>
      clear M HT2 HS2 hmt5 hjn
      clear hlt hj
      obtain⟨j3,mt3,ft3,hj,rfl,M,HB,HT,HS⟩:=hrel
      by_cases hlt:j3<n3
      ·have hkl:j3<x.manies.length:=by have:=N3.out;omega
       have HS2:=Lib.hid (stg_many HS.out rfl hkl)
       obtain⟨cp,op,rowp,hixp, -,hrrp,hwp⟩:=SlF.rowAt (P:=Tryz.prog) X3.out manF_firm Tryz.underlying41 size_man (i:=j3) hkl
       obtain⟨p1,q1,s1',ep,u1⟩:=manF.open20 hrrp
       subst ep
       have HR:=Lib.hid (fun wx hb=>(hwp wx hb).1)
       have hpo:=Lib.hid (hok.out.manies _ (List.getElem_mem hkl))
       have hC:=Lib.hid u1
       have hge:x.manies.getD j3 man0=x.manies[j3]:=by rw[List.getD_eq_getElem?_getD,List.getElem?_eq_getElem hkl];rfl
       have HE:Hid (manyE ts x j3=manyP ts x (vars x.whens++vars x.nots++vars ((x.manies.take j3).map Many.pat)) x.manies[j3]):=by show _=_;unfold manyE;rw[hge];rfl
       have hmt:Hid (mt3<maxLen):=by have:=HB.out;show _<_;unfold maxLen;omega
       have HTK:Hid ((vars x.whens++vars x.nots++vars ((x.manies.take j3).map Many.pat))++[x.manies[j3].pat.var]=vars x.whens++vars x.nots++vars ((x.manies.take (j3+1)).map Many.pat)):=by
        show _=_
        rw[List.append_assoc]
        congr 1
        rw[List.map_take,List.map_take,←take_vars (l:=x.manies.map Many.pat) (by simpa using hkl)]
        simp
       have HK:=HK2
       have hC2:Hid (SlF F w0 14 CondF p1 q1 s1' x.manies[j3].pat.wher.subs):=hC
       clear hwp hrrp u1 hge
       generalize x.manies[j3]=m at HR hpo hC hC2 HTK HE
       clear hkl
       rw[HE.out]at HS2
       unfold man20 pat18 at HR
       unfold manyP at HS2
       have hq:Hid (patE ts x.whens (vars x.whens++vars x.nots++vars ((x.manies.take j3).map Many.pat)) m.pat 2=patE ts x.whens (vars x.whens++vars x.nots++vars ((x.manies.take j3).map Many.pat)) m.pat 2):=rfl
       have HSU:Hid (typI ts m.pat.type<ts.length→ ∀ a nn c,SlF F w0 2 (plainF fldC) a nn c (typAt ts m.pat.type).fields→ ∀ wx,Below w0.heap.size w0 wx→Calls Tryz.prog 39 #[.agg #[.string (typAt ts m.pat.type).name,.slice a nn c],.string m.field] wx fun e w' =>e= .returned (.int .i64 (sumE (typAt ts m.pat.type) m.field))∧Below wx.heap.size wx w'):=fun ht a nn c hsl wx hb=>by
        have htt:typAt ts m.pat.type=ts[typI ts m.pat.type]:=by unfold typAt;rw[List.getD_eq_getElem?_getD,List.getElem?_eq_getElem ht];rfl
        exact summed_any (Nat.lt_of_lt_of_le hg.out hb.size) (typAt ts m.pat.type) (hsl.below (plainF_firm _) hb) (by rw[htt];exact hts.out _ (List.getElem_mem ht)) m.field
       have HTH:Hid (∀ q,q=patE ts x.whens (vars x.whens++vars x.nots++vars ((x.manies.take j3).map Many.pat)) m.pat 2→q=0→typI ts m.pat.type<ts.length):=fun q h1 h2=>pat_there (h1.symm.trans h2)
       generalize hqd:patE ts x.whens (vars x.whens++vars x.nots++vars ((x.manies.take j3).map Many.pat)) m.pat 2=qe at HS2
       replace hq:Hid (qe=patE ts x.whens (vars x.whens++vars x.nots++vars ((x.manies.take j3).map Many.pat)) m.pat 2):=hqd.symm
       clear hqd
       generalize sumE (typAt ts m.pat.type) m.field=se at HS2 HSU
       cases hem:emS m.field with
       |true=>
        have hf:m.field.toList=[]:=by simpa[emS]using hem
        by_cases hc:1≤m.count∧m.count≤120
        ·have e1:decide (m.count<1)=false:=by simp;omega
         have e2:decide (120<m.count)=false:=by simp;omega
         have e3:decide (m.count<0)=false:=by simp;omega
         have e4:decide (1125899906842624<m.count)=false:=by simp;omega
         rw[if_neg (by simp only[hem,true_and];omega)]at HS2
         clear hem hc
         by_cases hq0:qe=0
         ·subst hq0
          have HSU2:=Lib.hid (HSU.out (HTH.out _ hq.out rfl))
          rw[if_neg (by simp)]at HS2
          by_cases hs0:se=0
          ·subst hs0
           go_wp2_with (first|(with_reducible (first|(refine wV M ?_;clear M;intro zm w M)|(refine w_ (q_one M ?_);clear M;intro qi w M)|refine wq M ?_|(refine wS M ?_;clear M;intro w M)|refine wA (HR.out _ M.new) ?_))|(go_at_call 38;with_reducible refine(ptn_call M hX.out E.out hF.out hts.out 2 3 4 0 rfl rfl rfl HK.out hth.out HT.out hC.out hpo.out 2 (by omega) rfl (by with_unfolding_all rfl) (by with_unfolding_all rfl) _ (by with_unfolding_all rfl) hq.out hmt.out (by decide)).mono ?_;rintro e w5 hh;unfold PtnIs at hh;obtain⟨tn,tya,tyn,tyc,he,hbt,m',f',ho',hpp⟩:=hh;subst he;obtain⟨rfl,rfl,rfl,hsl⟩:=hpp rfl;have HSL:=Lib.hid hsl;clear hsl hpp;replace M:=M.remap (i:=2) rfl hbt ho';clear hbt ho';(simp only[List.set_cons_zero,List.set_cons_succ]at M))|(go_at_call 39;with_reducible refine(HSU2.out _ _ _ HSL.out _ M.new).mono ?_;rintro e w5 ⟨rfl,hb5⟩;replace M:=M.below hb5;clear hb5))
           go_roundg (n3 - (j3+1))
           case measure=>omega
           case rel=>exact⟨j3+1,mt3+1,_,by omega,by go_num,M.drop.drop.drop,Nat.succ_le_succ HB.out,by(have h:=HT.out.snoc m.pat.var;rw[HTK.out]at h;exact h),HS2⟩
          ·have hqb:(se !=0)=true:=by simpa using hs0
           have HV:Hid (ruleE ts x=se):=HS2.out.1 hs0
           replace hs0:=Lib.hid hs0
           go_wp2_with (first|(with_reducible (first|(refine wV M ?_;clear M;intro zm w M)|(refine w_ (q_one M ?_);clear M;intro qi w M)|refine wq M ?_|(refine wS M ?_;clear M;intro w M)|refine wA (HR.out _ M.new) ?_))|(go_at_call 38;with_reducible refine(ptn_call M hX.out E.out hF.out hts.out 2 3 4 0 rfl rfl rfl HK.out hth.out HT.out hC.out hpo.out 2 (by omega) rfl (by with_unfolding_all rfl) (by with_unfolding_all rfl) _ (by with_unfolding_all rfl) hq.out hmt.out (by decide)).mono ?_;rintro e w5 hh;unfold PtnIs at hh;obtain⟨tn,tya,tyn,tyc,he,hbt,m',f',ho',hpp⟩:=hh;subst he;obtain⟨rfl,rfl,rfl,hsl⟩:=hpp rfl;have HSL:=Lib.hid hsl;clear hsl hpp;replace M:=M.remap (i:=2) rfl hbt ho';clear hbt ho';(simp only[List.set_cons_zero,List.set_cons_succ]at M))|(go_at_call 39;with_reducible refine(HSU2.out _ _ _ HSL.out _ M.new).mono ?_;rintro e w5 ⟨rfl,hb5⟩;replace M:=M.below hb5;clear hb5))
           go_ret
           rw[HV.out]
           exact⟨rfl,M.new⟩
         ·have hqb:(qe !=0)=true:=by simpa using hq0
          rw[if_pos hq0]at HS2
          have HV:Hid (ruleE ts x=qe):=HS2.out.1 hq0
          replace hq0:=Lib.hid hq0
          go_wp2_with (first|(with_reducible (first|(refine wV M ?_;clear M;intro zm w M)|(refine w_ (q_one M ?_);clear M;intro qi w M)|refine wq M ?_|(refine wS M ?_;clear M;intro w M)|refine wA (HR.out _ M.new) ?_))|(go_at_call 38;with_reducible refine(ptn_call M hX.out E.out hF.out hts.out 2 3 4 0 rfl rfl rfl HK.out hth.out HT.out hC.out hpo.out 2 (by omega) rfl (by with_unfolding_all rfl) (by with_unfolding_all rfl) _ (by with_unfolding_all rfl) hq.out hmt.out (by decide)).mono ?_;rintro e w5 hh;unfold PtnIs at hh;obtain⟨tn,tya,tyn,tyc,he,hbt,m',f',ho',hpp⟩:=hh;subst he;clear hpp;replace M:=M.remap (i:=2) rfl hbt ho';clear hbt ho';(simp only[List.set_cons_zero,List.set_cons_succ]at M)))
          go_ret
          rw[HV.out]
          exact⟨rfl,M.new⟩
        ·rw[if_pos (Or.inl ⟨hem,hc⟩)]at HS2
         have HV:Hid (ruleE ts x=2):=HS2.out.1 (by decide)
         by_cases h1:m.count<1
         ·have e1:decide (m.count<1)=true:=by simpa using h1
          clear hem hc h1
          go_wp2_with (with_reducible (first|(refine wV M ?_;clear M;intro zm w M)|refine wq M ?_|(refine wS M ?_;clear M;intro w M)|refine wA (HR.out _ M.new) ?_))
          go_ret
          rw[HV.out]
          exact⟨rfl,M.new⟩
         ·have e1:decide (m.count<1)=false:=by simpa using h1
          have e2:decide (120<m.count)=true:=by simp;omega
          clear hem hc h1
          go_wp2_with (with_reducible (first|(refine wV M ?_;clear M;intro zm w M)|refine wq M ?_|(refine wS M ?_;clear M;intro w M)|refine wA (HR.out _ M.new) ?_))
          go_ret
          rw[HV.out]
          exact⟨rfl,M.new⟩
       |false=>
        have hf:m.field.toList.isEmpty=false:=hem
        by_cases hc:0≤m.count∧m.count≤1125899906842624
        ·have e3:decide (m.count<0)=false:=by simp;omega
         have e4:decide (1125899906842624<m.count)=false:=by simp;omega
         rw[if_neg (by simp only[hem];simp;omega)]at HS2
         clear hem hc
         by_cases hq0:qe=0
         ·subst hq0
          have HSU2:=Lib.hid (HSU.out (HTH.out _ hq.out rfl))
          rw[if_neg (by simp)]at HS2
          by_cases hs0:se=0
          ·subst hs0
           go_wp2_with (first|(with_reducible (first|(refine wV M ?_;clear M;intro zm w M)|(refine w_ (q_one M ?_);clear M;intro qi w M)|refine wq M ?_|(refine wS M ?_;clear M;intro w M)|refine wA (HR.out _ M.new) ?_))|(go_at_call 38;with_reducible refine(ptn_call M hX.out E.out hF.out hts.out 2 3 4 0 rfl rfl rfl HK.out hth.out HT.out hC.out hpo.out 2 (by omega) rfl (by with_unfolding_all rfl) (by with_unfolding_all rfl) _ (by with_unfolding_all rfl) hq.out hmt.out (by decide)).mono ?_;rintro e w5 hh;unfold PtnIs at hh;obtain⟨tn,tya,tyn,tyc,he,hbt,m',f',ho',hpp⟩:=hh;subst he;obtain⟨rfl,rfl,rfl,hsl⟩:=hpp rfl;have HSL:=Lib.hid hsl;clear hsl hpp;replace M:=M.remap (i:=2) rfl hbt ho';clear hbt ho';(simp only[List.set_cons_zero,List.set_cons_succ]at M))|(go_at_call 39;with_reducible refine(HSU2.out _ _ _ HSL.out _ M.new).mono ?_;rintro e w5 ⟨rfl,hb5⟩;replace M:=M.below hb5;clear hb5))
           go_roundg (n3 - (j3+1))
           case measure=>omega
           case rel=>exact⟨j3+1,mt3+1,_,by omega,by go_num,M.drop.drop.drop,Nat.succ_le_succ HB.out,by(have h:=HT.out.snoc m.pat.var;rw[HTK.out]at h;exact h),HS2⟩
          ·have hqb:(se !=0)=true:=by simpa using hs0
           have HV:Hid (ruleE ts x=se):=HS2.out.1 hs0
           replace hs0:=Lib.hid hs0
           go_wp2_with (first|(with_reducible (first|(refine wV M ?_;clear M;intro zm w M)|(refine w_ (q_one M ?_);clear M;intro qi w M)|refine wq M ?_|(refine wS M ?_;clear M;intro w M)|refine wA (HR.out _ M.new) ?_))|(go_at_call 38;with_reducible refine(ptn_call M hX.out E.out hF.out hts.out 2 3 4 0 rfl rfl rfl HK.out hth.out HT.out hC.out hpo.out 2 (by omega) rfl (by with_unfolding_all rfl) (by with_unfolding_all rfl) _ (by with_unfolding_all rfl) hq.out hmt.out (by decide)).mono ?_;rintro e w5 hh;unfold PtnIs at hh;obtain⟨tn,tya,tyn,tyc,he,hbt,m',f',ho',hpp⟩:=hh;subst he;obtain⟨rfl,rfl,rfl,hsl⟩:=hpp rfl;have HSL:=Lib.hid hsl;clear hsl hpp;replace M:=M.remap (i:=2) rfl hbt ho';clear hbt ho';(simp only[List.set_cons_zero,List.set_cons_succ]at M))|(go_at_call 39;with_reducible refine(HSU2.out _ _ _ HSL.out _ M.new).mono ?_;rintro e w5 ⟨rfl,hb5⟩;replace M:=M.below hb5;clear hb5))
           go_ret
           rw[HV.out]
           exact⟨rfl,M.new⟩
         ·have hqb:(qe !=0)=true:=by simpa using hq0
          rw[if_pos hq0]at HS2
          have HV:Hid (ruleE ts x=qe):=HS2.out.1 hq0
          replace hq0:=Lib.hid hq0
          go_wp2_with (first|(with_reducible (first|(refine wV M ?_;clear M;intro zm w M)|(refine w_ (q_one M ?_);clear M;intro qi w M)|refine wq M ?_|(refine wS M ?_;clear M;intro w M)|refine wA (HR.out _ M.new) ?_))|(go_at_call 38;with_reducible refine(ptn_call M hX.out E.out hF.out hts.out 2 3 4 0 rfl rfl rfl HK.out hth.out HT.out hC.out hpo.out 2 (by omega) rfl (by with_unfolding_all rfl) (by with_unfolding_all rfl) _ (by with_unfolding_all rfl) hq.out hmt.out (by decide)).mono ?_;rintro e w5 hh;unfold PtnIs at hh;obtain⟨tn,tya,tyn,tyc,he,hbt,m',f',ho',hpp⟩:=hh;subst he;clear hpp;replace M:=M.remap (i:=2) rfl hbt ho';clear hbt ho';(simp only[List.set_cons_zero,List.set_cons_succ]at M)))
          go_ret
          rw[HV.out]
          exact⟨rfl,M.new⟩
        ·rw[if_pos (Or.inr hc)]at HS2
         have HV:Hid (ruleE ts x=2):=HS2.out.1 (by decide)
         by_cases h1:m.count<0
         ·have e1:decide (m.count<0)=true:=by simpa using h1
          clear hem hc h1
          go_wp2_with (with_reducible (first|(refine wV M ?_;clear M;intro zm w M)|refine wq M ?_|(refine wS M ?_;clear M;intro w M)|refine wA (HR.out _ M.new) ?_))
          go_ret
          rw[HV.out]
          exact⟨rfl,M.new⟩
         ·have e1:decide (m.count<0)=false:=by simpa using h1
          have e2:decide (1125899906842624<m.count)=true:=by simp;omega
          clear hem hc h1
          go_wp2_with (with_reducible (first|(refine wV M ?_;clear M;intro zm w M)|refine wq M ?_|(refine wS M ?_;clear M;intro w M)|refine wA (HR.out _ M.new) ?_))
          go_ret
          rw[HV.out]
          exact⟨rfl,M.new⟩
      ·have hjn:j3=n3:=by omega
       have HS2:Hid (Stg ts x (Pre3 ts x) (lnkE x) 0 0):=stg_next HS.out (fun _ hp hz=>⟨hp,by rw[←N3.out,←hjn];exact hz⟩)
       clear HT HS HB
       go_wp2_with (with_reducible refine wq M ?_)
       go_loopg [161] n4 (fun f i wr=> ∃ (j:Nat),j+f=n4∧i= .int .i64 j∧Mem (StaysB g w0) g w0 wr ⟨0,0⟩ (mp Tryz.prog 9 zt mt3 ft3::own zs [.slice ao n cap,.map (some zk)] 90::mp Tryz.prog 9 zk mk fk::own za [.string x.name,.slice a1 n1 c1,.slice a2 n2 c2,.slice a3 n3 c3,.slice a4 n4 c4,.string x.etype,.slice a6 n6 c6] 47::[])∧Hid (Stg ts x (Pre3 ts x) (lnkE x) j 0))
       case atStart=>exact⟨0,by omega,rfl,M,HS2⟩
       case round=>
        clear M HS2 hjn
        clear hlt hj
        obtain⟨j4,hj,rfl,M,HS⟩:=hrel
        by_cases hlt:j4<n4
        ·have hkl:j4<x.links.length:=by have:=N4.out;omega
         have HS2:=Lib.hid (stg_link HS.out rfl hkl)
         obtain⟨cp,op,rowp,hixp, -,hrrp,hwp⟩:=SlF.rowAt (P:=Tryz.prog) X4.out lnkF_firm Tryz.underlying42 size_lnk (i:=j4) hkl
         obtain⟨p1,q1,s1',ep,u1⟩:=hrrp
         subst ep
         have HR:=Lib.hid (fun wx hb=>(hwp wx hb).1)
         have HC:Hid (∀ wx,Below w0.heap.size w0 wx→Calls Tryz.prog 40 #[.agg (rulC x (.slice a1 n1 c1) (.slice a2 n2 c2) (.slice a3 n3 c3) (.slice a4 n4 c4) (.slice a6 n6 c6)).toArray,.agg (lnkC x.links[j4] p1 q1 s1').toArray] wx fun e w' =>e= .returned (.int .i64 (lnkE x j4))∧Below wx.heap.size wx w'):=fun wx hb=>by
          have hE:lnkE x j4=linkE x x.links[j4]:=by unfold lnkE;rw[List.getD_eq_getElem?_getD,List.getElem?_eq_getElem hkl];rfl
          rw[hE]
          exact link_any (Nat.lt_of_lt_of_le hg.out hb.size) x _ (rulF_firm _ _ _ _ _ _ (Same.below hb) h'.out) x.links[j4] p1 q1 s1' (u1.below (plainF_firm _) hb) hap.out
         clear hwp u1
         unfold lnkC at HR HC
         unfold rulC at HC
         generalize x.links[j4]=p at HR HC
         clear hkl
         generalize lnkE x j4=q at HC HS2
         by_cases hq0:q=0
         ·subst hq0
          go_wp2_with (first|(with_reducible (first|(refine wV M ?_;clear M;intro zl w M)|refine wq M ?_|(refine wS M ?_;clear M;intro w M)|refine wA (HR.out _ M.new) ?_))|(go_at_call 40;with_reducible refine(HC.out _ M.new).mono ?_;rintro e w5 ⟨rfl,hb5⟩;replace M:=M.below hb5;clear hb5))
          go_roundg (n4 - (j4+1))
          case measure=>omega
          case rel=>exact⟨j4+1,by omega,by go_num,M.drop,HS2⟩
         ·have hqb:(q !=0)=true:=by simpa using hq0
          have HV:Hid (ruleE ts x=q):=HS2.out.1 hq0
          replace hq0:=Lib.hid hq0
          go_wp2_with (first|(with_reducible (first|(refine wV M ?_;clear M;intro zl w M)|refine wq M ?_|(refine wS M ?_;clear M;intro w M)|refine wA (HR.out _ M.new) ?_))|(go_at_call 40;with_reducible refine(HC.out _ M.new).mono ?_;rintro e w5 ⟨rfl,hb5⟩;replace M:=M.below hb5;clear hb5))
          go_ret
          rw[HV.out]
          exact⟨rfl,M.new⟩
        ·have hjn:j4=n4:=by omega
         have hpre:Pre4 ts x:=⟨(HS.out.2 rfl).1,by rw[←N4.out,←hjn];exact(HS.out.2 rfl).2⟩
         have HV:Hid (ruleE ts x=emitE ts x):=ruleE_end hpre
         have HEM:Hid (∀ wx,Below w0.heap.size w0 wx→Scope F wx zs zk mk fk ts x.whens ao n cap→Calls Tryz.prog 41 #[.pointer (some ⟨zs,0,none⟩),.agg #[.string x.etype,.slice a6 n6 c6]] wx fun e w' =>e= .returned (.int .i64 (emitE ts x))∧Below wx.heap.size wx w'):=fun wx hb hS=>
          emit_any (Nat.lt_of_lt_of_le hg.out hb.size) x hS hts.out (X6.out.below opdF_firm hb) hok.out.evals
         clear hpre HS
         go_wp2_with (first|(with_reducible refine wq M ?_)|(go_at_call 41;with_reducible refine(HEM.out _ M.new (scope_of M hX.out (i2:=1) (i3:=2) rfl rfl HK2.out hth.out)).mono ?_;rintro e w5 ⟨rfl,hb5⟩;replace M:=M.below hb5;clear hb5))
         go_ret
         rw[HV.out]
         exact⟨rfl,M.new⟩
theorem rule_any(hg:g<w0.heap.size)(hX:SlF F w0 2 typF ao n cap ts)(E:Env F w0)(hF: ∀ b,F b→b<w0.heap.size)(hts: ∀ t∈ts,TypGood t)(x:Rul)(row:List Value)(h:rulF F w0 row x)(hok:RulFit x):Calls Tryz.prog 20 #[.slice ao n cap,.agg row.toArray] w0 fun e w' =>e= .returned (.int .i64 (ruleE ts x))∧Below w0.heap.size w0 w' :=by
 by_cases h0:freeE x.name=0
 ·cases h1:sizeB x with
  |true=>exact rule_size hg hX E hF hts x row h hok h0 h1
  |false=>exact rule_main hg hX E hF hts x row h hok h0 h1
 ·exact rule_name hg hX E hF hts x row h hok h0
end
end Go.Proofs.YtncmghnhfipklaaGreatDoor
