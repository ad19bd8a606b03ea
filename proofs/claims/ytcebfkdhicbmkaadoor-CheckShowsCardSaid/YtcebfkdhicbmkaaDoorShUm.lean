/-
  A writer of tokens: a rule. Printed by shu.py.
-/
import Derived.Test.YtcebfkdhicbmkaaDoorShZR
namespace Go.Proofs.YtcebfkdhicbmkaaDoor
open Go.RowKit
set_option linter.unusedVariables false
set_option linter.unusedSimpArgs false
section
variable {F:Nat→Prop} {g zw:Nat} {u w0:World} {Kt:List Ent} {toks:List Tkn} {lv:Value} {x:Rul} {b1 b2 b3 b4 b6:Option Addr} {m1 e1 m2 e2 m3 e3 m4 e4 m6 e6:Nat}
theorem data_inj2{a b:ByteArray}(h:a.data=b.data):a=b:=by
 cases a;cases b;cases h;rfl
theorem take_cat_le{α:Type}{f:Nat→α→List Tkn}{l:List α}{K n j:Nat}(h: ∀ i x,x∈l→(f i x).length≤K)(hn:l.length≤n):(shCat f (l.take j)).length≤n*K:=
 Nat.le_trans (shCat_le (fun i x hx=>h i x (List.mem_of_mem_take hx))) (Nat.mul_le_mul_right _ (by rw[List.length_take];omega))
set_option maxRecDepth 8000 in
set_option maxHeartbeats 16000000 in
theorem wrule_any(hx:RulSh x)(Y1:SlF F u 18 patF b1 m1 e1 x.whens)(Y2:SlF F u 18 patF b2 m2 e2 x.nots)(Y3:SlF F u 20 manF b3 m3 e3 x.manies)(Y4:SlF F u 3 lnkF b4 m4 e4 x.links)(Y6:SlF F u 6 opdF b6 m6 e6 x.evals)
  (hR:SlF (under u.heap.size) u 1 wordF (some ⟨2,0,none⟩) 14 14 relsL)(hb:toks.length≤80000)(M:Mem (StaysB g u) g u w0 ⟨0,0⟩ (own zw [lv] 35::slc u.heap.size 56 3 tknF lv toks::Kt)):
  Calls Tryd.prog 9 #[.pointer (some ⟨zw,0,none⟩),.agg #[.string x.name,.slice b1 m1 e1,.slice b2 m2 e2,.slice b3 m3 e3,.slice b4 m4 e4,.string x.etype,.slice b6 m6 e6]] w0 (WrP g zw u Kt (toks++shRule x)):=by
 have HB:=Lib.hid hb
 have HX:=Lib.hid hx
 have H3:Hid (0<(⟨#[114,117,108,101]⟩:ByteArray).size∧0<x.name.size∧0<(⟨#[123]⟩:ByteArray).size):=⟨by decide,hx.name.pos,by decide⟩
 have hb3:Hid (toks.length+3≤100000):=by show _≤_;omega
 have HY1:=Lib.hid Y1
 have HY2:=Lib.hid Y2
 have HY3:=Lib.hid Y3
 have HY4:=Lib.hid Y4
 have HY6:=Lib.hid Y6
 have HRR:=Lib.hid hR
 have hl1:=Y1.le
 have hl2:=Y2.le
 have hl3:=Y3.le
 have hl4:=Y4.le
 have hl6:=Y6.le
 have N1:Hid (m1=x.whens.length):=Y1.len
 have N2:Hid (m2=x.nots.length):=Y2.len
 have N3:Hid (m3=x.manies.length):=Y3.len
 have N4:Hid (m4=x.links.length):=Y4.len
 have N6:Hid (m6=x.evals.length):=Y6.len
 have HZW:Hid (0<(⟨#[119,104,101,110]⟩:ByteArray).size):=Lib.hid (by decide)
 have HZS:Hid (0<(⟨#[59]⟩:ByteArray).size):=Lib.hid (by decide)
 have HZN:Hid (0<(⟨#[110,111,116]⟩:ByteArray).size):=Lib.hid (by decide)
 have HZM:Hid (0<(⟨#[109,97,110,121]⟩:ByteArray).size):=Lib.hid (by decide)
 have HZI:Hid (0<(⟨#[119,105,116,104,105,110]⟩:ByteArray).size):=Lib.hid (by decide)
 have HZO:Hid (0<(⟨#[111,114]⟩:ByteArray).size):=Lib.hid (by decide)
 have HZC:Hid (0<(⟨#[44]⟩:ByteArray).size):=Lib.hid (by decide)
 have HZB:Hid (0<(⟨#[125]⟩:ByteArray).size):=Lib.hid (by decide)
 clear hx Y1 Y2 Y3 Y4 Y6 hR hb
 obtain⟨T0,hT0⟩: ∃ T0,T0=toks++[wordT ⟨#[114,117,108,101]⟩,wordT x.name,wordT ⟨#[123]⟩]:=⟨_,rfl⟩
 have HT0:=Lib.hid hT0
 have hT0l:T0.length=toks.length+3:=by rw[hT0];simp
 have HT0L:Hid (T0.length≤80003):=by show _≤_;have:=HB.out;omega
 clear hT0l
 go_enter Tryd.func9,Tryd.ntmps9
 go_wp2_with (first|(with_reducible (first|(refine wB M ?_;clear M;intro zb w1 M)|refine wq M ?_|(refine wS M ?_;clear M;intro w M)|(refine wV M ?_;clear M;intro z w M)|(refine wR M ?_;clear M;intro q w M)|(refine w_ (q_rowv1 M ?_);clear M;intro q w M)|(refine w_ (q_rowv2 M ?_);clear M;intro q w M)|(refine w_ (q_rowv3 M ?_);clear M;intro q w M)))|(go_at_call 8;with_reducible refine(puF3 _ _ _ H3.out _ hb3.out M.f2).mono ?_;rintro e w5 ⟨rfl,lv5,M⟩;replace M:=M.b1))
 rw[←hT0]at M
 clear hT0
 go_loopg [24] m1 (fun fu i wr=> ∃ (j:Nat) (lv:Value) (ts:List Tkn),j+fu=m1∧i= .int .i64 j∧Mem (StaysB g u) g u wr ⟨0,0⟩ (own zb [.string x.name,.slice b1 m1 e1,.slice b2 m2 e2,.slice b3 m3 e3,.slice b4 m4 e4,.string x.etype,.slice b6 m6 e6] 50::own zw [lv] 35::slc u.heap.size 56 3 tknF lv ts::Kt)∧Hid (ts=T0++shCat whenT (x.whens.take j)))
 case atStart=>exact⟨0,_,T0,by omega,rfl,M,Lib.hid (by simp[shCat_nil])⟩
 case round=>
  clear M
  obtain⟨j,lv,ts,hj,rfl,M,HT⟩:=hrel
  by_cases hlt:j<m1
  ·have hjl:j<x.whens.length:=by have:=N1.out;omega
   obtain⟨cp,op,rowp,hixp, -,hrrp,hwp⟩:=SlF.rowAt (P:=Tryd.prog) HY1.out patF_firm Tryd.underlying43 size_pat (i:=j) hjl
   obtain⟨a2,n2,c2,ep,hS2⟩:=patF.open18 hrrp
   subst ep
   have HRP:=Lib.hid (fun wx hb=>(hwp wx hb).1)
   obtain⟨TN,hTN⟩: ∃ TN,TN=T0++shCat whenT (x.whens.take (j+1)):=⟨_,rfl⟩
   have HTN:=Lib.hid hTN
   have HTS:Hid (TN=ts++whenT j x.whens[j]):=by show _=_;rw[hTN,shCat_snoc hjl,HT.out,List.append_assoc]
   clear hTN
   have hcl:=take_cat_le (f:=whenT) (l:=x.whens) (K:=1010) (n:=3) (j:=j) (fun i p hp=>whenT_le (HX.out.whens p hp).2.1) HX.out.nW
   have htl:=congrArg List.length HT.out
   rw[List.length_append]at htl
   have hts:ts.length≤84000:=by have:=HT0L.out;omega
   obtain⟨hps,hpl,hw0,hw2,hn⟩:=HX.out.whens _ (List.getElem_mem hjl)
   have HT1:Hid (∀ wx Kt lv,Mem (StaysB g u) g u wx ⟨0,0⟩ (own zw [lv] 35::slc u.heap.size 56 3 tknF lv (ts++[wordT ⟨#[119,104,101,110]⟩])::Kt)→Calls Tryd.prog 18 #[.pointer (some ⟨zw,0,none⟩),.agg (pat18 x.whens[j] a2 n2 c2).toArray] wx (WrP g zw u Kt (ts++[wordT ⟨#[119,104,101,110]⟩]++shPat x.whens[j]))):=fun wx Kt lv M2=>
    wpattern_any x.whens[j] hps hS2 (by simp;omega) M2
   have hbA:Hid (ts.length+1≤100000):=by show _≤_;omega
   have hbB:Hid ((ts++[wordT ⟨#[119,104,101,110]⟩]++shPat x.whens[j]).length+2≤100000):=by show _≤_;simp;omega
   have hbB1:Hid ((ts++[wordT ⟨#[119,104,101,110]⟩]++shPat x.whens[j]).length+1≤100000):=by show _≤_;simp;omega
   have hbC:Hid ((ts++[wordT ⟨#[119,104,101,110]⟩]++shPat x.whens[j]++[wordT ⟨#[111,118,101,114]⟩,wordT (winW x.whens[j].window)]).length+2≤100000):=by show _≤_;simp;omega
   have hbD:Hid ((ts++[wordT ⟨#[119,104,101,110]⟩]++shPat x.whens[j]++[wordT ⟨#[111,118,101,114]⟩,wordT (winW x.whens[j].window)]++shNum x.whens[j].n).length+1≤100000):=by show _≤_;have:=shNum_le x.whens[j].n;simp;omega
   have HN:=Lib.hid hn
   clear hcl htl hts hps hpl hrrp hwp hS2 HT hn
   unfold whenT at HTS
   unfold pat18 at HRP HT1
   generalize shPat x.whens[j]=tp at HT1 HTS hbB hbB1 hbC hbD
   generalize x.whens[j]=p at HRP HT1 HTS hbC hbD hw0 hw2 HN
   clear hjl
   by_cases hw:p.window=0
   ·rw[if_pos hw,List.append_nil]at HTS
    rw[hw]at HRP HT1
    clear hw hw0 hw2 hbB hbC hbD HN
    go_wp2_with (first|(with_reducible (first|(refine wV M ?_;clear M;intro zx w M)|refine wq M ?_|(refine wS M ?_;clear M;intro w M)|(refine wV M ?_;clear M;intro z w M)|(refine wR M ?_;clear M;intro q w M)|(refine w_ (q_rowv1 M ?_);clear M;intro q w M)|(refine w_ (q_rowv2 M ?_);clear M;intro q w M)|(refine w_ (q_rowv3 M ?_);clear M;intro q w M)|refine wA (HRP.out _ M.new) ?_))|((with_reducible refine o_list rfl fun K hK=>?_);refine q_in M (by rfl) (by rfl) (by rfl) ?_;clear M;intro w M;(try simp only[List.set_cons_zero,List.set_cons_succ,laid,opdC,List.take_succ_cons,List.take_zero,List.drop_succ_cons,List.drop_zero,List.length_cons,List.length_nil,List.cons_append,List.nil_append,Nat.reduceAdd,Nat.zero_add]at M);refine hK _ _ ?_;clear hK K)|(go_at_call 8;with_reducible refine(puF1 ⟨#[119,104,101,110]⟩ HZW.out _ hbA.out M.f3).mono ?_;rintro e w5 ⟨rfl,lv5,M⟩;replace M:=M.b2)|(go_at_call 18;with_reducible refine(HT1.out _ _ _ M.f2).mono ?_;rintro e w5 ⟨rfl,lv5,M⟩;replace M:=M.b2)|(go_at_call 8;with_reducible refine(puF1 ⟨#[59]⟩ HZS.out _ hbB1.out M.f3).mono ?_;rintro e w5 ⟨rfl,lv5,M⟩;replace M:=M.b2))
    go_roundg (m1 - (j+1))
    case measure=>omega
    case rel=>exact⟨j+1,_,_,by omega,by go_num,M.drop,Lib.hid (by rw[←HTN.out,HTS.out];(try simp only[List.append_assoc]))⟩
   ·rw[if_neg hw]at HTS
    obtain⟨nt,hnt⟩: ∃ nt,shNum p.n=nt:=⟨_,rfl⟩
    have hww:p.window=1∨p.window=2:=by omega
    have hwb:(p.window !=0)=true:=by simpa using hw
    clear hw hw0 hw2 hnt hbB1
    rcases hww with hw|hw
    ·have ew:winW p.window=⟨#[116,105,109,101]⟩:=by rw[hw];rfl
     have ix: ∀ w,(Instr.index 42 (.agg #[.string ⟨#[]⟩,.string ⟨#[116,105,109,101]⟩,.string ⟨#[108,97,115,116]⟩]) (.int .i64 1)).run Tryd.prog w= .ok (.string ⟨#[116,105,109,101]⟩) w:=fun _=>by kernel_rfl
     have HO2:Hid (0<(⟨#[111,118,101,114]⟩:ByteArray).size∧0<(⟨#[116,105,109,101]⟩:ByteArray).size):=⟨by decide,by decide⟩
     rw[ew]at HTS hbC hbD
     rw[hw]at HRP HT1
     clear hw hwb ew
     go_wp2_with (first|(with_reducible (first|(refine wV M ?_;clear M;intro zx w M)|refine wq M ?_|(refine wS M ?_;clear M;intro w M)|(refine wV M ?_;clear M;intro z w M)|(refine wR M ?_;clear M;intro q w M)|(refine w_ (q_rowv1 M ?_);clear M;intro q w M)|(refine w_ (q_rowv2 M ?_);clear M;intro q w M)|(refine w_ (q_rowv3 M ?_);clear M;intro q w M)|refine wA (HRP.out _ M.new) ?_))|((with_reducible refine o_list rfl fun K hK=>?_);refine q_in M (by rfl) (by rfl) (by rfl) ?_;clear M;intro w M;(try simp only[List.set_cons_zero,List.set_cons_succ,laid,opdC,List.take_succ_cons,List.take_zero,List.drop_succ_cons,List.drop_zero,List.length_cons,List.length_nil,List.cons_append,List.nil_append,Nat.reduceAdd,Nat.zero_add]at M);refine hK _ _ ?_;clear hK K)|(go_at_call 8;with_reducible refine(puF1 ⟨#[119,104,101,110]⟩ HZW.out _ hbA.out M.f3).mono ?_;rintro e w5 ⟨rfl,lv5,M⟩;replace M:=M.b2)|(go_at_call 18;with_reducible refine(HT1.out _ _ _ M.f2).mono ?_;rintro e w5 ⟨rfl,lv5,M⟩;replace M:=M.b2)|(go_at_call 8;with_reducible refine(puF2 _ _ HO2.out _ hbB.out M.f3).mono ?_;rintro e w5 ⟨rfl,lv5,M⟩;replace M:=M.b2)|(go_at_call 19;with_reducible refine(number_any _ HN.out hbC.out M.f2).mono ?_;rintro e w5 ⟨rfl,lv5,M⟩;replace M:=M.b2)|(go_at_call 8;with_reducible refine(puF1 ⟨#[59]⟩ HZS.out _ hbD.out M.f3).mono ?_;rintro e w5 ⟨rfl,lv5,M⟩;replace M:=M.b2))
     go_roundg (m1 - (j+1))
     case measure=>omega
     case rel=>exact⟨j+1,_,_,by omega,by go_num,M.drop,Lib.hid (by rw[←HTN.out,HTS.out];(try simp only[List.append_assoc]))⟩
    ·have ew:winW p.window=⟨#[108,97,115,116]⟩:=by rw[hw];rfl
     have ix: ∀ w,(Instr.index 42 (.agg #[.string ⟨#[]⟩,.string ⟨#[116,105,109,101]⟩,.string ⟨#[108,97,115,116]⟩]) (.int .i64 2)).run Tryd.prog w= .ok (.string ⟨#[108,97,115,116]⟩) w:=fun _=>by kernel_rfl
     have HO2:Hid (0<(⟨#[111,118,101,114]⟩:ByteArray).size∧0<(⟨#[108,97,115,116]⟩:ByteArray).size):=⟨by decide,by decide⟩
     rw[ew]at HTS hbC hbD
     rw[hw]at HRP HT1
     clear hw hwb ew
     go_wp2_with (first|(with_reducible (first|(refine wV M ?_;clear M;intro zx w M)|refine wq M ?_|(refine wS M ?_;clear M;intro w M)|(refine wV M ?_;clear M;intro z w M)|(refine wR M ?_;clear M;intro q w M)|(refine w_ (q_rowv1 M ?_);clear M;intro q w M)|(refine w_ (q_rowv2 M ?_);clear M;intro q w M)|(refine w_ (q_rowv3 M ?_);clear M;intro q w M)|refine wA (HRP.out _ M.new) ?_))|((with_reducible refine o_list rfl fun K hK=>?_);refine q_in M (by rfl) (by rfl) (by rfl) ?_;clear M;intro w M;(try simp only[List.set_cons_zero,List.set_cons_succ,laid,opdC,List.take_succ_cons,List.take_zero,List.drop_succ_cons,List.drop_zero,List.length_cons,List.length_nil,List.cons_append,List.nil_append,Nat.reduceAdd,Nat.zero_add]at M);refine hK _ _ ?_;clear hK K)|(go_at_call 8;with_reducible refine(puF1 ⟨#[119,104,101,110]⟩ HZW.out _ hbA.out M.f3).mono ?_;rintro e w5 ⟨rfl,lv5,M⟩;replace M:=M.b2)|(go_at_call 18;with_reducible refine(HT1.out _ _ _ M.f2).mono ?_;rintro e w5 ⟨rfl,lv5,M⟩;replace M:=M.b2)|(go_at_call 8;with_reducible refine(puF2 _ _ HO2.out _ hbB.out M.f3).mono ?_;rintro e w5 ⟨rfl,lv5,M⟩;replace M:=M.b2)|(go_at_call 19;with_reducible refine(number_any _ HN.out hbC.out M.f2).mono ?_;rintro e w5 ⟨rfl,lv5,M⟩;replace M:=M.b2)|(go_at_call 8;with_reducible refine(puF1 ⟨#[59]⟩ HZS.out _ hbD.out M.f3).mono ?_;rintro e w5 ⟨rfl,lv5,M⟩;replace M:=M.b2))
     go_roundg (m1 - (j+1))
     case measure=>omega
     case rel=>exact⟨j+1,_,_,by omega,by go_num,M.drop,Lib.hid (by rw[←HTN.out,HTS.out];(try simp only[List.append_assoc]))⟩
  ·have hte:ts=T0++shCat whenT x.whens:=by rw[HT.out,List.take_of_length_le (by have:=N1.out;omega)]
   have HT1:Hid (ts=T0++shCat whenT x.whens):=hte
   have HT1L:Hid (ts.length≤83100):=by
    show _≤_
    have h1:=take_cat_le (f:=whenT) (l:=x.whens) (K:=1010) (n:=3) (j:=x.whens.length) (fun i p hp=>whenT_le (HX.out.whens p hp).2.1) HX.out.nW
    rw[List.take_length]at h1
    have:=HT0L.out
    rw[hte,List.length_append]
    omega
   clear HT hte
   obtain⟨T1,rfl⟩: ∃ T1,T1=ts:=⟨_,rfl⟩
   go_wp2_with (first|(with_reducible (first|refine wq M ?_|(refine wS M ?_;clear M;intro w M)|(refine wV M ?_;clear M;intro z w M)|(refine wR M ?_;clear M;intro q w M))))
   go_loopg [55] m2 (fun fu i wr=> ∃ (j:Nat) (lv:Value) (ts:List Tkn),j+fu=m2∧i= .int .i64 j∧Mem (StaysB g u) g u wr ⟨0,0⟩ (own zb [.string x.name,.slice b1 m1 e1,.slice b2 m2 e2,.slice b3 m3 e3,.slice b4 m4 e4,.string x.etype,.slice b6 m6 e6] 50::own zw [lv] 35::slc u.heap.size 56 3 tknF lv ts::Kt)∧Hid (ts=T1++shCat notT (x.nots.take j)))
   case atStart=>exact⟨0,_,T1,by omega,rfl,M,Lib.hid (by simp[shCat_nil])⟩
   case round=>
    clear M
    obtain⟨j,lv,ts,hj,rfl,M,HT⟩:=hrel
    by_cases hlt:j<m2
    ·have hjl:j<x.nots.length:=by have:=N2.out;omega
     obtain⟨cp,op,rowp,hixp, -,hrrp,hwp⟩:=SlF.rowAt (P:=Tryd.prog) HY2.out patF_firm Tryd.underlying43 size_pat (i:=j) hjl
     obtain⟨a2,n2,c2,ep,hS2⟩:=patF.open18 hrrp
     subst ep
     have HRP:=Lib.hid (fun wx hb=>(hwp wx hb).1)
     obtain⟨TN,hTN⟩: ∃ TN,TN=T1++shCat notT (x.nots.take (j+1)):=⟨_,rfl⟩
     have HTN:=Lib.hid hTN
     have HTS:Hid (TN=ts++notT j x.nots[j]):=by show _=_;rw[hTN,shCat_snoc hjl,HT.out,List.append_assoc]
     clear hTN
     have hcl:=take_cat_le (f:=notT) (l:=x.nots) (K:=1010) (n:=2) (j:=j) (fun i p hp=>notT_le (HX.out.nots p hp).2) HX.out.nN
     have htl:=congrArg List.length HT.out
     rw[List.length_append]at htl
     have hts:ts.length≤86000:=by have:=HT1L.out;omega
     obtain⟨hps,hpl⟩:=HX.out.nots _ (List.getElem_mem hjl)
     have HTP:Hid (∀ wx Kt lv,Mem (StaysB g u) g u wx ⟨0,0⟩ (own zw [lv] 35::slc u.heap.size 56 3 tknF lv (ts++[wordT ⟨#[110,111,116]⟩])::Kt)→Calls Tryd.prog 18 #[.pointer (some ⟨zw,0,none⟩),.agg (pat18 x.nots[j] a2 n2 c2).toArray] wx (WrP g zw u Kt (ts++[wordT ⟨#[110,111,116]⟩]++shPat x.nots[j]))):=fun wx Kt lv M2=>
      wpattern_any x.nots[j] hps hS2 (by simp;omega) M2
     have hbA:Hid (ts.length+1≤100000):=by show _≤_;omega
     have hbB1:Hid ((ts++[wordT ⟨#[110,111,116]⟩]++shPat x.nots[j]).length+1≤100000):=by show _≤_;simp;omega
     clear hcl htl hts hps hpl hrrp hwp hS2 HT
     unfold notT at HTS
     unfold pat18 at HRP HTP
     generalize shPat x.nots[j]=tp at HTP HTS hbB1
     generalize x.nots[j]=p at HRP HTP
     clear hjl
     go_wp2_with (first|(with_reducible (first|(refine wV M ?_;clear M;intro zx w M)|refine wq M ?_|(refine wS M ?_;clear M;intro w M)|(refine wV M ?_;clear M;intro z w M)|(refine wR M ?_;clear M;intro q w M)|(refine w_ (q_rowv1 M ?_);clear M;intro q w M)|(refine w_ (q_rowv2 M ?_);clear M;intro q w M)|(refine w_ (q_rowv3 M ?_);clear M;intro q w M)|refine wA (HRP.out _ M.new) ?_))|((with_reducible refine o_list rfl fun K hK=>?_);refine q_in M (by rfl) (by rfl) (by rfl) ?_;clear M;intro w M;(try simp only[List.set_cons_zero,List.set_cons_succ,laid,opdC,List.take_succ_cons,List.take_zero,List.drop_succ_cons,List.drop_zero,List.length_cons,List.length_nil,List.cons_append,List.nil_append,Nat.reduceAdd,Nat.zero_add]at M);refine hK _ _ ?_;clear hK K)|(go_at_call 8;with_reducible refine(puF1 ⟨#[110,111,116]⟩ HZN.out _ hbA.out M.f3).mono ?_;rintro e w5 ⟨rfl,lv5,M⟩;replace M:=M.b2)|(go_at_call 18;with_reducible refine(HTP.out _ _ _ M.f2).mono ?_;rintro e w5 ⟨rfl,lv5,M⟩;replace M:=M.b2)|(go_at_call 8;with_reducible refine(puF1 ⟨#[59]⟩ HZS.out _ hbB1.out M.f3).mono ?_;rintro e w5 ⟨rfl,lv5,M⟩;replace M:=M.b2))
     go_roundg (m2 - (j+1))
     case measure=>omega
     case rel=>exact⟨j+1,_,_,by omega,by go_num,M.drop,Lib.hid (by rw[←HTN.out,HTS.out];(try simp only[List.append_assoc]))⟩
    ·have hte:ts=T1++shCat notT x.nots:=by rw[HT.out,List.take_of_length_le (by have:=N2.out;omega)]
     have HT2:=Lib.hid hte
     have HT2L:Hid (ts.length≤85200):=by
      show _≤_
      have h1:=take_cat_le (f:=notT) (l:=x.nots) (K:=1010) (n:=2) (j:=x.nots.length) (fun i p hp=>notT_le (HX.out.nots p hp).2) HX.out.nN
      rw[List.take_length]at h1
      have:=HT1L.out
      rw[hte,List.length_append]
      omega
     clear hte HT
     obtain⟨T2,rfl⟩: ∃ T2,T2=ts:=⟨_,rfl⟩
     go_wp2_with (first|(with_reducible (first|refine wq M ?_|(refine wS M ?_;clear M;intro w M)|(refine wV M ?_;clear M;intro z w M)|(refine wR M ?_;clear M;intro q w M))))
     go_loopg [72] m3 (fun fu i wr=> ∃ (j:Nat) (lv:Value) (ts:List Tkn),j+fu=m3∧i= .int .i64 j∧Mem (StaysB g u) g u wr ⟨0,0⟩ (own zb [.string x.name,.slice b1 m1 e1,.slice b2 m2 e2,.slice b3 m3 e3,.slice b4 m4 e4,.string x.etype,.slice b6 m6 e6] 50::own zw [lv] 35::slc u.heap.size 56 3 tknF lv ts::Kt)∧Hid (ts=T2++shCat manyT (x.manies.take j)))
     case atStart=>exact⟨0,_,T2,by omega,rfl,M,Lib.hid (by simp[shCat_nil])⟩
     case round=>
      clear M
      obtain⟨j,lv,ts,hj,rfl,M,HT⟩:=hrel
      by_cases hlt:j<m3
      ·have hjl:j<x.manies.length:=by have:=N3.out;omega
       obtain⟨cp,op,rowp,hixp, -,hrrp,hwp⟩:=SlF.rowAt (P:=Tryd.prog) HY3.out manF_firm Tryd.underlying44 size_man (i:=j) hjl
       obtain⟨a2,n2,c2,ep,hS2⟩:=hrrp
       subst ep
       have HRP:=Lib.hid (fun wx hb=>(hwp wx hb).1)
       obtain⟨TN,hTN⟩: ∃ TN,TN=T2++shCat manyT (x.manies.take (j+1)):=⟨_,rfl⟩
       have HTN:=Lib.hid hTN
       have HTS:Hid (TN=ts++manyT j x.manies[j]):=by show _=_;rw[hTN,shCat_snoc hjl,HT.out,List.append_assoc]
       clear hTN
       have hcl:=take_cat_le (f:=manyT) (l:=x.manies) (K:=1010) (n:=2) (j:=j) (fun i p hp=>manyT_le (HX.out.manies p hp).2.1) HX.out.nM
       have htl:=congrArg List.length HT.out
       rw[List.length_append]at htl
       have hts:ts.length≤88000:=by have:=HT2L.out;omega
       obtain⟨hps,hpl,hn0,hn1,hc0,hc1⟩:=HX.out.manies _ (List.getElem_mem hjl)
       have HNC:Hid (-4611686018427387904≤x.manies[j].count∧x.manies[j].count≤4611686018427387904):=⟨hc0,hc1⟩
       have HNN:Hid (-4611686018427387904≤x.manies[j].pat.n∧x.manies[j].pat.n≤4611686018427387904):=⟨hn0,hn1⟩
       have hlc:=shNum_le x.manies[j].count
       have hln:=shNum_le x.manies[j].pat.n
       have HTP:Hid (∀ (tb:List Tkn) wx Kt lv,tb.length≤90000→Mem (StaysB g u) g u wx ⟨0,0⟩ (own zw [lv] 35::slc u.heap.size 56 3 tknF lv tb::Kt)→Calls Tryd.prog 18 #[.pointer (some ⟨zw,0,none⟩),.agg (pat18 x.manies[j].pat a2 n2 c2).toArray] wx (WrP g zw u Kt (tb++shPat x.manies[j].pat))):=fun tb wx Kt lv hl M2=>
        wpattern_any x.manies[j].pat hps hS2 (by omega) M2
       have hbA:Hid (ts.length+1≤100000):=by show _≤_;omega
       have hbB:Hid ((ts++[wordT ⟨#[109,97,110,121]⟩]).length+2≤100000):=by show _≤_;simp;omega
       clear hcl htl hps hwp hS2 HT hn0 hn1 hc0 hc1
       unfold manyT at HTS
       unfold manC patC cndC opdC at HRP
       unfold pat18 at HTP
       simp only[List.cons_append,List.nil_append]at HRP
       obtain⟨tn,htn⟩: ∃ tn,shNum x.manies[j].pat.n=tn:=⟨_,rfl⟩
       obtain⟨tc,htc⟩: ∃ tc,shNum x.manies[j].count=tc:=⟨_,rfl⟩
       generalize shPat x.manies[j].pat=tp at HTP HTS hpl
       generalize x.manies[j]=m at HRP HTP HTS HNC HNN hlc hln htn htc
       have HTC:=Lib.hid htc
       have HTNN:=Lib.hid htn
       clear htc htn hjl
       by_cases hw:emS m.field=true
       ·rw[if_pos hw,List.append_nil]at HTS
        have hf:m.field.toList=[]:=by simpa[emS]using hw
        have HTP1:Hid (∀ wx Kt lv,Mem (StaysB g u) g u wx ⟨0,0⟩ (own zw [lv] 35::slc u.heap.size 56 3 tknF lv (ts++[wordT ⟨#[109,97,110,121]⟩]++shNum m.count)::Kt)→_):=fun wx Kt lv M2=>HTP.out _ wx Kt lv (by simp;omega) M2
        have hbD:Hid ((ts++[wordT ⟨#[109,97,110,121]⟩]++shNum m.count++tp).length+1≤100000):=by show _≤_;simp;omega
        have hbE:Hid ((ts++[wordT ⟨#[109,97,110,121]⟩]++shNum m.count++tp++[wordT ⟨#[119,105,116,104,105,110]⟩]).length+2≤100000):=by show _≤_;simp;omega
        have hbF:Hid ((ts++[wordT ⟨#[109,97,110,121]⟩]++shNum m.count++tp++[wordT ⟨#[119,105,116,104,105,110]⟩]++shNum m.pat.n).length+1≤100000):=by show _≤_;simp;omega
        have hfb:(m.field.toList !=(⟨#[]⟩:ByteArray).toList)=false:=by rw[hf,ByteArray.toList_eq];rfl
        have hfb2:(m.field.toList==(⟨#[]⟩:ByteArray).toList)=true:=by rw[hf,ByteArray.toList_eq];rfl
        clear HTP hw hlc hln hts hpl
        go_wp2_with (first|(with_reducible (first|(refine wV M ?_;clear M;intro zx w M)|refine wq M ?_|(refine wS M ?_;clear M;intro w M)|(refine wV M ?_;clear M;intro z w M)|(refine wR M ?_;clear M;intro q w M)|(refine w_ (q_rowv1 M ?_);clear M;intro q w M)|(refine w_ (q_rowv2 M ?_);clear M;intro q w M)|(refine w_ (q_rowv3 M ?_);clear M;intro q w M)|refine wA (HRP.out _ M.new) ?_))|((with_reducible refine o_list rfl fun K hK=>?_);refine q_in M (by rfl) (by rfl) (by rfl) ?_;clear M;intro w M;(try simp only[List.set_cons_zero,List.set_cons_succ,laid,opdC,List.take_succ_cons,List.take_zero,List.drop_succ_cons,List.drop_zero,List.length_cons,List.length_nil,List.cons_append,List.nil_append,Nat.reduceAdd,Nat.zero_add]at M);refine hK _ _ ?_;clear hK K)|(go_at_call 8;with_reducible refine(puF1 ⟨#[109,97,110,121]⟩ HZM.out _ hbA.out M.f3).mono ?_;rintro e w5 ⟨rfl,lv5,M⟩;replace M:=M.b2)|(go_at_call 19;with_reducible refine(number_any _ HNC.out hbB.out M.f2).mono ?_;rintro e w5 ⟨rfl,lv5,M⟩;replace M:=M.b2)|(go_at_call 18;with_reducible refine(HTP1.out _ _ _ M.f2).mono ?_;rintro e w5 ⟨rfl,lv5,M⟩;replace M:=M.b2)|(go_at_call 8;with_reducible refine(puF1 ⟨#[119,105,116,104,105,110]⟩ HZI.out _ hbD.out M.f3).mono ?_;rintro e w5 ⟨rfl,lv5,M⟩;replace M:=M.b2)|(go_at_call 19;with_reducible refine(number_any _ HNN.out hbE.out M.f2).mono ?_;rintro e w5 ⟨rfl,lv5,M⟩;replace M:=M.b2)|(go_at_call 8;with_reducible refine(puF1 ⟨#[59]⟩ HZS.out _ hbF.out M.f3).mono ?_;rintro e w5 ⟨rfl,lv5,M⟩;replace M:=M.b2))
        go_roundg (m3 - (j+1))
        case measure=>omega
        case rel=>exact⟨j+1,_,_,by omega,by go_num,M.drop,Lib.hid (by rw[←HTN.out,HTS.out];(try simp only[List.append_assoc]))⟩
       ·rw[if_neg hw]at HTS
        have hfe:m.field≠ByteArray.empty:=fun h=>hw (by rw[h];unfold emS;rw[ByteArray.toList_eq];rfl)
        have hfs:0<m.field.size:=Nat.pos_of_ne_zero fun h=>hfe (by
         apply data_inj2
         have:m.field.data.size=0:=h
         exact Array.eq_empty_of_size_eq_zero this)
        have HOF:Hid (0<(⟨#[111,102]⟩:ByteArray).size∧0<m.field.size):=⟨by decide,hfs⟩
        have HTP1:Hid (∀ wx Kt lv,Mem (StaysB g u) g u wx ⟨0,0⟩ (own zw [lv] 35::slc u.heap.size 56 3 tknF lv (ts++[wordT ⟨#[109,97,110,121]⟩]++shNum m.count++[wordT ⟨#[111,102]⟩,wordT m.field])::Kt)→_):=fun wx Kt lv M2=>HTP.out _ wx Kt lv (by simp;omega) M2
        have hbC:Hid ((ts++[wordT ⟨#[109,97,110,121]⟩]++shNum m.count).length+2≤100000):=by show _≤_;simp;omega
        have hbD:Hid ((ts++[wordT ⟨#[109,97,110,121]⟩]++shNum m.count++[wordT ⟨#[111,102]⟩,wordT m.field]++tp).length+1≤100000):=by show _≤_;simp;omega
        have hbE:Hid ((ts++[wordT ⟨#[109,97,110,121]⟩]++shNum m.count++[wordT ⟨#[111,102]⟩,wordT m.field]++tp++[wordT ⟨#[119,105,116,104,105,110]⟩]).length+2≤100000):=by show _≤_;simp;omega
        have hbF:Hid ((ts++[wordT ⟨#[109,97,110,121]⟩]++shNum m.count++[wordT ⟨#[111,102]⟩,wordT m.field]++tp++[wordT ⟨#[119,105,116,104,105,110]⟩]++shNum m.pat.n).length+1≤100000):=by show _≤_;simp;omega
        have hne:=nonempty_list hfe
        have hfb:(m.field.toList !=(⟨#[]⟩:ByteArray).toList)=true:=by
         rw[ByteArray.toList_eq ⟨#[]⟩]
         cases h2:m.field.toList with
         |nil=>rw[h2]at hne;cases hne
         |cons a b=>simp
        have hfb2:(m.field.toList==(⟨#[]⟩:ByteArray).toList)=false:=by
         rw[ByteArray.toList_eq ⟨#[]⟩]
         cases h2:m.field.toList with
         |nil=>rw[h2]at hne;cases hne
         |cons a b=>simp
        clear HTP hw hlc hln hfe hts hpl hfs
        go_wp2_with (first|(with_reducible (first|(refine wV M ?_;clear M;intro zx w M)|refine wq M ?_|(refine wS M ?_;clear M;intro w M)|(refine wV M ?_;clear M;intro z w M)|(refine wR M ?_;clear M;intro q w M)|(refine w_ (q_rowv1 M ?_);clear M;intro q w M)|(refine w_ (q_rowv2 M ?_);clear M;intro q w M)|(refine w_ (q_rowv3 M ?_);clear M;intro q w M)|refine wA (HRP.out _ M.new) ?_))|((with_reducible refine o_list rfl fun K hK=>?_);refine q_in M (by rfl) (by rfl) (by rfl) ?_;clear M;intro w M;(try simp only[List.set_cons_zero,List.set_cons_succ,laid,opdC,List.take_succ_cons,List.take_zero,List.drop_succ_cons,List.drop_zero,List.length_cons,List.length_nil,List.cons_append,List.nil_append,Nat.reduceAdd,Nat.zero_add]at M);refine hK _ _ ?_;clear hK K)|(go_at_call 8;with_reducible refine(puF1 ⟨#[109,97,110,121]⟩ HZM.out _ hbA.out M.f3).mono ?_;rintro e w5 ⟨rfl,lv5,M⟩;replace M:=M.b2)|(go_at_call 19;with_reducible refine(number_any _ HNC.out hbB.out M.f2).mono ?_;rintro e w5 ⟨rfl,lv5,M⟩;replace M:=M.b2)|(go_at_call 8;with_reducible refine(puF2 _ _ HOF.out _ hbC.out M.f3).mono ?_;rintro e w5 ⟨rfl,lv5,M⟩;replace M:=M.b2)|(go_at_call 18;with_reducible refine(HTP1.out _ _ _ M.f2).mono ?_;rintro e w5 ⟨rfl,lv5,M⟩;replace M:=M.b2)|(go_at_call 8;with_reducible refine(puF1 ⟨#[119,105,116,104,105,110]⟩ HZI.out _ hbD.out M.f3).mono ?_;rintro e w5 ⟨rfl,lv5,M⟩;replace M:=M.b2)|(go_at_call 19;with_reducible refine(number_any _ HNN.out hbE.out M.f2).mono ?_;rintro e w5 ⟨rfl,lv5,M⟩;replace M:=M.b2)|(go_at_call 8;with_reducible refine(puF1 ⟨#[59]⟩ HZS.out _ hbF.out M.f3).mono ?_;rintro e w5 ⟨rfl,lv5,M⟩;replace M:=M.b2))
        go_roundg (m3 - (j+1))
        case measure=>omega
        case rel=>exact⟨j+1,_,_,by omega,by go_num,M.drop,Lib.hid (by rw[←HTN.out,HTS.out];(try simp only[List.append_assoc]))⟩
      ·have hte:ts=T2++shCat manyT x.manies:=by rw[HT.out,List.take_of_length_le (by have:=N3.out;omega)]
       have HT3:=Lib.hid hte
       have HT3L:Hid (ts.length≤87300):=by
        show _≤_
        have h1:=take_cat_le (f:=manyT) (l:=x.manies) (K:=1010) (n:=2) (j:=x.manies.length) (fun i p hp=>manyT_le (HX.out.manies p hp).2.1) HX.out.nM
        rw[List.take_length]at h1
        have:=HT2L.out
        rw[hte,List.length_append]
        omega
       clear hte HT
       obtain⟨T3,rfl⟩: ∃ T3,T3=ts:=⟨_,rfl⟩
       go_wp2_with (first|(with_reducible (first|refine wq M ?_|(refine wS M ?_;clear M;intro w M)|(refine wV M ?_;clear M;intro z w M)|(refine wR M ?_;clear M;intro q w M))))
       go_loopg [110] m4 (fun fu i wr=> ∃ (j:Nat) (lv:Value) (ts:List Tkn),j+fu=m4∧i= .int .i64 j∧Mem (StaysB g u) g u wr ⟨0,0⟩ (own zb [.string x.name,.slice b1 m1 e1,.slice b2 m2 e2,.slice b3 m3 e3,.slice b4 m4 e4,.string x.etype,.slice b6 m6 e6] 50::own zw [lv] 35::slc u.heap.size 56 3 tknF lv ts::Kt)∧Hid (ts=T3++shCat linkT (x.links.take j)))
       case atStart=>exact⟨0,_,T3,by omega,rfl,M,Lib.hid (by simp[shCat_nil])⟩
       case round=>
        clear M
        obtain⟨j,lv,ts,hj,rfl,M,HT⟩:=hrel
        by_cases hlt:j<m4
        ·have hjl:j<x.links.length:=by have:=N4.out;omega
         obtain⟨cp,op,rowp,hixp, -,hrrp,hwp⟩:=SlF.rowAt (P:=Tryd.prog) HY4.out lnkF_firm Tryd.underlying45 size_lnk (i:=j) hjl
         obtain⟨a2,n2,c2,ep,hS2⟩:=hrrp
         subst ep
         have HRP:=Lib.hid (fun wx hb=>(hwp wx hb).1)
         obtain⟨TN,hTN⟩: ∃ TN,TN=T3++shCat linkT (x.links.take (j+1)):=⟨_,rfl⟩
         have HTN:=Lib.hid hTN
         have HTS:Hid (TN=ts++linkT j x.links[j]):=by show _=_;rw[hTN,shCat_snoc hjl,HT.out,List.append_assoc]
         clear hTN
         have hcl:=take_cat_le (f:=linkT) (l:=x.links) (K:=60) (n:=6) (j:=j) (fun i p hp=>linkT_le (HX.out.links p hp).1) HX.out.nL
         have htl:=congrArg List.length HT.out
         rw[List.length_append]at htl
         have hts:ts.length≤88000:=by have:=HT3L.out;omega
         obtain⟨hol,hlz,hrz,hop⟩:=HX.out.links _ (List.getElem_mem hjl)
         clear hcl htl hwp HT
         unfold linkT at HTS
         unfold lnkC at HRP
         generalize x.links[j]=k at HRP HTS hol hlz hrz hop hS2
         clear hjl
         have HS2:=Lib.hid hS2
         have hle2:=hS2.le
         have NO:Hid (n2=k.opts.length):=hS2.len
         have HOP:=Lib.hid hop
         have HWL:Hid (0<(⟨#[119,104,101,114,101]⟩:ByteArray).size∧0<k.left.size):=⟨by decide,hlz.pos⟩
         have HRS:Hid (0<k.right.size∧0<(⟨#[59]⟩:ByteArray).size):=⟨hrz.pos,by decide⟩
         have hbA:Hid (ts.length+2≤100000):=by show _≤_;omega
         have HTL:Hid (ts.length≤88000):=hts
         have HOL:=Lib.hid hol
         clear hts hol hlz hrz hop hS2
         obtain⟨U0,hU0⟩: ∃ U0,U0=ts++[wordT ⟨#[119,104,101,114,101]⟩,wordT k.left]:=⟨_,rfl⟩
         have HU0:=Lib.hid hU0
         have HU0L:Hid (U0.length≤88002):=by show _≤_;have:=HTL.out;rw[hU0];simp;omega
         go_wp2_with (first|(with_reducible (first|(refine wV M ?_;clear M;intro zx w M)|refine wq M ?_|(refine wS M ?_;clear M;intro w M)|(refine wV M ?_;clear M;intro z w M)|(refine wR M ?_;clear M;intro q w M)|(refine w_ (q_rowv1 M ?_);clear M;intro q w M)|(refine w_ (q_rowv2 M ?_);clear M;intro q w M)|(refine w_ (q_rowv3 M ?_);clear M;intro q w M)|refine wA (HRP.out _ M.new) ?_))|((with_reducible refine o_list rfl fun K hK=>?_);refine q_in M (by rfl) (by rfl) (by rfl) ?_;clear M;intro w M;(try simp only[List.set_cons_zero,List.set_cons_succ,laid,opdC,List.take_succ_cons,List.take_zero,List.drop_succ_cons,List.drop_zero,List.length_cons,List.length_nil,List.cons_append,List.nil_append,Nat.reduceAdd,Nat.zero_add]at M);refine hK _ _ ?_;clear hK K)|(go_at_call 8;with_reducible refine(puF2 _ _ HWL.out _ hbA.out M.f3).mono ?_;rintro e w5 ⟨rfl,lv5,M⟩;replace M:=M.b2))
         rw[←hU0]at M
         clear hU0
         go_loopg [122] n2 (fun fu i wr=> ∃ (jo:Nat) (lv:Value) (us:List Tkn),jo+fu=n2∧i= .int .i64 jo∧Mem (StaysB g u) g u wr ⟨0,0⟩ (own zx [.string k.left,.slice a2 n2 c2,.string k.right] 76::own zb [.string x.name,.slice b1 m1 e1,.slice b2 m2 e2,.slice b3 m3 e3,.slice b4 m4 e4,.string x.etype,.slice b6 m6 e6] 50::own zw [lv] 35::slc u.heap.size 56 3 tknF lv us::Kt)∧Hid (us=U0++shCat optsT (k.opts.take jo)))
         case atStart=>exact⟨0,_,U0,by omega,rfl,M,Lib.hid (by simp[shCat_nil])⟩
         case round=>
          clear M
          obtain⟨jo,lv,us,hjo,rfl,M,HU⟩:=hrel
          by_cases hlo:jo<n2
          ·have hjl:jo<k.opts.length:=by have:=NO.out;omega
           obtain⟨cq,oq,rowq,hixq, -,hrrq,hwq⟩:=SlF.rowAt (P:=Tryd.prog) HS2.out (plainF_firm _) Tryd.underlying74 size_opt (i:=jo) hjl
           have eq:rowq=optC k.opts[jo]:=hrrq
           subst eq
           have HRQ:=Lib.hid (fun wx hb=>(hwq wx hb).1)
           obtain⟨UN,hUN⟩: ∃ UN,UN=U0++shCat optsT (k.opts.take (jo+1)):=⟨_,rfl⟩
           have HUN:=Lib.hid hUN
           have HUS:Hid (UN=us++optsT jo k.opts[jo]):=by show _=_;rw[hUN,shCat_snoc hjl,HU.out,List.append_assoc]
           clear hUN
           have hcl:=take_cat_le (f:=optsT) (l:=k.opts) (K:=9) (n:=6) (j:=jo) (fun i p _=>optsT_le) HOL.out
           have htl:=congrArg List.length HU.out
           rw[List.length_append]at htl
           have hus:us.length≤89000:=by have:=HU0L.out;omega
           obtain⟨q1,q2,q3,q4,q5,q6⟩:=HOP.out _ (List.getElem_mem hjl)
           have hol:=shOpt_le k.opts[jo]
           have HOC:Hid (∀ (tb:List Tkn) wx Kt lv,tb.length≤90000→Mem (StaysB g u) g u wx ⟨0,0⟩ (own zw [lv] 35::slc u.heap.size 56 3 tknF lv tb::Kt)→Calls Tryd.prog 20 #[.pointer (some ⟨zw,0,none⟩),.agg #[.int .i64 k.opts[jo].rel,.int .i64 k.opts[jo].lo,.int .i64 k.opts[jo].hi]] wx (WrP g zw u Kt (tb++shOpt relT k.opts[jo]))):=fun tb wx Kt lv hl M2=>
            woption_any k.opts[jo] q1 q2 ⟨q3,q4⟩ ⟨q5,q6⟩ HRR.out (relT_pos q1 q2) (by omega) M2
           have hb1:Hid (us.length+1≤100000):=by show _≤_;omega
           clear hcl htl hrrq hwq HU q1 q2 q3 q4 q5 q6 hol
           unfold optsT at HUS
           unfold optC at HRQ
           generalize shOpt relT k.opts[jo]=tp at HOC HUS
           generalize k.opts[jo]=o at HRQ HOC
           clear hjl
           by_cases hj0:jo=0
           ·rw[if_pos hj0,List.nil_append]at HUS
            have hjz: ¬ ((0:Int)<(jo:Int)):=by omega
            have HOC1:Hid (∀ wx Kt lv,Mem (StaysB g u) g u wx ⟨0,0⟩ (own zw [lv] 35::slc u.heap.size 56 3 tknF lv us::Kt)→_):=fun wx Kt lv M2=>HOC.out us wx Kt lv (by omega) M2
            clear hj0 HOC hus
            go_wp2_with (first|(with_reducible (first|(refine wV M ?_;clear M;intro zo w M)|refine wq M ?_|(refine wS M ?_;clear M;intro w M)|(refine wV M ?_;clear M;intro z w M)|(refine wR M ?_;clear M;intro q w M)|(refine w_ (q_rowv1 M ?_);clear M;intro q w M)|(refine w_ (q_rowv2 M ?_);clear M;intro q w M)|(refine w_ (q_rowv3 M ?_);clear M;intro q w M)|refine wA (HRQ.out _ M.new) ?_))|((with_reducible refine o_list rfl fun K hK=>?_);refine q_in M (by rfl) (by rfl) (by rfl) ?_;clear M;intro w M;(try simp only[List.set_cons_zero,List.set_cons_succ,laid,opdC,List.take_succ_cons,List.take_zero,List.drop_succ_cons,List.drop_zero,List.length_cons,List.length_nil,List.cons_append,List.nil_append,Nat.reduceAdd,Nat.zero_add]at M);refine hK _ _ ?_;clear hK K)|(go_at_call 20;with_reducible refine(HOC1.out _ _ _ M.f3).mono ?_;rintro e w5 ⟨rfl,lv5,M⟩;replace M:=M.b3))
            go_roundg (n2 - (jo+1))
            case measure=>omega
            case rel=>exact⟨jo+1,_,_,by omega,by go_num,M.drop,Lib.hid (by rw[←HUN.out,HUS.out])⟩
           ·rw[if_neg hj0]at HUS
            have hjp:0<jo:=by omega
            have HOC1:Hid (∀ wx Kt lv,Mem (StaysB g u) g u wx ⟨0,0⟩ (own zw [lv] 35::slc u.heap.size 56 3 tknF lv (us++[wordT ⟨#[111,114]⟩])::Kt)→_):=fun wx Kt lv M2=>HOC.out _ wx Kt lv (by simp;omega) M2
            clear hj0 HOC hus
            go_wp2_with (first|(with_reducible (first|(refine wV M ?_;clear M;intro zo w M)|refine wq M ?_|(refine wS M ?_;clear M;intro w M)|(refine wV M ?_;clear M;intro z w M)|(refine wR M ?_;clear M;intro q w M)|(refine w_ (q_rowv1 M ?_);clear M;intro q w M)|(refine w_ (q_rowv2 M ?_);clear M;intro q w M)|(refine w_ (q_rowv3 M ?_);clear M;intro q w M)|refine wA (HRQ.out _ M.new) ?_))|((with_reducible refine o_list rfl fun K hK=>?_);refine q_in M (by rfl) (by rfl) (by rfl) ?_;clear M;intro w M;(try simp only[List.set_cons_zero,List.set_cons_succ,laid,opdC,List.take_succ_cons,List.take_zero,List.drop_succ_cons,List.drop_zero,List.length_cons,List.length_nil,List.cons_append,List.nil_append,Nat.reduceAdd,Nat.zero_add]at M);refine hK _ _ ?_;clear hK K)|(go_at_call 8;with_reducible refine(puF1 ⟨#[111,114]⟩ HZO.out _ hb1.out M.f4).mono ?_;rintro e w5 ⟨rfl,lv5,M⟩;replace M:=M.b3)|(go_at_call 20;with_reducible refine(HOC1.out _ _ _ M.f3).mono ?_;rintro e w5 ⟨rfl,lv5,M⟩;replace M:=M.b3))
            go_roundg (n2 - (jo+1))
            case measure=>omega
            case rel=>exact⟨jo+1,_,_,by omega,by go_num,M.drop,Lib.hid (by rw[←HUN.out,HUS.out];(try simp only[List.append_assoc]))⟩
          ·have hue:us=U0++shCat optsT k.opts:=by rw[HU.out,List.take_of_length_le (by have:=NO.out;omega)]
           have hb2:Hid (us.length+2≤100000):=by
            show _≤_
            have hcl:=shCat_le (f:=optsT) (l:=k.opts) (K:=9) (fun i p _=>optsT_le)
            have:=HU0L.out
            have:=HOL.out
            rw[hue,List.length_append]
            omega
           have HUE:=Lib.hid hue
           clear hue HU
           go_wp2_with (first|(with_reducible (first|refine wq M ?_|(refine wS M ?_;clear M;intro w M)|(refine wV M ?_;clear M;intro z w M)|(refine wR M ?_;clear M;intro q w M)|(refine w_ (q_rowv1 M ?_);clear M;intro q w M)|(refine w_ (q_rowv2 M ?_);clear M;intro q w M)|(refine w_ (q_rowv3 M ?_);clear M;intro q w M)))|(go_at_call 8;with_reducible refine(puF2 _ _ HRS.out _ hb2.out M.f3).mono ?_;rintro e w5 ⟨rfl,lv5,M⟩;replace M:=M.b2))
           go_roundg (m4 - (j+1))
           case measure=>omega
           case rel=>exact⟨j+1,_,_,by omega,by go_num,M.drop,Lib.hid (by rw[←HTN.out,HTS.out,HUE.out,HU0.out];(try simp only[List.append_assoc]))⟩
        ·have hte:ts=T3++shCat linkT x.links:=by rw[HT.out,List.take_of_length_le (by have:=N4.out;omega)]
         have HT4:=Lib.hid hte
         have HT4L:Hid (ts.length≤87700):=by
          show _≤_
          have h1:=take_cat_le (f:=linkT) (l:=x.links) (K:=60) (n:=6) (j:=x.links.length) (fun i p hp=>linkT_le (HX.out.links p hp).1) HX.out.nL
          rw[List.take_length]at h1
          have:=HT3L.out
          rw[hte,List.length_append]
          omega
         clear hte HT
         obtain⟨T4,rfl⟩: ∃ T4,T4=ts:=⟨_,rfl⟩
         have HTE:Hid (∀ l:List Tkn,toks++shRule x=T4++((if emS x.etype=true then []else [wordT ⟨#[101,109,105,116]⟩,wordT x.etype,wordT ⟨#[40]⟩]++shCat emitT x.evals++[wordT ⟨#[41]⟩,wordT ⟨#[59]⟩])++[wordT ⟨#[125]⟩])):=fun _=>by
          rw[HT4.out,HT3.out,HT2.out,HT1.out,HT0.out]
          unfold shRule
          simp only[List.append_assoc]
         have hb1:Hid (T4.length+1≤100000):=by show _≤_;have:=HT4L.out;omega
         clear HT4 HT3 HT2 HT1 HT0
         by_cases hw:emS x.etype=true
         ·have HV:Hid (toks++shRule x=T4++[wordT ⟨#[125]⟩]):=by show _=_;rw[HTE.out [],if_pos hw,List.nil_append]
          clear HTE
          have hf:x.etype.toList=[]:=by simpa[emS]using hw
          have hfb:(x.etype.toList !=(⟨#[]⟩:ByteArray).toList)=false:=by rw[hf,ByteArray.toList_eq];rfl
          have hfb2:(x.etype.toList==(⟨#[]⟩:ByteArray).toList)=true:=by rw[hf,ByteArray.toList_eq];rfl
          clear hw
          go_wp2_with (first|(with_reducible (first|refine wq M ?_|(refine wS M ?_;clear M;intro w M)|(refine wV M ?_;clear M;intro z w M)|(refine wR M ?_;clear M;intro q w M)|(refine w_ (q_rowv1 M ?_);clear M;intro q w M)|(refine w_ (q_rowv2 M ?_);clear M;intro q w M)|(refine w_ (q_rowv3 M ?_);clear M;intro q w M)))|(go_at_call 8;with_reducible refine(puF1 ⟨#[125]⟩ HZB.out _ hb1.out M.f2).mono ?_;rintro e w5 ⟨rfl,lv5,M⟩;replace M:=M.b1))
          go_end0
          rw[HV.out]
          exact⟨rfl,lv5,M.drop⟩
         ·have HV4:=HTE.out []
          rw[if_neg hw]at HV4
          clear HTE
          have hfe:x.etype≠ByteArray.empty:=fun h=>hw (by rw[h];unfold emS;rw[ByteArray.toList_eq];rfl)
          have hne:=nonempty_list hfe
          have hfs:0<x.etype.size:=Nat.pos_of_ne_zero fun h=>hfe (by
           apply data_inj2
           have:x.etype.data.size=0:=h
           exact Array.eq_empty_of_size_eq_zero this)
          have hfb:(x.etype.toList !=(⟨#[]⟩:ByteArray).toList)=true:=by
           rw[ByteArray.toList_eq ⟨#[]⟩]
           cases h2:x.etype.toList with
           |nil=>rw[h2]at hne;cases hne
           |cons a b=>simp
          have hfb2:(x.etype.toList==(⟨#[]⟩:ByteArray).toList)=false:=by
           rw[ByteArray.toList_eq ⟨#[]⟩]
           cases h2:x.etype.toList with
           |nil=>rw[h2]at hne;cases hne
           |cons a b=>simp
          have HE3:Hid (0<(⟨#[101,109,105,116]⟩:ByteArray).size∧0<x.etype.size∧0<(⟨#[40]⟩:ByteArray).size):=⟨by decide,hfs,by decide⟩
          have hbA:Hid (T4.length+3≤100000):=by show _≤_;have:=HT4L.out;omega
          have e0:T4++([wordT ⟨#[101,109,105,116]⟩,wordT x.etype,wordT ⟨#[40]⟩]++shCat emitT x.evals++[wordT ⟨#[41]⟩,wordT ⟨#[59]⟩]++[wordT ⟨#[125]⟩])=T4++[wordT ⟨#[101,109,105,116]⟩,wordT x.etype,wordT ⟨#[40]⟩]++shCat emitT x.evals++[wordT ⟨#[41]⟩,wordT ⟨#[59]⟩]++[wordT ⟨#[125]⟩]:=by simp only[List.append_assoc]
          rw[e0]at HV4
          obtain⟨T5,hT5⟩: ∃ T5,T5=T4++[wordT ⟨#[101,109,105,116]⟩,wordT x.etype,wordT ⟨#[40]⟩]:=⟨_,rfl⟩
          have HT5:=Lib.hid hT5
          have HT5L:Hid (T5.length≤87703):=by show _≤_;have:=HT4L.out;rw[hT5];simp;omega
          clear hw hfe hfs e0
          rw[←hT5]at HV4
          have HV5:=Lib.hid HV4
          clear HV4
          go_wp2_with (first|(with_reducible (first|refine wq M ?_|(refine wS M ?_;clear M;intro w M)|(refine wV M ?_;clear M;intro z w M)|(refine wR M ?_;clear M;intro q w M)|(refine w_ (q_rowv1 M ?_);clear M;intro q w M)|(refine w_ (q_rowv2 M ?_);clear M;intro q w M)|(refine w_ (q_rowv3 M ?_);clear M;intro q w M)))|(go_at_call 8;with_reducible refine(puF3 _ _ _ HE3.out _ hbA.out M.f2).mono ?_;rintro e w5 ⟨rfl,lv5,M⟩;replace M:=M.b1))
          rw[←hT5]at M
          clear hT5
          go_loopg [156] m6 (fun fu i wr=> ∃ (j:Nat) (lv:Value) (ts:List Tkn),j+fu=m6∧i= .int .i64 j∧Mem (StaysB g u) g u wr ⟨0,0⟩ (own zb [.string x.name,.slice b1 m1 e1,.slice b2 m2 e2,.slice b3 m3 e3,.slice b4 m4 e4,.string x.etype,.slice b6 m6 e6] 50::own zw [lv] 35::slc u.heap.size 56 3 tknF lv ts::Kt)∧Hid (ts=T5++shCat emitT (x.evals.take j)))
          case atStart=>exact⟨0,_,T5,by omega,rfl,M,Lib.hid (by simp[shCat_nil])⟩
          case round=>
           clear M
           obtain⟨j,lv,ts,hj,rfl,M,HT⟩:=hrel
           by_cases hlt:j<m6
           ·have hjl:j<x.evals.length:=by have:=N6.out;omega
            obtain⟨cp,op,rowp,hixp, -,hrrp,hwp⟩:=SlF.rowAt (P:=Tryd.prog) HY6.out opdF_firm Tryd.underlying46 size_opd (i:=j) hjl
            have ep:rowp=opdC x.evals[j]:=hrrp
            subst ep
            have HRP:=Lib.hid (fun wx hb=>(hwp wx hb).1)
            obtain⟨TN,hTN⟩: ∃ TN,TN=T5++shCat emitT (x.evals.take (j+1)):=⟨_,rfl⟩
            have HTN:=Lib.hid hTN
            have HTS:Hid (TN=ts++emitT j x.evals[j]):=by show _=_;rw[hTN,shCat_snoc hjl,HT.out,List.append_assoc]
            clear hTN
            have hcl:=take_cat_le (f:=emitT) (l:=x.evals) (K:=4) (n:=100) (j:=j) (fun i p _=>emitT_le) HX.out.nE
            have htl:=congrArg List.length HT.out
            rw[List.length_append]at htl
            have hts:ts.length≤89000:=by have:=HT5L.out;omega
            have HSO:=Lib.hid (HX.out.evals _ (List.getElem_mem hjl))
            have hbB:Hid (ts.length+1≤100000):=by show _≤_;omega
            have hbC:Hid (ts.length+3≤100000):=by show _≤_;omega
            have hbD:Hid ((ts++[wordT ⟨#[44]⟩]).length+3≤100000):=by show _≤_;simp;omega
            clear hcl htl hts hrrp hwp HT
            unfold emitT at HTS
            unfold opdC at HRP
            obtain⟨tp,htp⟩: ∃ tp,shSide x.evals[j]=tp:=⟨_,rfl⟩
            have HTP:=Lib.hid htp
            clear htp
            generalize x.evals[j]=o at HRP HSO HTS HTP
            clear hjl
            by_cases hj0:j=0
            ·rw[if_pos hj0,List.nil_append]at HTS
             have hjz: ¬ ((0:Int)<(j:Int)):=by omega
             clear hj0
             go_wp2_with (first|(with_reducible (first|(refine wV M ?_;clear M;intro zo w M)|refine wq M ?_|(refine wS M ?_;clear M;intro w M)|(refine wV M ?_;clear M;intro z w M)|(refine wR M ?_;clear M;intro q w M)|(refine w_ (q_rowv1 M ?_);clear M;intro q w M)|(refine w_ (q_rowv2 M ?_);clear M;intro q w M)|(refine w_ (q_rowv3 M ?_);clear M;intro q w M)|refine wA (HRP.out _ M.new) ?_))|((with_reducible refine o_list rfl fun K hK=>?_);refine q_in M (by rfl) (by rfl) (by rfl) ?_;clear M;intro w M;(try simp only[List.set_cons_zero,List.set_cons_succ,laid,opdC,List.take_succ_cons,List.take_zero,List.drop_succ_cons,List.drop_zero,List.length_cons,List.length_nil,List.cons_append,List.nil_append,Nat.reduceAdd,Nat.zero_add]at M);refine hK _ _ ?_;clear hK K)|(go_at_call 21;with_reducible refine(wside_any _ HSO.out hbC.out M.f2).mono ?_;rintro e w5 ⟨rfl,lv5,M⟩;replace M:=M.b2))
             go_roundg (m6 - (j+1))
             case measure=>omega
             case rel=>exact⟨j+1,_,_,by omega,by go_num,M.drop,Lib.hid (by rw[←HTN.out,HTS.out])⟩
            ·rw[if_neg hj0]at HTS
             have hjp:0<j:=by omega
             clear hj0
             go_wp2_with (first|(with_reducible (first|(refine wV M ?_;clear M;intro zo w M)|refine wq M ?_|(refine wS M ?_;clear M;intro w M)|(refine wV M ?_;clear M;intro z w M)|(refine wR M ?_;clear M;intro q w M)|(refine w_ (q_rowv1 M ?_);clear M;intro q w M)|(refine w_ (q_rowv2 M ?_);clear M;intro q w M)|(refine w_ (q_rowv3 M ?_);clear M;intro q w M)|refine wA (HRP.out _ M.new) ?_))|((with_reducible refine o_list rfl fun K hK=>?_);refine q_in M (by rfl) (by rfl) (by rfl) ?_;clear M;intro w M;(try simp only[List.set_cons_zero,List.set_cons_succ,laid,opdC,List.take_succ_cons,List.take_zero,List.drop_succ_cons,List.drop_zero,List.length_cons,List.length_nil,List.cons_append,List.nil_append,Nat.reduceAdd,Nat.zero_add]at M);refine hK _ _ ?_;clear hK K)|(go_at_call 8;with_reducible refine(puF1 ⟨#[44]⟩ HZC.out _ hbB.out M.f3).mono ?_;rintro e w5 ⟨rfl,lv5,M⟩;replace M:=M.b2)|(go_at_call 21;with_reducible refine(wside_any _ HSO.out hbD.out M.f2).mono ?_;rintro e w5 ⟨rfl,lv5,M⟩;replace M:=M.b2))
             go_roundg (m6 - (j+1))
             case measure=>omega
             case rel=>exact⟨j+1,_,_,by omega,by go_num,M.drop,Lib.hid (by rw[←HTN.out,HTS.out];(try simp only[List.append_assoc]))⟩
           ·have hte:ts=T5++shCat emitT x.evals:=by rw[HT.out,List.take_of_length_le (by have:=N6.out;omega)]
            have h1:=take_cat_le (f:=emitT) (l:=x.evals) (K:=4) (n:=100) (j:=x.evals.length) (fun i p _=>emitT_le) HX.out.nE
            rw[List.take_length]at h1
            have hts:ts.length≤89000:=by have:=HT5L.out;rw[hte,List.length_append];omega
            have HR2:Hid (0<(⟨#[41]⟩:ByteArray).size∧0<(⟨#[59]⟩:ByteArray).size):=⟨by decide,by decide⟩
            have hbE:Hid (ts.length+2≤100000):=by show _≤_;omega
            have hbF:Hid ((ts++[wordT ⟨#[41]⟩,wordT ⟨#[59]⟩]).length+1≤100000):=by show _≤_;simp;omega
            clear h1 hts HT
            have HV:=HV5.out
            rw[←hte]at HV
            replace HV:=Lib.hid HV
            clear hte
            go_wp2_with (first|(with_reducible (first|refine wq M ?_|(refine wS M ?_;clear M;intro w M)|(refine wV M ?_;clear M;intro z w M)|(refine wR M ?_;clear M;intro q w M)|(refine w_ (q_rowv1 M ?_);clear M;intro q w M)|(refine w_ (q_rowv2 M ?_);clear M;intro q w M)|(refine w_ (q_rowv3 M ?_);clear M;intro q w M)))|(go_at_call 8;with_reducible refine(puF2 _ _ HR2.out _ hbE.out M.f2).mono ?_;rintro e w5 ⟨rfl,lv5,M⟩;replace M:=M.b1)|(go_at_call 8;with_reducible refine(puF1 ⟨#[125]⟩ HZB.out _ hbF.out M.f2).mono ?_;rintro e w5 ⟨rfl,lv5,M⟩;replace M:=M.b1))
            go_end0
            rw[HV.out]
            exact⟨rfl,lv5,M.drop⟩
end
end Go.Proofs.YtcebfkdhicbmkaaDoor
