/-
  The walks of the reference's BookFault, thirteenth part: what is emitted. Printed by chkl.py.
-/
import Derived.Test.YtncmghnhfipklaaGreatDoorPw24
namespace Go.Proofs.YtncmghnhfipklaaGreatDoor
open Go.RowKit
set_option linter.unusedVariables false
set_option linter.unusedSimpArgs false
section
variable {g:Nat} {F G:Nat→Prop} {ao:Option Addr} {n cap:Nat} {w0:World} {ts:List Typ}
def emitG(ts:List Typ)(known:List Pat)(own:Typ)(o:Opd)(k:Int):Int:=
 if o.kind=2 then 4 else if sideE ts known own o≠0 then sideE ts known own o else if sideK ts known own o=k then 0 else 13
set_option maxRecDepth 8000 in
set_option maxHeartbeats 16000000 in
theorem emitFault_loop(hg:g<w0.heap.size)(hX:SlF F w0 2 typF ao n cap ts)(hts: ∀ t∈ts,typOk t)(x:Rul)(row:List Value)(h:rulF G w0 row x)(hkn: ∀ p∈x.whens,typI ts p.type<ts.length)(hev: ∀ o∈x.evals,o.vtext.size≤maxLen)(h1:emS x.etype=false)(h2:typI ts x.etype<ts.length)(h3:x.evals.length=(typAt ts x.etype).fields.length):Calls Tryz.prog 56 #[.slice ao n cap,.agg row.toArray] w0 fun e w' =>e= .returned (.int .i64 (emitE ts x))∧Below w0.heap.size w0 w' :=by
 have HV:Hid (emitE ts x=firstN (fun i=>emitG ts x.whens (typAt ts x.etype) (x.evals.getD i opd0) ((typAt ts x.etype).fields.getD i default).kind) x.evals.length):=by show _=_;unfold emitE;rw[h1,if_neg (by simp),if_neg (by omega),if_neg (by omega)];rfl
 have he0:x.etype.toList.isEmpty=false:=h1
 obtain⟨a1,n1,c1,a2,n2,c2,a3,n3,c3,a4,n4,c4,a6,n6,c6,rfl,X1,X2,X3,X4,X6⟩:=h
 have M:=Mem.begin hg ⟨0,0⟩
 have hle6:=X6.le
 have N6:=Lib.hid X6.len
 have hleX:=hX.le
 have NX:=Lib.hid hX.len
 unfold rulC
 have HTN:=Lib.hid (fun wx (hb:Below w0.heap.size w0 wx)=>typeNamed_any (Nat.lt_of_lt_of_le hg hb.size) (hX.below typF_firm hb) x.etype)
 have hpv:placeV (typI ts x.etype) ts.length=(typI ts x.etype:Nat):=by unfold placeV;rw[if_pos h2]
 rw[hpv]at HTN
 rw[HV.out]
 clear HV
 obtain⟨ct,ot,rowt,hixt, -,hrrt,hwt⟩:=SlF.rowAt (P:=Tryz.prog) hX typF_firm Tryz.underlying22 size_typ (i:=typI ts x.etype) h2
 obtain⟨t1,t2,t3,et,ut⟩:=hrrt
 subst et
 have hTT:typAt ts x.etype=ts[typI ts x.etype]:=by unfold typAt;rw[List.getD_eq_getElem?_getD,List.getElem?_eq_getElem h2];rfl
 have HT0:Hid (∀ wx,Below w0.heap.size w0 wx→wx.rangeAt ct ot [.string ts[typI ts x.etype].name,.slice t1 t2 t3]):=fun wx hbx=>(hwt wx hbx).1
 have HT1:Hid (∀ wx,Below w0.heap.size w0 wx→wx.cell? ⟨ct,ot+1,none⟩=some (.slice t1 t2 t3)):=fun wx hb=>(hwt wx hb).1 1 _ rfl
 have hok:typOk ts[typI ts x.etype]:=hts _ (List.getElem_mem h2)
 have htn:(typI ts x.etype:Int)<n:=by have:=NX.out;omega
 have htp:(0:Int)≤(typI ts x.etype:Nat):=by omega
 rw[hTT]at h3 ⊢
 clear hwt hpv hTT
 generalize ts[typI ts x.etype]=tt at h3 HT0 hok ut ⊢
 clear h2
 generalize typI ts x.etype=ti at HTN hixt htn htp
 have hleT:=ut.le
 have NT:=Lib.hid ut.len
 have hne:((n6:Int)!=t2)=false:=by
  have e1:=N6.out
  have e2:=NT.out
  simp;omega
 have h3:=Lib.hid h3
 have HF:Hid (∀ i,i<x.evals.length→(fun i=>emitG ts x.whens tt (x.evals.getD i opd0) (tt.fields.getD i default).kind) i=emitG ts x.whens tt (x.evals.getD i opd0) (tt.fields.getD i default).kind):=fun i _=>rfl
 generalize (fun i=>emitG ts x.whens tt (x.evals.getD i opd0) (tt.fields.getD i default).kind)=f at HF ⊢
 have HS:Hid (∀ o∈x.evals,∀ wx,Below w0.heap.size w0 wx→Calls Tryz.prog 87 #[.slice ao n cap,.slice a1 n1 c1,.agg #[.string tt.name,.slice t1 t2 t3],.agg (opdC o).toArray] wx (SidePost ts x.whens tt o wx)):=fun o ho wx hbx=>
  sideKind_any (Nat.lt_of_lt_of_le hg hbx.size) o (hev o ho) (hX.below typF_firm hbx) hts (X1.below patF_firm hbx) hkn (ut.below (plainF_firm _) hbx) hok
 have XT:=Lib.hid ut
 have XV:=Lib.hid X6
 clear hg hX hts hkn hev X1 X2 X3 X4 X6 ut h1 hok
 go_enter Tryz.func56,Tryz.ntmps56
 go_wp2_with (first|(with_reducible (first|(refine wB (L:=[]) M ?_;clear M;intro za w1 M)|(refine wV M ?_;clear M;intro ze w2 M)|refine wq M ?_|(refine wS M ?_;clear M;intro w M)))|(go_at_call 29;with_reducible refine(HTN.out _ M.new).mono ?_;rintro e w5 ⟨rfl,hb5⟩;replace M:=M.below hb5;clear hb5))
 ((refine wp_region_still_lit (by kernel_rfl) (by kernel_rfl) ?_);(change wpStill _ _ (World.drew _) _ _ _);replace M:=M.drew;(repeat(first|((with_reducible refine s_list rfl fun K hK=>?_);refine s_load ?_;(first|(refine q_cellat (HT1.out _ M.new) ?_)|refine q_get M (by exact rfl) ?_);refine⟨rfl,hK _ ?_⟩;clear hK K)|((with_reducible refine s_list rfl fun K hK=>?_);refine s_pure ?_;go_simp;refine hK _ ?_;clear hK K)));(refine wpStill_nil ?_))
 go_wp2_with (with_reducible (first|refine wq M ?_|(refine wS M ?_;clear M;intro w M)|(refine wV M ?_;clear M;intro z w M)|(refine wR M ?_;clear M;intro q w M)))
 go_loopw [7] (fun i wr=> ∃ j:Nat,j≤n6∧i= .int .i64 j∧Mem (StaysB g w0) g w0 wr ⟨0,0⟩ (own ze [.string x.etype,.slice a6 n6 c6] 45::own za [.string x.name,.slice a1 n1 c1,.slice a2 n2 c2,.slice a3 n3 c3,.slice a4 n4 c4,.string x.etype,.slice a6 n6 c6] 47::[])∧Hid (AllZ f j)) (fun i _=>n6 - (intOf i).toNat)
 case atStart=>exact⟨0,by omega,rfl,M,allZ_zero _⟩
 case round=>
  clear M
  obtain⟨j,hj,rfl,M,HZ⟩:=hrel
  by_cases hlt:j<n6
  ·have hkl:j<x.evals.length:=by have:=N6.out;omega
   have hkt:j<tt.fields.length:=by have:=h3.out;omega
   obtain⟨ca,oa,rowa,hixa, -,hrra,hwa⟩:=SlF.rowAt (P:=Tryz.prog) XV.out (plainF_firm _) Tryz.underlying43 size_opd (i:=j) hkl
   have e1:rowa=opdC x.evals[j]:=hrra
   subst e1
   obtain⟨cf,of,rowf,hixf, -,hrrf,hwf⟩:=SlF.rowAt (P:=Tryz.prog) XT.out (plainF_firm _) Tryz.underlying49 size_fld (i:=j) hkt
   have e2:rowf=fldC tt.fields[j]:=hrrf
   subst e2
   have HR:=Lib.hid (fun wx hb=>(hwa wx hb).1)
   have HK0:Hid (∀ wx,Below w0.heap.size w0 wx→wx.cell? ⟨ca,oa,none⟩=some (.int .i64 x.evals[j].kind)):=fun wx hb=>(hwa wx hb).1 0 _ rfl
   have HFK:Hid (∀ wx,Below w0.heap.size w0 wx→wx.cell? ⟨cf,of+1,none⟩=some (.int .i64 tt.fields[j].kind)):=fun wx hb=>(hwf wx hb).1 1 _ rfl
   have hfj:f j=emitG ts x.whens tt x.evals[j] tt.fields[j].kind:=by
    rw[HF.out j hkl,List.getD_eq_getElem?_getD,List.getElem?_eq_getElem hkl,List.getD_eq_getElem?_getD,List.getElem?_eq_getElem hkt];rfl
   have HV:Hid (f j≠0→firstN f x.evals.length=f j):=fun h=>firstN_at HZ.out hkl h
   have HW:Hid (f j=0→AllZ f (j+1)):=fun h=>allZ_succ HZ.out h
   have HSo:=Lib.hid (HS.out x.evals[j] (List.getElem_mem hkl))
   have hjt:(j:Int)<t2:=by have:=NT.out;omega
   clear hwa hrra hwf hrrf HZ
   generalize x.evals[j]=o at HR HSo HK0 hfj
   generalize tt.fields[j].kind=fk at HFK hfj
   unfold opdC at HR HSo
   unfold SidePost at HSo
   unfold emitG at hfj
   by_cases hk2:o.kind=2
   ·rw[if_pos hk2]at hfj
    rw[hk2]at HK0
    have HE:Hid (firstN f x.evals.length=4):=by rw[←hfj];exact HV.out (by rw[hfj];decide)
    clear HV HW hfj hk2
    go_wp2_with (with_reducible (first|refine wq M ?_|refine wC (HK0.out _ M.new) ?_))
    go_ret
    rw[HE.out]
    exact⟨rfl,M.new⟩
   ·rw[if_neg hk2]at hfj
    have hkb:(o.kind==2)=false:=by simpa using hk2
    generalize sideE ts x.whens tt o=se at HSo hfj
    generalize sideK ts x.whens tt o=sk at HSo hfj
    generalize o.kind=ok at HK0 HR HSo hkb hk2
    by_cases hse:se=0
    ·subst hse
     rw[if_neg (by simp)]at hfj
     simp only[true_implies]at HSo
     by_cases hkk2:sk=fk
     ·subst hkk2
      rw[if_pos rfl]at hfj
      have HZ2:=Lib.hid (HW.out hfj)
      clear HV HW hfj hk2
      go_wp2_with (with_reducible (first|refine wq M ?_|refine wC (HK0.out _ M.new) ?_))
      (refine wp_region_any (by kernel_rfl) ?_;(try(change wpAny _ _ _ _ _ _ _ (World.drew _)));replace M:=M.drew;generalize World.drew _=w at M ⊢;have S:=St.o;((refine tk 0 (v:=?_) rfl (by kernel_rfl) rfl ?_ ?_;rotate_left;focus(intro w;go_simp;try with_reducible rfl));(try go_simp);(refine tk 1 (v:=?_) rfl (by kernel_rfl) rfl ?_ ?_;rotate_left;focus(intro w;go_simp;try with_reducible rfl));(try go_simp);(refine tk 3 (v:=?_) rfl (by kernel_rfl) rfl ?_ ?_;rotate_left;focus(intro w;go_simp;try with_reducible rfl));(try go_simp);(refine tk 4 (v:=?_) rfl (by kernel_rfl) rfl ?_ ?_;rotate_left;focus(intro w;go_simp;try with_reducible rfl));(try go_simp);(refine tk 5 (v:=?_) rfl (by kernel_rfl) rfl ?_ ?_;rotate_left;focus(intro w;go_simp;try with_reducible rfl));(try go_simp);(refine tk 7 (v:=?_) rfl (by kernel_rfl) rfl ?_ ?_;rotate_left;focus(intro w;go_simp;try with_reducible rfl));(try go_simp);(refine tk 9 (v:=?_) rfl (by kernel_rfl) rfl ?_ ?_;rotate_left;focus(intro w;go_simp;try with_reducible rfl));(try go_simp);replace S:=S.add 699;refine rd3 2 6 8 (by kernel_rfl) rfl rfl ?_ rfl rfl ?_ rfl rfl ?_<;>intro K hK);all_goals(first|(refine o_dst (some 52) ?_;(refine q_get M (by exact rfl) ?_);(all_goals(refine hK _ _ ?_;clear hK K;replace S:=S.add 4)))|(refine o_dst (some 56) ?_;(refine q_at (HT0.out _ M.new) (by rfl) ?_);(all_goals(refine hK _ _ ?_;clear hK K;replace S:=S.add 64)))|(refine o_dst (some 58) ?_;(refine q_get M (by exact rfl) ?_);(all_goals(refine hK _ _ ?_;clear hK K;replace S:=S.add 256))));all_goals(first|(replace S:St 703:=S;refine rd2 6 8 (by kernel_rfl) rfl rfl ?_ rfl rfl ?_<;>intro K hK)|(replace S:St 763:=S;refine rd2 2 8 (by kernel_rfl) rfl rfl ?_ rfl rfl ?_<;>intro K hK)|(replace S:St 955:=S;(refine tk 10 (v:=?_) rfl (by kernel_rfl) rfl ?_ ?_;rotate_left;focus(intro w;go_simp;try with_reducible rfl));(try go_simp);replace S:=S.add 1024;refine rd3 2 6 11 (by kernel_rfl) rfl rfl ?_ rfl rfl ?_ rfl rfl ?_<;>intro K hK));all_goals(first|(refine o_dst (some 56) ?_;(refine q_at (HT0.out _ M.new) (by rfl) ?_);(all_goals(refine hK _ _ ?_;clear hK K;replace S:=S.add 64)))|(refine o_dst (some 58) ?_;(refine q_get M (by exact rfl) ?_);(all_goals(refine hK _ _ ?_;clear hK K;replace S:=S.add 256)))|(refine o_dst (some 52) ?_;(refine q_get M (by exact rfl) ?_);(all_goals(refine hK _ _ ?_;clear hK K;replace S:=S.add 4)))|(refine o_dst (some 61) ?_;(refine q_at (HR.out _ M.new) (by rfl) ?_);(all_goals(refine hK _ _ ?_;clear hK K;replace S:=S.add 2048))));all_goals(first|(replace S:St 767:=S;refine rd1 8 (by kernel_rfl) rfl rfl ?_<;>intro K hK)|(replace S:St 959:=S;(refine tk 10 (v:=?_) rfl (by kernel_rfl) rfl ?_ ?_;rotate_left;focus(intro w;go_simp;try with_reducible rfl));(try go_simp);replace S:=S.add 1024;refine rd2 6 11 (by kernel_rfl) rfl rfl ?_ rfl rfl ?_<;>intro K hK)|(replace S:St 1019:=S;(refine tk 10 (v:=?_) rfl (by kernel_rfl) rfl ?_ ?_;rotate_left;focus(intro w;go_simp;try with_reducible rfl));(try go_simp);replace S:=S.add 1024;refine rd2 2 11 (by kernel_rfl) rfl rfl ?_ rfl rfl ?_<;>intro K hK)|(replace S:St 1983:=S;refine rd2 6 11 (by kernel_rfl) rfl rfl ?_ rfl rfl ?_<;>intro K hK)|(replace S:St 2043:=S;refine rd2 2 11 (by kernel_rfl) rfl rfl ?_ rfl rfl ?_<;>intro K hK)|(replace S:St 4027:=S;refine rd2 2 6 (by kernel_rfl) rfl rfl ?_ rfl rfl ?_<;>intro K hK));all_goals(first|(refine o_dst (some 58) ?_;(refine q_get M (by exact rfl) ?_);(all_goals(refine hK _ _ ?_;clear hK K;replace S:=S.add 256)))|(refine o_dst (some 56) ?_;(refine q_at (HT0.out _ M.new) (by rfl) ?_);(all_goals(refine hK _ _ ?_;clear hK K;replace S:=S.add 64)))|(refine o_dst (some 61) ?_;(refine q_at (HR.out _ M.new) (by rfl) ?_);(all_goals(refine hK _ _ ?_;clear hK K;replace S:=S.add 2048)))|(refine o_dst (some 52) ?_;(refine q_get M (by exact rfl) ?_);(all_goals(refine hK _ _ ?_;clear hK K;replace S:=S.add 4))));all_goals(first|(replace S:St 1023:=S;(refine tk 10 (v:=?_) rfl (by kernel_rfl) rfl ?_ ?_;rotate_left;focus(intro w;go_simp;try with_reducible rfl));(try go_simp);replace S:=S.add 1024;refine rd1 11 (by kernel_rfl) rfl rfl ?_<;>intro K hK)|(replace S:St 2047:=S;refine rd1 11 (by kernel_rfl) rfl rfl ?_<;>intro K hK)|(replace S:St 4031:=S;refine rd1 6 (by kernel_rfl) rfl rfl ?_<;>intro K hK)|(replace S:St 4091:=S;refine rd1 2 (by kernel_rfl) rfl rfl ?_<;>intro K hK));all_goals(first|(refine o_dst (some 61) ?_;(refine q_at (HR.out _ M.new) (by rfl) ?_);(all_goals(refine hK _ _ ?_;clear hK K;replace S:=S.add 2048)))|(refine o_dst (some 56) ?_;(refine q_at (HT0.out _ M.new) (by rfl) ?_);(all_goals(refine hK _ _ ?_;clear hK K;replace S:=S.add 64)))|(refine o_dst (some 52) ?_;(refine q_get M (by exact rfl) ?_);(all_goals(refine hK _ _ ?_;clear hK K;replace S:=S.add 4))));all_goals(refine rd1 12 (by kernel_rfl) rfl rfl ?_<;>intro K hK);all_goals(refine o_dst (some 62) ?_;(refine owp_of ?_;go_simp;(go_at_call 87;with_reducible refine(HSo.out _ M.new).mono ?_;rintro e w5 ⟨kk,rfl,hb5,hkk⟩;replace hkk:=hkk.symm;subst hkk;replace M:=M.below hb5;clear hb5);(try go_simp));(all_goals(refine hK _ _ ?_;clear hK K;replace S:=S.add 4096)));all_goals(clear S;((refine tk 13 (v:=?_) rfl (by kernel_rfl) rfl ?_ ?_;rotate_left;focus(intro w;go_simp;try with_reducible rfl));(try go_simp);(refine tk 14 (v:=?_) rfl (by kernel_rfl) rfl ?_ ?_;rotate_left;focus(intro w;go_simp;try with_reducible rfl));(try go_simp);(refine tk 15 (v:=?_) rfl (by kernel_rfl) rfl ?_ ?_;rotate_left;focus(intro w;go_simp;try with_reducible rfl));(try go_simp);(refine tk 16 (v:=?_) rfl (by kernel_rfl) rfl ?_ ?_;rotate_left;focus(intro w;go_simp;try with_reducible rfl));(try go_simp);(refine tk 17 (v:=?_) rfl (by kernel_rfl) rfl ?_ ?_;rotate_left;focus(intro w;go_simp;try with_reducible rfl));(try go_simp);refine wpAny_done (by kernel_rfl) ?_ _)))
      all_goals(go_wp2_with (first|((with_reducible refine o_listg fun K hK=>?_);refine q_cellat (HT1.out _ M.new) ?_;refine hK _ _ ?_;clear hK K)|((with_reducible refine o_listg fun K hK=>?_);refine q_cellat (HFK.out _ M.new) ?_;refine hK _ _ ?_;clear hK K)))
      all_goals
       go_roundw
       case rel=>exact⟨j+1,by omega,by go_num,M,HZ2⟩
       case measure=>simp[intOf];omega
     ·rw[if_neg hkk2]at hfj
      have hkc:(sk !=fk)=true:=by simpa using hkk2
      have HE:Hid (firstN f x.evals.length=13):=by rw[←hfj];exact HV.out (by rw[hfj];decide)
      clear HV HW hfj hk2 hkk2
      go_wp2_with (with_reducible (first|refine wq M ?_|refine wC (HK0.out _ M.new) ?_))
      (refine wp_region_any (by kernel_rfl) ?_;(try(change wpAny _ _ _ _ _ _ _ (World.drew _)));replace M:=M.drew;generalize World.drew _=w at M ⊢;have S:=St.o;((refine tk 0 (v:=?_) rfl (by kernel_rfl) rfl ?_ ?_;rotate_left;focus(intro w;go_simp;try with_reducible rfl));(try go_simp);(refine tk 1 (v:=?_) rfl (by kernel_rfl) rfl ?_ ?_;rotate_left;focus(intro w;go_simp;try with_reducible rfl));(try go_simp);(refine tk 3 (v:=?_) rfl (by kernel_rfl) rfl ?_ ?_;rotate_left;focus(intro w;go_simp;try with_reducible rfl));(try go_simp);(refine tk 4 (v:=?_) rfl (by kernel_rfl) rfl ?_ ?_;rotate_left;focus(intro w;go_simp;try with_reducible rfl));(try go_simp);(refine tk 5 (v:=?_) rfl (by kernel_rfl) rfl ?_ ?_;rotate_left;focus(intro w;go_simp;try with_reducible rfl));(try go_simp);(refine tk 7 (v:=?_) rfl (by kernel_rfl) rfl ?_ ?_;rotate_left;focus(intro w;go_simp;try with_reducible rfl));(try go_simp);(refine tk 9 (v:=?_) rfl (by kernel_rfl) rfl ?_ ?_;rotate_left;focus(intro w;go_simp;try with_reducible rfl));(try go_simp);replace S:=S.add 699;refine rd3 2 6 8 (by kernel_rfl) rfl rfl ?_ rfl rfl ?_ rfl rfl ?_<;>intro K hK);all_goals(first|(refine o_dst (some 52) ?_;(refine q_get M (by exact rfl) ?_);(all_goals(refine hK _ _ ?_;clear hK K;replace S:=S.add 4)))|(refine o_dst (some 56) ?_;(refine q_at (HT0.out _ M.new) (by rfl) ?_);(all_goals(refine hK _ _ ?_;clear hK K;replace S:=S.add 64)))|(refine o_dst (some 58) ?_;(refine q_get M (by exact rfl) ?_);(all_goals(refine hK _ _ ?_;clear hK K;replace S:=S.add 256))));all_goals(first|(replace S:St 703:=S;refine rd2 6 8 (by kernel_rfl) rfl rfl ?_ rfl rfl ?_<;>intro K hK)|(replace S:St 763:=S;refine rd2 2 8 (by kernel_rfl) rfl rfl ?_ rfl rfl ?_<;>intro K hK)|(replace S:St 955:=S;(refine tk 10 (v:=?_) rfl (by kernel_rfl) rfl ?_ ?_;rotate_left;focus(intro w;go_simp;try with_reducible rfl));(try go_simp);replace S:=S.add 1024;refine rd3 2 6 11 (by kernel_rfl) rfl rfl ?_ rfl rfl ?_ rfl rfl ?_<;>intro K hK));all_goals(first|(refine o_dst (some 56) ?_;(refine q_at (HT0.out _ M.new) (by rfl) ?_);(all_goals(refine hK _ _ ?_;clear hK K;replace S:=S.add 64)))|(refine o_dst (some 58) ?_;(refine q_get M (by exact rfl) ?_);(all_goals(refine hK _ _ ?_;clear hK K;replace S:=S.add 256)))|(refine o_dst (some 52) ?_;(refine q_get M (by exact rfl) ?_);(all_goals(refine hK _ _ ?_;clear hK K;replace S:=S.add 4)))|(refine o_dst (some 61) ?_;(refine q_at (HR.out _ M.new) (by rfl) ?_);(all_goals(refine hK _ _ ?_;clear hK K;replace S:=S.add 2048))));all_goals(first|(replace S:St 767:=S;refine rd1 8 (by kernel_rfl) rfl rfl ?_<;>intro K hK)|(replace S:St 959:=S;(refine tk 10 (v:=?_) rfl (by kernel_rfl) rfl ?_ ?_;rotate_left;focus(intro w;go_simp;try with_reducible rfl));(try go_simp);replace S:=S.add 1024;refine rd2 6 11 (by kernel_rfl) rfl rfl ?_ rfl rfl ?_<;>intro K hK)|(replace S:St 1019:=S;(refine tk 10 (v:=?_) rfl (by kernel_rfl) rfl ?_ ?_;rotate_left;focus(intro w;go_simp;try with_reducible rfl));(try go_simp);replace S:=S.add 1024;refine rd2 2 11 (by kernel_rfl) rfl rfl ?_ rfl rfl ?_<;>intro K hK)|(replace S:St 1983:=S;refine rd2 6 11 (by kernel_rfl) rfl rfl ?_ rfl rfl ?_<;>intro K hK)|(replace S:St 2043:=S;refine rd2 2 11 (by kernel_rfl) rfl rfl ?_ rfl rfl ?_<;>intro K hK)|(replace S:St 4027:=S;refine rd2 2 6 (by kernel_rfl) rfl rfl ?_ rfl rfl ?_<;>intro K hK));all_goals(first|(refine o_dst (some 58) ?_;(refine q_get M (by exact rfl) ?_);(all_goals(refine hK _ _ ?_;clear hK K;replace S:=S.add 256)))|(refine o_dst (some 56) ?_;(refine q_at (HT0.out _ M.new) (by rfl) ?_);(all_goals(refine hK _ _ ?_;clear hK K;replace S:=S.add 64)))|(refine o_dst (some 61) ?_;(refine q_at (HR.out _ M.new) (by rfl) ?_);(all_goals(refine hK _ _ ?_;clear hK K;replace S:=S.add 2048)))|(refine o_dst (some 52) ?_;(refine q_get M (by exact rfl) ?_);(all_goals(refine hK _ _ ?_;clear hK K;replace S:=S.add 4))));all_goals(first|(replace S:St 1023:=S;(refine tk 10 (v:=?_) rfl (by kernel_rfl) rfl ?_ ?_;rotate_left;focus(intro w;go_simp;try with_reducible rfl));(try go_simp);replace S:=S.add 1024;refine rd1 11 (by kernel_rfl) rfl rfl ?_<;>intro K hK)|(replace S:St 2047:=S;refine rd1 11 (by kernel_rfl) rfl rfl ?_<;>intro K hK)|(replace S:St 4031:=S;refine rd1 6 (by kernel_rfl) rfl rfl ?_<;>intro K hK)|(replace S:St 4091:=S;refine rd1 2 (by kernel_rfl) rfl rfl ?_<;>intro K hK));all_goals(first|(refine o_dst (some 61) ?_;(refine q_at (HR.out _ M.new) (by rfl) ?_);(all_goals(refine hK _ _ ?_;clear hK K;replace S:=S.add 2048)))|(refine o_dst (some 56) ?_;(refine q_at (HT0.out _ M.new) (by rfl) ?_);(all_goals(refine hK _ _ ?_;clear hK K;replace S:=S.add 64)))|(refine o_dst (some 52) ?_;(refine q_get M (by exact rfl) ?_);(all_goals(refine hK _ _ ?_;clear hK K;replace S:=S.add 4))));all_goals(refine rd1 12 (by kernel_rfl) rfl rfl ?_<;>intro K hK);all_goals(refine o_dst (some 62) ?_;(refine owp_of ?_;go_simp;(go_at_call 87;with_reducible refine(HSo.out _ M.new).mono ?_;rintro e w5 ⟨kk,rfl,hb5,hkk⟩;replace hkk:=hkk.symm;subst hkk;replace M:=M.below hb5;clear hb5);(try go_simp));(all_goals(refine hK _ _ ?_;clear hK K;replace S:=S.add 4096)));all_goals(clear S;((refine tk 13 (v:=?_) rfl (by kernel_rfl) rfl ?_ ?_;rotate_left;focus(intro w;go_simp;try with_reducible rfl));(try go_simp);(refine tk 14 (v:=?_) rfl (by kernel_rfl) rfl ?_ ?_;rotate_left;focus(intro w;go_simp;try with_reducible rfl));(try go_simp);(refine tk 15 (v:=?_) rfl (by kernel_rfl) rfl ?_ ?_;rotate_left;focus(intro w;go_simp;try with_reducible rfl));(try go_simp);(refine tk 16 (v:=?_) rfl (by kernel_rfl) rfl ?_ ?_;rotate_left;focus(intro w;go_simp;try with_reducible rfl));(try go_simp);(refine tk 17 (v:=?_) rfl (by kernel_rfl) rfl ?_ ?_;rotate_left;focus(intro w;go_simp;try with_reducible rfl));(try go_simp);refine wpAny_done (by kernel_rfl) ?_ _)))
      all_goals(go_wp2_with (first|((with_reducible refine o_listg fun K hK=>?_);refine q_cellat (HT1.out _ M.new) ?_;refine hK _ _ ?_;clear hK K)|((with_reducible refine o_listg fun K hK=>?_);refine q_cellat (HFK.out _ M.new) ?_;refine hK _ _ ?_;clear hK K)))
      all_goals go_ret
      all_goals(rw[HE.out];exact⟨rfl,M.new⟩)
    ·rw[if_pos hse]at hfj
     have hs1:(se==0)=false:=by simpa using hse
     have hs2:(se !=0)=true:=by simpa using hse
     have HE:Hid (firstN f x.evals.length=se):=by rw[←hfj];exact HV.out (by rw[hfj];exact hse)
     clear HV HW hfj hk2 hse
     go_wp2_with (with_reducible (first|refine wq M ?_|refine wC (HK0.out _ M.new) ?_))
     (refine wp_region_any (by kernel_rfl) ?_;(try(change wpAny _ _ _ _ _ _ _ (World.drew _)));replace M:=M.drew;generalize World.drew _=w at M ⊢;have S:=St.o;((refine tk 0 (v:=?_) rfl (by kernel_rfl) rfl ?_ ?_;rotate_left;focus(intro w;go_simp;try with_reducible rfl));(try go_simp);(refine tk 1 (v:=?_) rfl (by kernel_rfl) rfl ?_ ?_;rotate_left;focus(intro w;go_simp;try with_reducible rfl));(try go_simp);(refine tk 3 (v:=?_) rfl (by kernel_rfl) rfl ?_ ?_;rotate_left;focus(intro w;go_simp;try with_reducible rfl));(try go_simp);(refine tk 4 (v:=?_) rfl (by kernel_rfl) rfl ?_ ?_;rotate_left;focus(intro w;go_simp;try with_reducible rfl));(try go_simp);(refine tk 5 (v:=?_) rfl (by kernel_rfl) rfl ?_ ?_;rotate_left;focus(intro w;go_simp;try with_reducible rfl));(try go_simp);(refine tk 7 (v:=?_) rfl (by kernel_rfl) rfl ?_ ?_;rotate_left;focus(intro w;go_simp;try with_reducible rfl));(try go_simp);(refine tk 9 (v:=?_) rfl (by kernel_rfl) rfl ?_ ?_;rotate_left;focus(intro w;go_simp;try with_reducible rfl));(try go_simp);replace S:=S.add 699;refine rd3 2 6 8 (by kernel_rfl) rfl rfl ?_ rfl rfl ?_ rfl rfl ?_<;>intro K hK);all_goals(first|(refine o_dst (some 52) ?_;(refine q_get M (by exact rfl) ?_);(all_goals(refine hK _ _ ?_;clear hK K;replace S:=S.add 4)))|(refine o_dst (some 56) ?_;(refine q_at (HT0.out _ M.new) (by rfl) ?_);(all_goals(refine hK _ _ ?_;clear hK K;replace S:=S.add 64)))|(refine o_dst (some 58) ?_;(refine q_get M (by exact rfl) ?_);(all_goals(refine hK _ _ ?_;clear hK K;replace S:=S.add 256))));all_goals(first|(replace S:St 703:=S;refine rd2 6 8 (by kernel_rfl) rfl rfl ?_ rfl rfl ?_<;>intro K hK)|(replace S:St 763:=S;refine rd2 2 8 (by kernel_rfl) rfl rfl ?_ rfl rfl ?_<;>intro K hK)|(replace S:St 955:=S;(refine tk 10 (v:=?_) rfl (by kernel_rfl) rfl ?_ ?_;rotate_left;focus(intro w;go_simp;try with_reducible rfl));(try go_simp);replace S:=S.add 1024;refine rd3 2 6 11 (by kernel_rfl) rfl rfl ?_ rfl rfl ?_ rfl rfl ?_<;>intro K hK));all_goals(first|(refine o_dst (some 56) ?_;(refine q_at (HT0.out _ M.new) (by rfl) ?_);(all_goals(refine hK _ _ ?_;clear hK K;replace S:=S.add 64)))|(refine o_dst (some 58) ?_;(refine q_get M (by exact rfl) ?_);(all_goals(refine hK _ _ ?_;clear hK K;replace S:=S.add 256)))|(refine o_dst (some 52) ?_;(refine q_get M (by exact rfl) ?_);(all_goals(refine hK _ _ ?_;clear hK K;replace S:=S.add 4)))|(refine o_dst (some 61) ?_;(refine q_at (HR.out _ M.new) (by rfl) ?_);(all_goals(refine hK _ _ ?_;clear hK K;replace S:=S.add 2048))));all_goals(first|(replace S:St 767:=S;refine rd1 8 (by kernel_rfl) rfl rfl ?_<;>intro K hK)|(replace S:St 959:=S;(refine tk 10 (v:=?_) rfl (by kernel_rfl) rfl ?_ ?_;rotate_left;focus(intro w;go_simp;try with_reducible rfl));(try go_simp);replace S:=S.add 1024;refine rd2 6 11 (by kernel_rfl) rfl rfl ?_ rfl rfl ?_<;>intro K hK)|(replace S:St 1019:=S;(refine tk 10 (v:=?_) rfl (by kernel_rfl) rfl ?_ ?_;rotate_left;focus(intro w;go_simp;try with_reducible rfl));(try go_simp);replace S:=S.add 1024;refine rd2 2 11 (by kernel_rfl) rfl rfl ?_ rfl rfl ?_<;>intro K hK)|(replace S:St 1983:=S;refine rd2 6 11 (by kernel_rfl) rfl rfl ?_ rfl rfl ?_<;>intro K hK)|(replace S:St 2043:=S;refine rd2 2 11 (by kernel_rfl) rfl rfl ?_ rfl rfl ?_<;>intro K hK)|(replace S:St 4027:=S;refine rd2 2 6 (by kernel_rfl) rfl rfl ?_ rfl rfl ?_<;>intro K hK));all_goals(first|(refine o_dst (some 58) ?_;(refine q_get M (by exact rfl) ?_);(all_goals(refine hK _ _ ?_;clear hK K;replace S:=S.add 256)))|(refine o_dst (some 56) ?_;(refine q_at (HT0.out _ M.new) (by rfl) ?_);(all_goals(refine hK _ _ ?_;clear hK K;replace S:=S.add 64)))|(refine o_dst (some 61) ?_;(refine q_at (HR.out _ M.new) (by rfl) ?_);(all_goals(refine hK _ _ ?_;clear hK K;replace S:=S.add 2048)))|(refine o_dst (some 52) ?_;(refine q_get M (by exact rfl) ?_);(all_goals(refine hK _ _ ?_;clear hK K;replace S:=S.add 4))));all_goals(first|(replace S:St 1023:=S;(refine tk 10 (v:=?_) rfl (by kernel_rfl) rfl ?_ ?_;rotate_left;focus(intro w;go_simp;try with_reducible rfl));(try go_simp);replace S:=S.add 1024;refine rd1 11 (by kernel_rfl) rfl rfl ?_<;>intro K hK)|(replace S:St 2047:=S;refine rd1 11 (by kernel_rfl) rfl rfl ?_<;>intro K hK)|(replace S:St 4031:=S;refine rd1 6 (by kernel_rfl) rfl rfl ?_<;>intro K hK)|(replace S:St 4091:=S;refine rd1 2 (by kernel_rfl) rfl rfl ?_<;>intro K hK));all_goals(first|(refine o_dst (some 61) ?_;(refine q_at (HR.out _ M.new) (by rfl) ?_);(all_goals(refine hK _ _ ?_;clear hK K;replace S:=S.add 2048)))|(refine o_dst (some 56) ?_;(refine q_at (HT0.out _ M.new) (by rfl) ?_);(all_goals(refine hK _ _ ?_;clear hK K;replace S:=S.add 64)))|(refine o_dst (some 52) ?_;(refine q_get M (by exact rfl) ?_);(all_goals(refine hK _ _ ?_;clear hK K;replace S:=S.add 4))));all_goals(refine rd1 12 (by kernel_rfl) rfl rfl ?_<;>intro K hK);all_goals(refine o_dst (some 62) ?_;(refine owp_of ?_;go_simp;(go_at_call 87;with_reducible refine(HSo.out _ M.new).mono ?_;rintro e w5 ⟨kk,rfl,hb5, -⟩;replace M:=M.below hb5;clear hb5);(try go_simp));(all_goals(refine hK _ _ ?_;clear hK K;replace S:=S.add 4096)));all_goals(clear S;((refine tk 13 (v:=?_) rfl (by kernel_rfl) rfl ?_ ?_;rotate_left;focus(intro w;go_simp;try with_reducible rfl));(try go_simp);(refine tk 14 (v:=?_) rfl (by kernel_rfl) rfl ?_ ?_;rotate_left;focus(intro w;go_simp;try with_reducible rfl));(try go_simp);(refine tk 15 (v:=?_) rfl (by kernel_rfl) rfl ?_ ?_;rotate_left;focus(intro w;go_simp;try with_reducible rfl));(try go_simp);(refine tk 16 (v:=?_) rfl (by kernel_rfl) rfl ?_ ?_;rotate_left;focus(intro w;go_simp;try with_reducible rfl));(try go_simp);(refine tk 17 (v:=?_) rfl (by kernel_rfl) rfl ?_ ?_;rotate_left;focus(intro w;go_simp;try with_reducible rfl));(try go_simp);refine wpAny_done (by kernel_rfl) ?_ _)))
     all_goals(go_wp2_with (with_reducible (first|refine wq M ?_|(refine wS M ?_;clear M;intro w M)|(refine wV M ?_;clear M;intro z w M)|(refine wR M ?_;clear M;intro q w M))))
     all_goals go_ret
     all_goals(rw[HE.out];exact⟨rfl,M.new⟩)
  ·have HE:Hid (firstN f x.evals.length=0):=by
    have e:j=x.evals.length:=by have:=N6.out;omega
    exact firstN_zero (e▸HZ.out)
   go_wp2_with (with_reducible refine wq M ?_)
   go_ret
   rw[HE.out]
   exact⟨rfl,M.new⟩
theorem emitFault_any(hg:g<w0.heap.size)(hX:SlF F w0 2 typF ao n cap ts)(hts: ∀ t∈ts,typOk t)(x:Rul)(row:List Value)(h:rulF G w0 row x)(hkn: ∀ p∈x.whens,typI ts p.type<ts.length)(hev: ∀ o∈x.evals,o.vtext.size≤maxLen):Calls Tryz.prog 56 #[.slice ao n cap,.agg row.toArray] w0 fun e w' =>e= .returned (.int .i64 (emitE ts x))∧Below w0.heap.size w0 w' :=by
 cases h1:emS x.etype with
 |true=>exact emitFault_none hg hX hts x row h hkn hev h1
 |false=>
  by_cases h2:typI ts x.etype<ts.length
  ·by_cases h3:x.evals.length=(typAt ts x.etype).fields.length
   ·exact emitFault_loop hg hX hts x row h hkn hev h1 h2 h3
   ·exact emitFault_len hg hX hts x row h hkn hev h1 h2 h3
  ·exact emitFault_type hg hX hts x row h hkn hev h1 (by omega)
end
end Go.Proofs.YtncmghnhfipklaaGreatDoor
