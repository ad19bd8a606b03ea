/-
  A writer of tokens: operands, conditions, patterns. Printed by shx.py.
-/
import Derived.Test.YtcebfkdhicbmkaaDoorShW
namespace Go.Proofs.YtcebfkdhicbmkaaDoor
open Go.RowKit
set_option linter.unusedVariables false
set_option linter.unusedSimpArgs false
theorem Mem.front{At:PS→World→Prop}{b:Nat}{u w:World}{s:PS}{L:List Ent}(A:List Ent){e1 e2:Ent}(M:Mem At b u w s (A++e1::e2::L)):Mem At b u w s (e1::e2::(A++L)):=M.perm ((List.perm_middle (l₁:=A)).trans ((List.perm_middle (l₁:=A)).cons _))
theorem Mem.back{At:PS→World→Prop}{b:Nat}{u w:World}{s:PS}{L:List Ent}(A:List Ent){e1 e2:Ent}(M:Mem At b u w s (e1::e2::(A++L))):Mem At b u w s (A++e1::e2::L):=M.perm (((List.perm_middle (l₁:=A)).trans ((List.perm_middle (l₁:=A)).cons _)).symm)
theorem Mem.f1{At:PS→World→Prop}{b:Nat}{u w:World}{s:PS}{L:List Ent}{e1 e2 x0:Ent}(M:Mem At b u w s (x0::e1::e2::L)):Mem At b u w s (e1::e2::x0::L):=Mem.front [x0] M
theorem Mem.b1{At:PS→World→Prop}{b:Nat}{u w:World}{s:PS}{L:List Ent}{e1 e2 x0:Ent}(M:Mem At b u w s (e1::e2::x0::L)):Mem At b u w s (x0::e1::e2::L):=Mem.back [x0] M
theorem Mem.f2{At:PS→World→Prop}{b:Nat}{u w:World}{s:PS}{L:List Ent}{e1 e2 x0 x1:Ent}(M:Mem At b u w s (x0::x1::e1::e2::L)):Mem At b u w s (e1::e2::x0::x1::L):=Mem.front [x0,x1] M
theorem Mem.b2{At:PS→World→Prop}{b:Nat}{u w:World}{s:PS}{L:List Ent}{e1 e2 x0 x1:Ent}(M:Mem At b u w s (e1::e2::x0::x1::L)):Mem At b u w s (x0::x1::e1::e2::L):=Mem.back [x0,x1] M
theorem Mem.f3{At:PS→World→Prop}{b:Nat}{u w:World}{s:PS}{L:List Ent}{e1 e2 x0 x1 x2:Ent}(M:Mem At b u w s (x0::x1::x2::e1::e2::L)):Mem At b u w s (e1::e2::x0::x1::x2::L):=Mem.front [x0,x1,x2] M
theorem Mem.b3{At:PS→World→Prop}{b:Nat}{u w:World}{s:PS}{L:List Ent}{e1 e2 x0 x1 x2:Ent}(M:Mem At b u w s (e1::e2::x0::x1::x2::L)):Mem At b u w s (x0::x1::x2::e1::e2::L):=Mem.back [x0,x1,x2] M
theorem Mem.f4{At:PS→World→Prop}{b:Nat}{u w:World}{s:PS}{L:List Ent}{e1 e2 x0 x1 x2 x3:Ent}(M:Mem At b u w s (x0::x1::x2::x3::e1::e2::L)):Mem At b u w s (e1::e2::x0::x1::x2::x3::L):=Mem.front [x0,x1,x2,x3] M
theorem Mem.b4{At:PS→World→Prop}{b:Nat}{u w:World}{s:PS}{L:List Ent}{e1 e2 x0 x1 x2 x3:Ent}(M:Mem At b u w s (e1::e2::x0::x1::x2::x3::L)):Mem At b u w s (x0::x1::x2::x3::e1::e2::L):=Mem.back [x0,x1,x2,x3] M
def OpdSh(o:Opd):Prop:=(o.kind=3→Nm o.var∧Nm o.field)∧(o.kind=2→Nm o.field)∧ -4611686018427387904≤o.vint∧o.vint≤4611686018427387904
section
variable {g zw:Nat} {u w0:World} {Kt:List Ent} {toks:List Tkn} {lv:Value}
theorem puF1(a:ByteArray)(ha:0<a.size)(q:Nat)(hb:toks.length+1≤100000)(M:Mem (StaysB g u) g u w0 ⟨0,0⟩ (own zw [lv] 35::slc u.heap.size 56 3 tknF lv toks::own q [.string a] 9::Kt)):
  Calls Tryd.prog 8 #[.pointer (some ⟨zw,0,none⟩),.slice (some ⟨q,0,none⟩) 1 1] w0 (WrP g zw u Kt (toks++[wordT a])):=
 (put_any [a] (by simpa using ha) q hb M).mono fun e w' ⟨h1,lv',M'⟩=>⟨h1,lv',M'.third⟩
theorem puF2(a b:ByteArray)(h:0<a.size∧0<b.size)(q:Nat)(hb:toks.length+2≤100000)(M:Mem (StaysB g u) g u w0 ⟨0,0⟩ (own zw [lv] 35::slc u.heap.size 56 3 tknF lv toks::own q [.string a,.string b] 9::Kt)):
  Calls Tryd.prog 8 #[.pointer (some ⟨zw,0,none⟩),.slice (some ⟨q,0,none⟩) 2 2] w0 (WrP g zw u Kt (toks++[wordT a,wordT b])):=
 (put_any [a,b] (by simp[h.1,h.2]) q hb M).mono fun e w' ⟨h1,lv',M'⟩=>⟨h1,lv',M'.third⟩
theorem puF3(a b c:ByteArray)(h:0<a.size∧0<b.size∧0<c.size)(q:Nat)(hb:toks.length+3≤100000)(M:Mem (StaysB g u) g u w0 ⟨0,0⟩ (own zw [lv] 35::slc u.heap.size 56 3 tknF lv toks::own q [.string a,.string b,.string c] 9::Kt)):
  Calls Tryd.prog 8 #[.pointer (some ⟨zw,0,none⟩),.slice (some ⟨q,0,none⟩) 3 3] w0 (WrP g zw u Kt (toks++[wordT a,wordT b,wordT c])):=
 (put_any [a,b,c] (by simp[h.1,h.2.1,h.2.2]) q hb M).mono fun e w' ⟨h1,lv',M'⟩=>⟨h1,lv',M'.third⟩
set_option maxRecDepth 8000 in
set_option maxHeartbeats 8000000 in
theorem wside_any(o:Opd)(hs:OpdSh o)(hb:toks.length+3≤100000)(M:Mem (StaysB g u) g u w0 ⟨0,0⟩ (own zw [lv] 35::slc u.heap.size 56 3 tknF lv toks::Kt)):
  Calls Tryd.prog 21 #[.pointer (some ⟨zw,0,none⟩),.agg #[.int .i64 o.kind,.int .i64 o.vkind,.int .i64 o.vint,.string o.vtext,.string o.var,.string o.field]] w0 (WrP g zw u Kt (toks++shSide o)):=by
 have hb1:Hid (toks.length+1≤100000):=by show _≤_;omega
 have hb2:Hid (toks.length+2≤100000):=by show _≤_;omega
 have hb3:=Lib.hid hb
 have HLN:Hid (toks.length≤100000):=by show _≤_;omega
 have HN:Hid (-4611686018427387904≤o.vint∧o.vint≤4611686018427387904):=hs.2.2
 unfold shSide
 by_cases h3:o.kind=3
 ·rw[if_pos h3]
  have HV:Hid (0<o.var.size∧0<(⟨#[46]⟩:ByteArray).size∧0<o.field.size):=⟨(hs.1 h3).1.pos,by decide,(hs.1 h3).2.pos⟩
  rw[h3]
  clear h3 hs hb
  go_enter Tryd.func21,Tryd.ntmps21
  go_wp2_with (first|(with_reducible (first|(refine wB M ?_;clear M;intro zb w1 M)|refine wq M ?_|(refine wS M ?_;clear M;intro w M)|(refine wV M ?_;clear M;intro z w M)|(refine wR M ?_;clear M;intro q w M)|(refine w_ (q_rowv1 M ?_);clear M;intro q w M)|(refine w_ (q_rowv2 M ?_);clear M;intro q w M)|(refine w_ (q_rowv3 M ?_);clear M;intro q w M)))|(go_at_call 8;with_reducible refine(puF3 o.var ⟨#[46]⟩ o.field HV.out _ hb3.out M.f2).mono ?_;rintro e w5 ⟨rfl,lv5,M⟩;replace M:=M.b1))
  go_end0
  exact⟨rfl,lv5,M.drop⟩
 ·rw[if_neg h3]
  have hq3:(o.kind==3)=false:=by simpa using h3
  by_cases h2:o.kind=2
  ·rw[if_pos h2]
   have HF:Hid (0<o.field.size):=(hs.2.1 h2).pos
   rw[h2]
   clear h3 hs hb h2 hq3
   go_enter Tryd.func21,Tryd.ntmps21
   go_wp2_with (first|(with_reducible (first|(refine wB M ?_;clear M;intro zb w1 M)|refine wq M ?_|(refine wS M ?_;clear M;intro w M)|(refine wV M ?_;clear M;intro z w M)|(refine wR M ?_;clear M;intro q w M)|(refine w_ (q_rowv1 M ?_);clear M;intro q w M)|(refine w_ (q_rowv2 M ?_);clear M;intro q w M)|(refine w_ (q_rowv3 M ?_);clear M;intro q w M)))|(go_at_call 8;with_reducible refine(puF1 o.field HF.out _ hb1.out M.f2).mono ?_;rintro e w5 ⟨rfl,lv5,M⟩;replace M:=M.b1))
   go_end0
   exact⟨rfl,lv5,M.drop⟩
  ·rw[if_neg h2]
   have hq2:(o.kind==2)=false:=by simpa using h2
   by_cases h1:o.vkind=1
   ·rw[if_pos h1,h1]
    clear h3 h2 h1 hs hb
    go_enter Tryd.func21,Tryd.ntmps21
    go_wp2_with (first|(with_reducible (first|(refine wB M ?_;clear M;intro zb w1 M)|refine wq M ?_|(refine wS M ?_;clear M;intro w M)|(refine wV M ?_;clear M;intro z w M)|(refine wR M ?_;clear M;intro q w M)|(refine w_ (q_rowv1 M ?_);clear M;intro q w M)|(refine w_ (q_rowv2 M ?_);clear M;intro q w M)|(refine w_ (q_rowv3 M ?_);clear M;intro q w M)))|(go_at_call 19;with_reducible refine(number_any _ HN.out hb2.out M.f1).mono ?_;rintro e w5 ⟨rfl,lv5,M⟩;replace M:=M.b1))
    go_end0
    exact⟨rfl,lv5,M.drop⟩
   ·rw[if_neg h1]
    have hq1:(o.vkind==1)=false:=by simpa using h1
    clear h3 h2 h1 hs hb
    go_enter Tryd.func21,Tryd.ntmps21
    go_upto_region 1 with(first|(with_reducible (first|(refine wB M ?_;clear M;intro zb w1 M)|refine wq M ?_|(refine wS M ?_;clear M;intro w M)|(refine wV M ?_;clear M;intro z w M)|(refine wR M ?_;clear M;intro q w M))))
    (refine wp_region_any (by kernel_rfl) ?_;(try(change wpAny _ _ _ _ _ _ _ (World.drew _)));replace M:=M.drew;generalize World.drew _=w at M ⊢;have S:=St.o;((refine tk 0 (v:=?_) rfl (by kernel_rfl) rfl ?_ ?_;rotate_left;focus(intro w;go_simp;try with_reducible rfl));(try go_simp);(refine tk 1 (v:=?_) rfl (by kernel_rfl) rfl ?_ ?_;rotate_left;focus(intro w;go_simp;try with_reducible rfl));(try go_simp);(refine tk 2 (v:=?_) rfl (by kernel_rfl) rfl ?_ ?_;rotate_left;focus(intro w;go_simp;try with_reducible rfl));(try go_simp);(refine tk 3 (v:=?_) rfl (by kernel_rfl) rfl ?_ ?_;rotate_left;focus(intro w;go_simp;try with_reducible rfl));(try go_simp);(refine tk 5 (v:=?_) rfl (by kernel_rfl) rfl ?_ ?_;rotate_left;focus(intro w;go_simp;try with_reducible rfl));(try go_simp);(refine tk 6 (v:=?_) rfl (by kernel_rfl) rfl ?_ ?_;rotate_left;focus(intro w;go_simp;try with_reducible rfl));(try go_simp);replace S:=S.add 111;refine rd2 4 7 (by kernel_rfl) rfl rfl ?_ rfl rfl ?_<;>intro K hK);all_goals(first|(refine o_dst (some 8) ?_;(first|(refine q_app (R:=tknF) tknF_firm M 3 rfl ⟨3,o.vtext,0⟩ rfl (by rfl) (by rfl) HLN.out ?_;clear M;intro ra2 rc2 w M;(try simp only[List.set_cons_zero,List.set_cons_succ]at M))|(first|refine q_all M (by rfl) ?_|refine q_get M (by exact rfl) ?_|refine q_prt M (by rfl) ?_));(all_goals(refine hK _ _ ?_;clear hK K;replace S:=S.add 16)))|(refine o_dst (some 11) ?_;(first|(refine q_app (R:=tknF) tknF_firm M 3 rfl ⟨3,o.vtext,0⟩ rfl (by rfl) (by rfl) HLN.out ?_;clear M;intro ra2 rc2 w M;(try simp only[List.set_cons_zero,List.set_cons_succ]at M))|(first|refine q_all M (by rfl) ?_|refine q_get M (by exact rfl) ?_|refine q_prt M (by rfl) ?_));(all_goals(refine hK _ _ ?_;clear hK K;replace S:=S.add 128))));all_goals(first|(replace S:St 127:=S;refine rd1 7 (by kernel_rfl) rfl rfl ?_<;>intro K hK)|(replace S:St 239:=S;(refine tk 8 (v:=?_) rfl (by kernel_rfl) rfl ?_ ?_;rotate_left;focus(intro w;go_simp;try with_reducible rfl));(try go_simp);replace S:=S.add 256;refine rd2 4 9 (by kernel_rfl) rfl rfl ?_ rfl rfl ?_<;>intro K hK));all_goals(first|(refine o_dst (some 11) ?_;(first|(refine q_app (R:=tknF) tknF_firm M 3 rfl ⟨3,o.vtext,0⟩ rfl (by rfl) (by rfl) HLN.out ?_;clear M;intro ra2 rc2 w M;(try simp only[List.set_cons_zero,List.set_cons_succ]at M))|(first|refine q_all M (by rfl) ?_|refine q_get M (by exact rfl) ?_|refine q_prt M (by rfl) ?_));(all_goals(refine hK _ _ ?_;clear hK K;replace S:=S.add 128)))|(refine o_dst (some 8) ?_;(first|(refine q_app (R:=tknF) tknF_firm M 3 rfl ⟨3,o.vtext,0⟩ rfl (by rfl) (by rfl) HLN.out ?_;clear M;intro ra2 rc2 w M;(try simp only[List.set_cons_zero,List.set_cons_succ]at M))|(first|refine q_all M (by rfl) ?_|refine q_get M (by exact rfl) ?_|refine q_prt M (by rfl) ?_));(all_goals(refine hK _ _ ?_;clear hK K;replace S:=S.add 16)))|(refine o_dst (some 13) ?_;(first|(refine q_app (R:=tknF) tknF_firm M 3 rfl ⟨3,o.vtext,0⟩ rfl (by rfl) (by rfl) HLN.out ?_;clear M;intro ra2 rc2 w M;(try simp only[List.set_cons_zero,List.set_cons_succ]at M))|(refine q_row M (by rfl) ?_;clear M;intro q w M));(all_goals(refine hK _ _ ?_;clear hK K;replace S:=S.add 512))));all_goals(first|(replace S:St 255:=S;(refine tk 8 (v:=?_) rfl (by kernel_rfl) rfl ?_ ?_;rotate_left;focus(intro w;go_simp;try with_reducible rfl));(try go_simp);replace S:=S.add 256;refine rd1 9 (by kernel_rfl) rfl rfl ?_<;>intro K hK)|(replace S:St 511:=S;refine rd1 9 (by kernel_rfl) rfl rfl ?_<;>intro K hK)|(replace S:St 1007:=S;refine rd1 4 (by kernel_rfl) rfl rfl ?_<;>intro K hK));all_goals(first|(refine o_dst (some 13) ?_;(first|(refine q_app (R:=tknF) tknF_firm M 3 rfl ⟨3,o.vtext,0⟩ rfl (by rfl) (by rfl) HLN.out ?_;clear M;intro ra2 rc2 w M;(try simp only[List.set_cons_zero,List.set_cons_succ]at M))|(refine q_row M (by rfl) ?_;clear M;intro q w M));(all_goals(refine hK _ _ ?_;clear hK K;replace S:=S.add 512)))|(refine o_dst (some 8) ?_;(first|(refine q_app (R:=tknF) tknF_firm M 3 rfl ⟨3,o.vtext,0⟩ rfl (by rfl) (by rfl) HLN.out ?_;clear M;intro ra2 rc2 w M;(try simp only[List.set_cons_zero,List.set_cons_succ]at M))|(first|refine q_all M (by rfl) ?_|refine q_get M (by exact rfl) ?_|refine q_prt M (by rfl) ?_));(all_goals(refine hK _ _ ?_;clear hK K;replace S:=S.add 16))));all_goals(refine rd1 10 (by kernel_rfl) rfl rfl ?_<;>intro K hK);all_goals(refine o_dst (some 14) ?_;(first|(refine q_app (R:=tknF) tknF_firm M 3 rfl ⟨3,o.vtext,0⟩ rfl (by rfl) (by rfl) HLN.out ?_;clear M;intro ra2 rc2 w M;(try simp only[List.set_cons_zero,List.set_cons_succ]at M))|(refine owp_of ?_;go_simp));(all_goals(refine hK _ _ ?_;clear hK K;replace S:=S.add 1024)));all_goals((refine tk 11 (v:=?_) rfl (by kernel_rfl) rfl ?_ ?_;rotate_left;focus(intro w;go_simp;try with_reducible rfl));(try go_simp);(refine tk 12 (v:=?_) rfl (by kernel_rfl) rfl ?_ ?_;rotate_left;focus(intro w;go_simp;try with_reducible rfl));(try go_simp);replace S:=S.add 6144;refine rd1 13 (by kernel_rfl) rfl rfl ?_<;>intro K hK);all_goals(refine o_dst none ?_;(first|(refine q_app (R:=tknF) tknF_firm M 3 rfl ⟨3,o.vtext,0⟩ rfl (by rfl) (by rfl) HLN.out ?_;clear M;intro ra2 rc2 w M;(try simp only[List.set_cons_zero,List.set_cons_succ]at M))|((first|refine q_setc M (by rfl) (by rfl) ?_|refine q_set M (by rfl) (by rfl) ?_|refine q_put M (by rfl) (by rfl) (by rfl) ?_);clear M;intro w M;simp only[List.set_cons_zero,List.set_cons_succ]at M));(all_goals(refine hK _ _ ?_;clear hK K;replace S:=S.add 8192)));all_goals(clear S;(refine wpAny_done (by kernel_rfl) ?_ _)))
    all_goals
     go_wp2_with (first|(with_reducible (first|refine wq M ?_|(refine wS M ?_;clear M;intro w M)|(refine wV M ?_;clear M;intro z w M)|(refine wR M ?_;clear M;intro q w M))))
     go_end0
     exact⟨rfl,.slice ra2 (toks.length+1) rc2,M.drop.drop⟩
end
end Go.Proofs.YtcebfkdhicbmkaaDoor
