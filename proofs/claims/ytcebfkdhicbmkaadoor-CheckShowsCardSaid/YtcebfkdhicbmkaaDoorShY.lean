/-
  A writer of tokens: conditions within brackets. Printed by shy.py.
-/
import Derived.Test.YtcebfkdhicbmkaaDoorShX
namespace Go.Proofs.YtcebfkdhicbmkaaDoor
open Go.RowKit
set_option linter.unusedVariables false
set_option linter.unusedSimpArgs false
def CndSh:Nat→Cond→Prop
 |0,_=>False
 |f+1,c=>(c.kind=3∧c.subs.length=1∧ ∀ s∈c.subs,CndSh f s)∨((c.kind=1∨c.kind=2)∧ ∀ s∈c.subs,CndSh f s)∨((c.kind=4∨c.kind=5∨c.kind=6∨c.kind=7)∧OpdSh c.left∧OpdSh c.right)
section
variable {F:Nat→Prop} {g zw:Nat} {u w0:World} {Kt:List Ent} {toks:List Tkn} {lv:Value} {f:Nat}
def CondW(F:Nat→Prop)(g zw:Nat)(u:World)(f:Nat):Prop:= ∀ (c:Cond) (ao:Option Addr) (n cap:Nat) (w0:World) (Kt:List Ent) (toks:List Tkn) (lv:Value),CndSh f c→SlF F u 14 CondF ao n cap c.subs→toks.length+(shCond f c).length+3≤100000→Mem (StaysB g u) g u w0 ⟨0,0⟩ (own zw [lv] 35::slc u.heap.size 56 3 tknF lv toks::Kt)→
  Calls Tryd.prog 43 #[.pointer (some ⟨zw,0,none⟩),.agg (cnd14 c.kind ao n cap c.left c.right).toArray] w0 (WrP g zw u Kt (toks++shCond f c))
theorem brk_len{b:Bool}{l:List Tkn}:l.length≤(shBrk b l).length:=by unfold shBrk;split<;>simp<;>omega
set_option maxRecDepth 8000 in
set_option maxHeartbeats 8000000 in
theorem within_any(IH:CondW F g zw u f)(c:Cond){ao:Option Addr}{n cap:Nat}(b:Bool)(hc:CndSh f c)(hS:SlF F u 14 CondF ao n cap c.subs)(hb:toks.length+(shBrk b (shCond f c)).length+3≤100000)(M:Mem (StaysB g u) g u w0 ⟨0,0⟩ (own zw [lv] 35::slc u.heap.size 56 3 tknF lv toks::Kt)):
  Calls Tryd.prog 68 #[.pointer (some ⟨zw,0,none⟩),.agg (cnd14 c.kind ao n cap c.left c.right).toArray,.bool b] w0 (WrP g zw u Kt (toks++shBrk b (shCond f c))):=by
 have HI:Hid (∀ wx Kt lv,Mem (StaysB g u) g u wx ⟨0,0⟩ (own zw [lv] 35::slc u.heap.size 56 3 tknF lv (toks++(if b=true then [wordT ⟨#[40]⟩]else []))::Kt)→Calls Tryd.prog 43 #[.pointer (some ⟨zw,0,none⟩),.agg (cnd14 c.kind ao n cap c.left c.right).toArray] wx (WrP g zw u Kt (toks++(if b=true then [wordT ⟨#[40]⟩]else [])++shCond f c))):=fun wx Kt lv M2=>
  IH c ao n cap wx Kt _ lv hc hS (by cases b<;>simp[shBrk]at hb ⊢ <;>omega) M2
 have HO:Hid (0<(⟨#[40]⟩:ByteArray).size):=Lib.hid (by decide)
 have HP:Hid (0<(⟨#[41]⟩:ByteArray).size):=Lib.hid (by decide)
 have hb1:Hid (toks.length+1≤100000):=by show _≤_;omega
 have hb2:Hid (b=true→(toks++[wordT ⟨#[40]⟩]++shCond f c).length+1≤100000):=fun h=>by subst h;simp[shBrk]at hb ⊢;omega
 unfold cnd14 at HI ⊢
 clear IH hc hS hb
 generalize shCond f c=tl at HI hb2 ⊢
 cases b with
 |false=>
  rw[if_neg (by simp),List.append_nil]at HI
  go_enter Tryd.func68,Tryd.ntmps68
  go_wp2_with (first|(with_reducible (first|(refine wB M ?_;clear M;intro zb w1 M)|refine wq M ?_|(refine wS M ?_;clear M;intro w M)|(refine wV M ?_;clear M;intro z w M)|(refine wR M ?_;clear M;intro q w M)))|(go_at_call 43;with_reducible refine(HI.out _ _ _ M.f1).mono ?_;rintro e w5 ⟨rfl,lv5,M⟩;replace M:=M.b1))
  go_end0
  exact⟨rfl,lv5,M.drop⟩
 |true=>
  rw[if_pos rfl]at HI
  have hb3:=Lib.hid (hb2.out rfl)
  clear hb2
  go_enter Tryd.func68,Tryd.ntmps68
  go_wp2_with (first|(with_reducible (first|(refine wB M ?_;clear M;intro zb w1 M)|refine wq M ?_|(refine wS M ?_;clear M;intro w M)|(refine wV M ?_;clear M;intro z w M)|(refine wR M ?_;clear M;intro q w M)|(refine w_ (q_rowv1 M ?_);clear M;intro q w M)|(refine w_ (q_rowv2 M ?_);clear M;intro q w M)|(refine w_ (q_rowv3 M ?_);clear M;intro q w M)))|(go_at_call 8;with_reducible refine(puF1 ⟨#[40]⟩ HO.out _ hb1.out M.f2).mono ?_;rintro e w5 ⟨rfl,lv5,M⟩;replace M:=M.b1)|(go_at_call 43;with_reducible refine(HI.out _ _ _ M.f1).mono ?_;rintro e w5 ⟨rfl,lv5,M⟩;replace M:=M.b1)|(go_at_call 8;with_reducible refine(puF1 ⟨#[41]⟩ HP.out _ hb3.out M.f2).mono ?_;rintro e w5 ⟨rfl,lv5,M⟩;replace M:=M.b1))
  go_end0
  refine⟨rfl,lv5,?_⟩
  have M2:=M.drop
  unfold shBrk
  rw[if_pos rfl]
  simp only[List.append_assoc,List.singleton_append,List.cons_append,List.nil_append]at M2 ⊢
  exact M2
end
section
variable {F:Nat→Prop} {g zw:Nat} {u w0:World} {Kt:List Ent} {toks:List Tkn} {lv:Value} {f:Nat} {c:Cond} {ao:Option Addr} {n cap:Nat}
set_option maxRecDepth 8000 in
set_option maxHeartbeats 8000000 in
theorem cond_leaf(hk:c.kind=4∨c.kind=5∨c.kind=6∨c.kind=7)(h1:OpdSh c.left)(h2:OpdSh c.right)(hb:toks.length+(shSide c.left++wordT (cmpT c.kind)::shSide c.right).length+3≤100000)(M:Mem (StaysB g u) g u w0 ⟨0,0⟩ (own zw [lv] 35::slc u.heap.size 56 3 tknF lv toks::Kt)):
  Calls Tryd.prog 43 #[.pointer (some ⟨zw,0,none⟩),.agg (cnd14 c.kind ao n cap c.left c.right).toArray] w0 (WrP g zw u Kt (toks++(shSide c.left++wordT (cmpT c.kind)::shSide c.right))):=by
 have H1:=Lib.hid h1
 have H2:=Lib.hid h2
 have hb1:Hid (toks.length+3≤100000):=by show _≤_;omega
 have hb2:Hid ((toks++shSide c.left).length+1≤100000):=by show _≤_;simp at hb ⊢;omega
 have hb3:Hid ((toks++shSide c.left++[wordT (cmpT c.kind)]).length+3≤100000):=by show _≤_;simp at hb ⊢;omega
 have e0:toks++(shSide c.left++wordT (cmpT c.kind)::shSide c.right)=toks++shSide c.left++[wordT (cmpT c.kind)]++shSide c.right:=by simp
 rw[e0]
 unfold cnd14
 clear e0 h1 h2 hb
 generalize c.left=o1 at H1 hb2 hb3 ⊢
 generalize c.right=o2 at H2 ⊢
 generalize c.kind=k at hk hb3 ⊢
 rcases hk with rfl|rfl|rfl|rfl
 ·have HC:Hid (0<(⟨#[61]⟩:ByteArray).size):=Lib.hid (by decide)
  have ec:cmpT 4=⟨#[61]⟩:=rfl
  have ix: ∀ w,(Instr.index 131 (.agg #[.string ⟨#[61]⟩,.string ⟨#[47,61]⟩,.string ⟨#[60]⟩,.string ⟨#[60,61]⟩]) (.int .i64 0)).run Tryd.prog w= .ok (.string ⟨#[61]⟩) w:=fun _=>by kernel_rfl
  rw[ec]at hb3 ⊢
  clear ec
  go_enter Tryd.func43,Tryd.ntmps43
  go_wp2_with (first|(with_reducible (first|(refine wB M ?_;clear M;intro zb w1 M)|refine wq M ?_|(refine wS M ?_;clear M;intro w M)|(refine wV M ?_;clear M;intro z w M)|(refine wR M ?_;clear M;intro q w M)|(refine w_ (q_rowv1 M ?_);clear M;intro q w M)|(refine w_ (q_rowv2 M ?_);clear M;intro q w M)|(refine w_ (q_rowv3 M ?_);clear M;intro q w M)))|(go_at_call 21;with_reducible refine(wside_any _ H1.out hb1.out M.f1).mono ?_;rintro e w5 ⟨rfl,lv5,M⟩;replace M:=M.b1)|(go_at_call 8;with_reducible refine(puF1 ⟨#[61]⟩ HC.out _ hb2.out M.f2).mono ?_;rintro e w5 ⟨rfl,lv5,M⟩;replace M:=M.b1)|(go_at_call 21;with_reducible refine(wside_any _ H2.out hb3.out M.f1).mono ?_;rintro e w5 ⟨rfl,lv5,M⟩;replace M:=M.b1))
  go_end0
  exact⟨rfl,lv5,M.drop⟩
 ·have HC:Hid (0<(⟨#[47,61]⟩:ByteArray).size):=Lib.hid (by decide)
  have ec:cmpT 5=⟨#[47,61]⟩:=rfl
  have ix: ∀ w,(Instr.index 131 (.agg #[.string ⟨#[61]⟩,.string ⟨#[47,61]⟩,.string ⟨#[60]⟩,.string ⟨#[60,61]⟩]) (.int .i64 1)).run Tryd.prog w= .ok (.string ⟨#[47,61]⟩) w:=fun _=>by kernel_rfl
  rw[ec]at hb3 ⊢
  clear ec
  go_enter Tryd.func43,Tryd.ntmps43
  go_wp2_with (first|(with_reducible (first|(refine wB M ?_;clear M;intro zb w1 M)|refine wq M ?_|(refine wS M ?_;clear M;intro w M)|(refine wV M ?_;clear M;intro z w M)|(refine wR M ?_;clear M;intro q w M)|(refine w_ (q_rowv1 M ?_);clear M;intro q w M)|(refine w_ (q_rowv2 M ?_);clear M;intro q w M)|(refine w_ (q_rowv3 M ?_);clear M;intro q w M)))|(go_at_call 21;with_reducible refine(wside_any _ H1.out hb1.out M.f1).mono ?_;rintro e w5 ⟨rfl,lv5,M⟩;replace M:=M.b1)|(go_at_call 8;with_reducible refine(puF1 ⟨#[47,61]⟩ HC.out _ hb2.out M.f2).mono ?_;rintro e w5 ⟨rfl,lv5,M⟩;replace M:=M.b1)|(go_at_call 21;with_reducible refine(wside_any _ H2.out hb3.out M.f1).mono ?_;rintro e w5 ⟨rfl,lv5,M⟩;replace M:=M.b1))
  go_end0
  exact⟨rfl,lv5,M.drop⟩
 ·have HC:Hid (0<(⟨#[60]⟩:ByteArray).size):=Lib.hid (by decide)
  have ec:cmpT 6=⟨#[60]⟩:=rfl
  have ix: ∀ w,(Instr.index 131 (.agg #[.string ⟨#[61]⟩,.string ⟨#[47,61]⟩,.string ⟨#[60]⟩,.string ⟨#[60,61]⟩]) (.int .i64 2)).run Tryd.prog w= .ok (.string ⟨#[60]⟩) w:=fun _=>by kernel_rfl
  rw[ec]at hb3 ⊢
  clear ec
  go_enter Tryd.func43,Tryd.ntmps43
  go_wp2_with (first|(with_reducible (first|(refine wB M ?_;clear M;intro zb w1 M)|refine wq M ?_|(refine wS M ?_;clear M;intro w M)|(refine wV M ?_;clear M;intro z w M)|(refine wR M ?_;clear M;intro q w M)|(refine w_ (q_rowv1 M ?_);clear M;intro q w M)|(refine w_ (q_rowv2 M ?_);clear M;intro q w M)|(refine w_ (q_rowv3 M ?_);clear M;intro q w M)))|(go_at_call 21;with_reducible refine(wside_any _ H1.out hb1.out M.f1).mono ?_;rintro e w5 ⟨rfl,lv5,M⟩;replace M:=M.b1)|(go_at_call 8;with_reducible refine(puF1 ⟨#[60]⟩ HC.out _ hb2.out M.f2).mono ?_;rintro e w5 ⟨rfl,lv5,M⟩;replace M:=M.b1)|(go_at_call 21;with_reducible refine(wside_any _ H2.out hb3.out M.f1).mono ?_;rintro e w5 ⟨rfl,lv5,M⟩;replace M:=M.b1))
  go_end0
  exact⟨rfl,lv5,M.drop⟩
 ·have HC:Hid (0<(⟨#[60,61]⟩:ByteArray).size):=Lib.hid (by decide)
  have ec:cmpT 7=⟨#[60,61]⟩:=rfl
  have ix: ∀ w,(Instr.index 131 (.agg #[.string ⟨#[61]⟩,.string ⟨#[47,61]⟩,.string ⟨#[60]⟩,.string ⟨#[60,61]⟩]) (.int .i64 3)).run Tryd.prog w= .ok (.string ⟨#[60,61]⟩) w:=fun _=>by kernel_rfl
  rw[ec]at hb3 ⊢
  clear ec
  go_enter Tryd.func43,Tryd.ntmps43
  go_wp2_with (first|(with_reducible (first|(refine wB M ?_;clear M;intro zb w1 M)|refine wq M ?_|(refine wS M ?_;clear M;intro w M)|(refine wV M ?_;clear M;intro z w M)|(refine wR M ?_;clear M;intro q w M)|(refine w_ (q_rowv1 M ?_);clear M;intro q w M)|(refine w_ (q_rowv2 M ?_);clear M;intro q w M)|(refine w_ (q_rowv3 M ?_);clear M;intro q w M)))|(go_at_call 21;with_reducible refine(wside_any _ H1.out hb1.out M.f1).mono ?_;rintro e w5 ⟨rfl,lv5,M⟩;replace M:=M.b1)|(go_at_call 8;with_reducible refine(puF1 ⟨#[60,61]⟩ HC.out _ hb2.out M.f2).mono ?_;rintro e w5 ⟨rfl,lv5,M⟩;replace M:=M.b1)|(go_at_call 21;with_reducible refine(wside_any _ H2.out hb3.out M.f1).mono ?_;rintro e w5 ⟨rfl,lv5,M⟩;replace M:=M.b1))
  go_end0
  exact⟨rfl,lv5,M.drop⟩
set_option maxRecDepth 8000 in
set_option maxHeartbeats 8000000 in
theorem cond_not(IH:CondW F g zw u f)(hk:c.kind=3)(hl:c.subs.length=1)(hs: ∀ s∈c.subs,CndSh f s)(hS:SlF F u 14 CondF ao n cap c.subs)(hb:toks.length+(wordT ⟨#[110,111,116]⟩::shBrk (decide ((c.subs.headD cond0).kind≤2)) (shCond f (c.subs.headD cond0))).length+3≤100000)(M:Mem (StaysB g u) g u w0 ⟨0,0⟩ (own zw [lv] 35::slc u.heap.size 56 3 tknF lv toks::Kt)):
  Calls Tryd.prog 43 #[.pointer (some ⟨zw,0,none⟩),.agg (cnd14 c.kind ao n cap c.left c.right).toArray] w0 (WrP g zw u Kt (toks++wordT ⟨#[110,111,116]⟩::shBrk (decide ((c.subs.headD cond0).kind≤2)) (shCond f (c.subs.headD cond0)))):=by
 have h0:0<c.subs.length:=by omega
 have eh:c.subs.headD cond0=c.subs[0]:=by
  rw[List.headD_eq_head?_getD,List.head?_eq_getElem?,List.getElem?_eq_getElem h0]
  rfl
 rw[eh]at hb ⊢
 obtain⟨cx,ox,rowx,hixx, -,hrrx,hwx⟩:=SlF.rowAt (P:=Tryd.prog) hS condF_firm Tryd.underlying61 size_cnd (i:=0) h0
 obtain⟨a2,n2,c2,ex,hS2⟩:=CondF.open14 hrrx
 subst ex
 have HW:Hid (∀ wx Kt lv,Mem (StaysB g u) g u wx ⟨0,0⟩ (own zw [lv] 35::slc u.heap.size 56 3 tknF lv (toks++[wordT ⟨#[110,111,116]⟩])::Kt)→Calls Tryd.prog 68 #[.pointer (some ⟨zw,0,none⟩),.agg (cnd14 c.subs[0].kind a2 n2 c2 c.subs[0].left c.subs[0].right).toArray,.bool (decide (c.subs[0].kind≤2))] wx (WrP g zw u Kt (toks++[wordT ⟨#[110,111,116]⟩]++shBrk (decide (c.subs[0].kind≤2)) (shCond f c.subs[0])))):=fun wx Kt lv M2=>
  within_any IH c.subs[0] _ (hs _ (List.getElem_mem h0)) hS2 (by simp at hb ⊢;omega) M2
 have HR:=Lib.hid (fun wx hb=>(hwx wx hb).1)
 have HRK:Hid (∀ wx,Below u.heap.size u wx→wx.cell? ⟨cx,ox,none⟩=some (.int .i64 c.subs[0].kind)):=fun wx hb=>(hwx wx hb).1 0 _ rfl
 have HZ:Hid (0<(⟨#[110,111,116]⟩:ByteArray).size):=Lib.hid (by decide)
 have hb1:Hid (toks.length+1≤100000):=by show _≤_;simp at hb;omega
 have e0: ∀ l:List Tkn,toks++wordT ⟨#[110,111,116]⟩::l=toks++[wordT ⟨#[110,111,116]⟩]++l:=fun l=>by simp
 rw[e0]
 rw[show((0:Nat):Int)=0 from rfl]at hixx
 unfold cnd14 at HW HR ⊢
 rw[hk]
 generalize shCond f c.subs[0]=tl at HW ⊢
 clear hrrx hwx hS2 hb eh IH hs hS e0
 generalize c.subs[0]=x at HW HR HRK ⊢
 clear hk hl h0
 go_enter Tryd.func43,Tryd.ntmps43
 go_upto_region 7 with(first|(with_reducible (first|(refine wB M ?_;clear M;intro zb w1 M)|refine wq M ?_|(refine wS M ?_;clear M;intro w M)|(refine wV M ?_;clear M;intro z w M)|(refine wR M ?_;clear M;intro q w M)|(refine w_ (q_rowv1 M ?_);clear M;intro q w M)|(refine w_ (q_rowv2 M ?_);clear M;intro q w M)|(refine w_ (q_rowv3 M ?_);clear M;intro q w M)))|(go_at_call 8;with_reducible refine(puF1 ⟨#[110,111,116]⟩ HZ.out _ hb1.out M.f2).mono ?_;rintro e w5 ⟨rfl,lv5,M⟩;replace M:=M.b1))
 (refine wp_region_any (by kernel_rfl) ?_;(try(change wpAny _ _ _ _ _ _ _ (World.drew _)));replace M:=M.drew;generalize World.drew _=w at M ⊢;have S:=St.o;((refine tk 0 (v:=?_) rfl (by kernel_rfl) rfl ?_ ?_;rotate_left;focus(intro w;go_simp;try with_reducible rfl));(try go_simp);(refine tk 1 (v:=?_) rfl (by kernel_rfl) rfl ?_ ?_;rotate_left;focus(intro w;go_simp;try with_reducible rfl));(try go_simp);(refine tk 5 (v:=?_) rfl (by kernel_rfl) rfl ?_ ?_;rotate_left;focus(intro w;go_simp;try with_reducible rfl));(try go_simp);replace S:=S.add 35;refine rd2 2 6 (by kernel_rfl) rfl rfl ?_ rfl rfl ?_<;>intro K hK);all_goals(first|(refine o_dst (some 31) ?_;(first|(refine q_at (HR.out _ M.new) (by rfl) ?_)|(refine q_cellat (HRK.out _ M.new) ?_)|(first|refine q_all M (by rfl) ?_|refine q_get M (by exact rfl) ?_|refine q_prt M (by rfl) ?_));(all_goals(refine hK _ _ ?_;clear hK K;replace S:=S.add 4)))|(refine o_dst (some 35) ?_;(first|(refine q_at (HR.out _ M.new) (by rfl) ?_)|(refine q_cellat (HRK.out _ M.new) ?_)|(first|refine q_all M (by rfl) ?_|refine q_get M (by exact rfl) ?_|refine q_prt M (by rfl) ?_));(all_goals(refine hK _ _ ?_;clear hK K;replace S:=S.add 64))));all_goals(first|(replace S:St 39:=S;(refine tk 3 (v:=?_) rfl (by kernel_rfl) rfl ?_ ?_;rotate_left;focus(intro w;go_simp;try with_reducible rfl));(try go_simp);replace S:=S.add 8;refine rd2 4 6 (by kernel_rfl) rfl rfl ?_ rfl rfl ?_<;>intro K hK)|(replace S:St 99:=S;(refine tk 7 (v:=?_) rfl (by kernel_rfl) rfl ?_ ?_;rotate_left;focus(intro w;go_simp;try with_reducible rfl));(try go_simp);(refine tk 8 (v:=?_) rfl (by kernel_rfl) rfl ?_ ?_;rotate_left;focus(intro w;go_simp;try with_reducible rfl));(try go_simp);replace S:=S.add 384;refine rd2 2 9 (by kernel_rfl) rfl rfl ?_ rfl rfl ?_<;>intro K hK));all_goals(first|(refine o_dst (some 33) ?_;(first|(refine q_at (HR.out _ M.new) (by rfl) ?_)|(refine q_cellat (HRK.out _ M.new) ?_)|(first|refine q_all M (by rfl) ?_|refine q_get M (by exact rfl) ?_|refine q_prt M (by rfl) ?_));(all_goals(refine hK _ _ ?_;clear hK K;replace S:=S.add 16)))|(refine o_dst (some 35) ?_;(first|(refine q_at (HR.out _ M.new) (by rfl) ?_)|(refine q_cellat (HRK.out _ M.new) ?_)|(first|refine q_all M (by rfl) ?_|refine q_get M (by exact rfl) ?_|refine q_prt M (by rfl) ?_));(all_goals(refine hK _ _ ?_;clear hK K;replace S:=S.add 64)))|(refine o_dst (some 31) ?_;(first|(refine q_at (HR.out _ M.new) (by rfl) ?_)|(refine q_cellat (HRK.out _ M.new) ?_)|(first|refine q_all M (by rfl) ?_|refine q_get M (by exact rfl) ?_|refine q_prt M (by rfl) ?_));(all_goals(refine hK _ _ ?_;clear hK K;replace S:=S.add 4)))|(refine o_dst (some 38) ?_;(first|(refine q_at (HR.out _ M.new) (by rfl) ?_)|(refine q_cellat (HRK.out _ M.new) ?_)|(first|refine q_all M (by rfl) ?_|refine q_get M (by exact rfl) ?_|refine q_prt M (by rfl) ?_));(all_goals(refine hK _ _ ?_;clear hK K;replace S:=S.add 512))));all_goals(first|(replace S:St 63:=S;refine rd1 6 (by kernel_rfl) rfl rfl ?_<;>intro K hK)|(replace S:St 111:=S;(refine tk 7 (v:=?_) rfl (by kernel_rfl) rfl ?_ ?_;rotate_left;focus(intro w;go_simp;try with_reducible rfl));(try go_simp);(refine tk 8 (v:=?_) rfl (by kernel_rfl) rfl ?_ ?_;rotate_left;focus(intro w;go_simp;try with_reducible rfl));(try go_simp);replace S:=S.add 384;refine rd2 4 9 (by kernel_rfl) rfl rfl ?_ rfl rfl ?_<;>intro K hK)|(replace S:St 487:=S;(refine tk 3 (v:=?_) rfl (by kernel_rfl) rfl ?_ ?_;rotate_left;focus(intro w;go_simp;try with_reducible rfl));(try go_simp);replace S:=S.add 8;refine rd2 4 9 (by kernel_rfl) rfl rfl ?_ rfl rfl ?_<;>intro K hK)|(replace S:St 995:=S;(refine tk 10 (v:=?_) rfl (by kernel_rfl) rfl ?_ ?_;rotate_left;focus(intro w;go_simp;try with_reducible rfl));(try go_simp);replace S:=S.add 1024;refine rd1 2 (by kernel_rfl) rfl rfl ?_<;>intro K hK));all_goals(first|(refine o_dst (some 35) ?_;(first|(refine q_at (HR.out _ M.new) (by rfl) ?_)|(refine q_cellat (HRK.out _ M.new) ?_)|(first|refine q_all M (by rfl) ?_|refine q_get M (by exact rfl) ?_|refine q_prt M (by rfl) ?_));(all_goals(refine hK _ _ ?_;clear hK K;replace S:=S.add 64)))|(refine o_dst (some 33) ?_;(first|(refine q_at (HR.out _ M.new) (by rfl) ?_)|(refine q_cellat (HRK.out _ M.new) ?_)|(first|refine q_all M (by rfl) ?_|refine q_get M (by exact rfl) ?_|refine q_prt M (by rfl) ?_));(all_goals(refine hK _ _ ?_;clear hK K;replace S:=S.add 16)))|(refine o_dst (some 38) ?_;(first|(refine q_at (HR.out _ M.new) (by rfl) ?_)|(refine q_cellat (HRK.out _ M.new) ?_)|(first|refine q_all M (by rfl) ?_|refine q_get M (by exact rfl) ?_|refine q_prt M (by rfl) ?_));(all_goals(refine hK _ _ ?_;clear hK K;replace S:=S.add 512)))|(refine o_dst (some 31) ?_;(first|(refine q_at (HR.out _ M.new) (by rfl) ?_)|(refine q_cellat (HRK.out _ M.new) ?_)|(first|refine q_all M (by rfl) ?_|refine q_get M (by exact rfl) ?_|refine q_prt M (by rfl) ?_));(all_goals(refine hK _ _ ?_;clear hK K;replace S:=S.add 4))));all_goals(first|(replace S:St 127:=S;(refine tk 7 (v:=?_) rfl (by kernel_rfl) rfl ?_ ?_;rotate_left;focus(intro w;go_simp;try with_reducible rfl));(try go_simp);(refine tk 8 (v:=?_) rfl (by kernel_rfl) rfl ?_ ?_;rotate_left;focus(intro w;go_simp;try with_reducible rfl));(try go_simp);replace S:=S.add 384;refine rd1 9 (by kernel_rfl) rfl rfl ?_<;>intro K hK)|(replace S:St 511:=S;refine rd1 9 (by kernel_rfl) rfl rfl ?_<;>intro K hK)|(replace S:St 1007:=S;(refine tk 10 (v:=?_) rfl (by kernel_rfl) rfl ?_ ?_;rotate_left;focus(intro w;go_simp;try with_reducible rfl));(try go_simp);replace S:=S.add 1024;refine rd1 4 (by kernel_rfl) rfl rfl ?_<;>intro K hK)|(replace S:St 2023:=S;(refine tk 3 (v:=?_) rfl (by kernel_rfl) rfl ?_ ?_;rotate_left;focus(intro w;go_simp;try with_reducible rfl));(try go_simp);replace S:=S.add 8;refine rd1 4 (by kernel_rfl) rfl rfl ?_<;>intro K hK));all_goals(first|(refine o_dst (some 38) ?_;(first|(refine q_at (HR.out _ M.new) (by rfl) ?_)|(refine q_cellat (HRK.out _ M.new) ?_)|(first|refine q_all M (by rfl) ?_|refine q_get M (by exact rfl) ?_|refine q_prt M (by rfl) ?_));(all_goals(refine hK _ _ ?_;clear hK K;replace S:=S.add 512)))|(refine o_dst (some 33) ?_;(first|(refine q_at (HR.out _ M.new) (by rfl) ?_)|(refine q_cellat (HRK.out _ M.new) ?_)|(first|refine q_all M (by rfl) ?_|refine q_get M (by exact rfl) ?_|refine q_prt M (by rfl) ?_));(all_goals(refine hK _ _ ?_;clear hK K;replace S:=S.add 16))));all_goals(first|(replace S:St 1023:=S;(refine tk 10 (v:=?_) rfl (by kernel_rfl) rfl ?_ ?_;rotate_left;focus(intro w;go_simp;try with_reducible rfl));(try go_simp);replace S:=S.add 1024;refine rd1 11 (by kernel_rfl) rfl rfl ?_<;>intro K hK)|(replace S:St 2047:=S;refine rd1 11 (by kernel_rfl) rfl rfl ?_<;>intro K hK));all_goals(refine o_dst (some 40) ?_;(refine owp_of ?_;go_simp;(go_at_call 68;with_reducible refine(HW.out _ _ _ M.f1).mono ?_;rintro e w5 ⟨rfl,lv5,M⟩;replace M:=M.b1);(try go_simp));(all_goals(refine hK _ _ ?_;clear hK K;replace S:=S.add 2048)));all_goals(clear S;(refine wpAny_done (by kernel_rfl) ?_ _)))
 all_goals
  go_wp2_with (first|(with_reducible (first|refine wq M ?_|(refine wS M ?_;clear M;intro w M)|(refine wV M ?_;clear M;intro z w M)|(refine wR M ?_;clear M;intro q w M))))
  go_end0
  refine⟨rfl,lv5,?_⟩
  have M2:=M.drop
  (try simp only[List.append_assoc,List.cons_append,List.nil_append,List.singleton_append]at M2 ⊢)
  exact M2
set_option maxRecDepth 8000 in
set_option maxHeartbeats 16000000 in
theorem cond_many(IH:CondW F g zw u f){k:Int}(hk:c.kind=k)(hkk:k=1∨k=2)(hs: ∀ s∈c.subs,CndSh f s)(hS:SlF F u 14 CondF ao n cap c.subs)(hb:toks.length+(shCat (fun i x=>(if i=0 then []else [wordT (andT k)])++shBrk (x.kind==k||x.kind==2) (shCond f x)) c.subs).length+3≤100000)(M:Mem (StaysB g u) g u w0 ⟨0,0⟩ (own zw [lv] 35::slc u.heap.size 56 3 tknF lv toks::Kt)):
  Calls Tryd.prog 43 #[.pointer (some ⟨zw,0,none⟩),.agg (cnd14 c.kind ao n cap c.left c.right).toArray] w0 (WrP g zw u Kt (toks++shCat (fun i x=>(if i=0 then []else [wordT (andT k)])++shBrk (x.kind==k||x.kind==2) (shCond f x)) c.subs)):=by
 have HS:=Lib.hid hS
 have NS:Hid (n=c.subs.length):=hS.len
 have hle:=hS.le
 have HSH:=Lib.hid hs
 have HIH:Hid (CondW F g zw u f):=IH
 have HBB:Hid (∀ j (hj:j<c.subs.length),toks.length+(shCat (fun i x=>(if i=0 then []else [wordT (andT k)])++shBrk (x.kind==k||x.kind==2) (shCond f x)) (c.subs.take (j+1))).length+3≤100000):=fun j hj=>by
  have:(shCat (fun i x=>(if i=0 then []else [wordT (andT k)])++shBrk (x.kind==k||x.kind==2) (shCond f x)) (c.subs.take (j+1))).length≤(shCat (fun i x=>(if i=0 then []else [wordT (andT k)])++shBrk (x.kind==k||x.kind==2) (shCond f x)) c.subs).length:=by
   unfold shCat
   conv=>rhs;rw[←List.take_append_drop (j+1) c.subs,List.zipIdx_append,List.flatMap_append,List.length_append]
   omega
  omega
 unfold cnd14
 rw[hk]
 generalize c.subs=subs at HS NS HSH HBB ⊢
 generalize c.left=o1
 generalize c.right=o2
 clear hk hs hS hb IH
 generalize hfb:(fun(i:Nat) (x:Cond)=>(if i=0 then []else [wordT (andT k)])++shBrk (x.kind==k||x.kind==2) (shCond f x))=body at HBB ⊢
 have HFB:Hid (∀ i x,body i x=(if i=0 then []else [wordT (andT k)])++shBrk (x.kind==k||x.kind==2) (shCond f x)):=fun i x=>by rw[←hfb]
 clear hfb
 have HA:Hid (k=1→andT k=⟨#[97,110,100]⟩):=fun h=>by rw[h];rfl
 have HO:Hid (k=2→andT k=⟨#[111,114]⟩):=fun h=>by rw[h];rfl
 have HZA:Hid (0<(⟨#[97,110,100]⟩:ByteArray).size):=Lib.hid (by decide)
 have HZO:Hid (0<(⟨#[111,114]⟩:ByteArray).size):=Lib.hid (by decide)
 rcases hkk with rfl|rfl
 ·have ea:=HA.out rfl
  rw[ea]at HFB
  clear ea
  have ix: ∀ w,(Instr.index 42 (.agg #[.string ⟨#[]⟩,.string ⟨#[97,110,100]⟩,.string ⟨#[111,114]⟩]) (.int .i64 1)).run Tryd.prog w= .ok (.string ⟨#[97,110,100]⟩) w:=fun _=>by kernel_rfl
  go_enter Tryd.func43,Tryd.ntmps43
  go_wp2_with (first|(with_reducible (first|(refine wB M ?_;clear M;intro zb w1 M)|refine wq M ?_|(refine wS M ?_;clear M;intro w M)|(refine wV M ?_;clear M;intro z w M)|(refine wR M ?_;clear M;intro q w M))))
  go_loopg [47] n (fun fu i wr=> ∃ (j:Nat) (lv:Value) (ts:List Tkn),j+fu=n∧i= .int .i64 j∧Mem (StaysB g u) g u wr ⟨0,0⟩ (own zb [.int .i64 1,.slice ao n cap,.int .i64 o1.kind,.int .i64 o1.vkind,.int .i64 o1.vint,.string o1.vtext,.string o1.var,.string o1.field,.int .i64 o2.kind,.int .i64 o2.vkind,.int .i64 o2.vint,.string o2.vtext,.string o2.var,.string o2.field] 67::own zw [lv] 35::slc u.heap.size 56 3 tknF lv ts::Kt)∧Hid (ts=toks++shCat body (subs.take j)))
  case atStart=>exact⟨0,_,toks,by omega,rfl,M,Lib.hid (by simp[shCat_nil])⟩
  case round=>
   clear M
   obtain⟨j,lv,ts,hj,rfl,M,HT⟩:=hrel
   by_cases hlt:j<n
   ·have hjl:j<subs.length:=by have:=NS.out;omega
    obtain⟨cx,ox,rowx,hixx, -,hrrx,hwx⟩:=SlF.rowAt (P:=Tryd.prog) HS.out condF_firm Tryd.underlying61 size_cnd (i:=j) hjl
    obtain⟨a2,n2,c2,ex,hS2⟩:=CondF.open14 hrrx
    subst ex
    have HR:=Lib.hid (fun wx hb=>(hwx wx hb).1)
    have HTS:Hid (toks++shCat body (subs.take (j+1))=ts++body j subs[j]):=by show _=_;rw[shCat_snoc hjl,HT.out,List.append_assoc]
    have hbj:=HBB.out j hjl
    rw[shCat_snoc hjl,List.length_append]at hbj
    have htl:=congrArg List.length HT.out
    rw[List.length_append]at htl
    have hbk:ts.length+(body j subs[j]).length+3≤100000:=by omega
    rw[HFB.out]at hbk HTS
    have hsx:=HSH.out _ (List.getElem_mem hjl)
    clear hbj htl HT hwx hrrx
    generalize subs[j]=x at HR HTS hS2 hbk hsx
    clear hjl
    have HW:Hid (∀ wx Kt lv (t2:List Tkn),t2.length+(shBrk (x.kind==1||x.kind==2) (shCond f x)).length+3≤100000→Mem (StaysB g u) g u wx ⟨0,0⟩ (own zw [lv] 35::slc u.heap.size 56 3 tknF lv t2::Kt)→Calls Tryd.prog 68 #[.pointer (some ⟨zw,0,none⟩),.agg (cnd14 x.kind a2 n2 c2 x.left x.right).toArray,.bool (x.kind==1||x.kind==2)] wx (WrP g zw u Kt (t2++shBrk (x.kind==1||x.kind==2) (shCond f x)))):=fun wx Kt lv t2 hb2 M2=>
     within_any HIH.out x _ hsx hS2 hb2 M2
    clear hS2 hsx
    unfold cnd14 at HR HW
    generalize shBrk (x.kind==1||x.kind==2) (shCond f x)=tl at HW HTS hbk
    obtain⟨q1,hq1⟩: ∃ q1,(x.kind==1)=q1:=⟨_,rfl⟩
    obtain⟨q2,hq2⟩: ∃ q2,(x.kind==2)=q2:=⟨_,rfl⟩
    rw[hq1]at HW
    (try rw[hq2]at HW)
    by_cases hj0:j=0
    ·rw[if_pos hj0,List.nil_append]at HTS hbk
     have hjz: ¬ ((0:Int)<(j:Int)):=by omega
     clear hj0
     have HWJ:Hid (∀ wx Kt lv,Mem (StaysB g u) g u wx ⟨0,0⟩ (own zw [lv] 35::slc u.heap.size 56 3 tknF lv ts::Kt)→_):=fun wx Kt lv M2=>HW.out wx Kt lv ts hbk M2
     clear HW hbk
     cases q1<;>cases q2
     (try any_goals(exact absurd (hq1.symm.trans hq2) (by decide)))
     all_goals
      simp only[Bool.or_self,Bool.or_false,Bool.false_or,Bool.or_true,Bool.true_or]at HWJ
      go_wp2_with (first|(with_reducible (first|(refine wV M ?_;clear M;intro zx w M)|refine wq M ?_|(refine wS M ?_;clear M;intro w M)|(refine wV M ?_;clear M;intro z w M)|(refine wR M ?_;clear M;intro q w M)|refine wA (HR.out _ M.new) ?_))|((with_reducible refine o_list rfl fun K hK=>?_);refine q_in M (by rfl) (by rfl) (by rfl) ?_;clear M;intro w M;(try simp only[List.set_cons_zero,List.set_cons_succ,laid,opdC,List.take_succ_cons,List.take_zero,List.drop_succ_cons,List.drop_zero,List.length_cons,List.length_nil,List.cons_append,List.nil_append,Nat.reduceAdd,Nat.zero_add]at M);refine hK _ _ ?_;clear hK K)|(go_at_call 68;with_reducible refine(HWJ.out _ _ _ M.f2).mono ?_;rintro e w5 ⟨rfl,lv5,M⟩;replace M:=M.b2))
      go_roundg (n - (j+1))
      case measure=>omega
      case rel=>exact⟨j+1,_,_,by omega,by go_num,M.drop,Lib.hid HTS.out.symm⟩
    ·rw[if_neg hj0]at HTS hbk
     have hjp:0<j:=by omega
     have hb1:Hid (ts.length+1≤100000):=by show _≤_;simp at hbk;omega
     have HWJ:Hid (∀ wx Kt lv,Mem (StaysB g u) g u wx ⟨0,0⟩ (own zw [lv] 35::slc u.heap.size 56 3 tknF lv (ts++[wordT ⟨#[97,110,100]⟩])::Kt)→_):=fun wx Kt lv M2=>HW.out wx Kt lv _ (by simp at hbk ⊢;omega) M2
     clear HW hbk
     cases q1<;>cases q2
     (try any_goals(exact absurd (hq1.symm.trans hq2) (by decide)))
     all_goals
      simp only[Bool.or_self,Bool.or_false,Bool.false_or,Bool.or_true,Bool.true_or]at HWJ
      go_wp2_with (first|(with_reducible (first|(refine wV M ?_;clear M;intro zx w M)|refine wq M ?_|(refine wS M ?_;clear M;intro w M)|(refine wV M ?_;clear M;intro z w M)|(refine wR M ?_;clear M;intro q w M)|refine wA (HR.out _ M.new) ?_|(refine w_ (q_rowv1 M ?_);clear M;intro q w M)|(refine w_ (q_rowv2 M ?_);clear M;intro q w M)|(refine w_ (q_rowv3 M ?_);clear M;intro q w M)))|((with_reducible refine o_list rfl fun K hK=>?_);refine q_in M (by rfl) (by rfl) (by rfl) ?_;clear M;intro w M;(try simp only[List.set_cons_zero,List.set_cons_succ,laid,opdC,List.take_succ_cons,List.take_zero,List.drop_succ_cons,List.drop_zero,List.length_cons,List.length_nil,List.cons_append,List.nil_append,Nat.reduceAdd,Nat.zero_add]at M);refine hK _ _ ?_;clear hK K)|(go_at_call 8;with_reducible refine(puF1 _ HZA.out _ hb1.out M.f3).mono ?_;rintro e w5 ⟨rfl,lv5,M⟩;replace M:=M.b2)|(go_at_call 68;with_reducible refine(HWJ.out _ _ _ M.f2).mono ?_;rintro e w5 ⟨rfl,lv5,M⟩;replace M:=M.b2))
      go_roundg (n - (j+1))
      case measure=>omega
      case rel=>exact⟨j+1,_,_,by omega,by go_num,M.drop,Lib.hid (by rw[HTS.out,List.append_assoc])⟩
   ·have hts:ts=toks++shCat body subs:=by rw[HT.out,List.take_of_length_le (by have:=NS.out;omega)]
    subst hts
    clear HT
    go_wp2_with (first|(with_reducible (first|refine wq M ?_|(refine wS M ?_;clear M;intro w M)|(refine wV M ?_;clear M;intro z w M)|(refine wR M ?_;clear M;intro q w M))))
    go_end0
    exact⟨rfl,lv,M.drop⟩
 ·have ea:=HO.out rfl
  rw[ea]at HFB
  clear ea
  have ix: ∀ w,(Instr.index 42 (.agg #[.string ⟨#[]⟩,.string ⟨#[97,110,100]⟩,.string ⟨#[111,114]⟩]) (.int .i64 2)).run Tryd.prog w= .ok (.string ⟨#[111,114]⟩) w:=fun _=>by kernel_rfl
  go_enter Tryd.func43,Tryd.ntmps43
  go_wp2_with (first|(with_reducible (first|(refine wB M ?_;clear M;intro zb w1 M)|refine wq M ?_|(refine wS M ?_;clear M;intro w M)|(refine wV M ?_;clear M;intro z w M)|(refine wR M ?_;clear M;intro q w M))))
  go_loopg [47] n (fun fu i wr=> ∃ (j:Nat) (lv:Value) (ts:List Tkn),j+fu=n∧i= .int .i64 j∧Mem (StaysB g u) g u wr ⟨0,0⟩ (own zb [.int .i64 2,.slice ao n cap,.int .i64 o1.kind,.int .i64 o1.vkind,.int .i64 o1.vint,.string o1.vtext,.string o1.var,.string o1.field,.int .i64 o2.kind,.int .i64 o2.vkind,.int .i64 o2.vint,.string o2.vtext,.string o2.var,.string o2.field] 67::own zw [lv] 35::slc u.heap.size 56 3 tknF lv ts::Kt)∧Hid (ts=toks++shCat body (subs.take j)))
  case atStart=>exact⟨0,_,toks,by omega,rfl,M,Lib.hid (by simp[shCat_nil])⟩
  case round=>
   clear M
   obtain⟨j,lv,ts,hj,rfl,M,HT⟩:=hrel
   by_cases hlt:j<n
   ·have hjl:j<subs.length:=by have:=NS.out;omega
    obtain⟨cx,ox,rowx,hixx, -,hrrx,hwx⟩:=SlF.rowAt (P:=Tryd.prog) HS.out condF_firm Tryd.underlying61 size_cnd (i:=j) hjl
    obtain⟨a2,n2,c2,ex,hS2⟩:=CondF.open14 hrrx
    subst ex
    have HR:=Lib.hid (fun wx hb=>(hwx wx hb).1)
    have HTS:Hid (toks++shCat body (subs.take (j+1))=ts++body j subs[j]):=by show _=_;rw[shCat_snoc hjl,HT.out,List.append_assoc]
    have hbj:=HBB.out j hjl
    rw[shCat_snoc hjl,List.length_append]at hbj
    have htl:=congrArg List.length HT.out
    rw[List.length_append]at htl
    have hbk:ts.length+(body j subs[j]).length+3≤100000:=by omega
    rw[HFB.out]at hbk HTS
    have hsx:=HSH.out _ (List.getElem_mem hjl)
    clear hbj htl HT hwx hrrx
    generalize subs[j]=x at HR HTS hS2 hbk hsx
    clear hjl
    have HW:Hid (∀ wx Kt lv (t2:List Tkn),t2.length+(shBrk (x.kind==2||x.kind==2) (shCond f x)).length+3≤100000→Mem (StaysB g u) g u wx ⟨0,0⟩ (own zw [lv] 35::slc u.heap.size 56 3 tknF lv t2::Kt)→Calls Tryd.prog 68 #[.pointer (some ⟨zw,0,none⟩),.agg (cnd14 x.kind a2 n2 c2 x.left x.right).toArray,.bool (x.kind==2||x.kind==2)] wx (WrP g zw u Kt (t2++shBrk (x.kind==2||x.kind==2) (shCond f x)))):=fun wx Kt lv t2 hb2 M2=>
     within_any HIH.out x _ hsx hS2 hb2 M2
    clear hS2 hsx
    unfold cnd14 at HR HW
    generalize shBrk (x.kind==2||x.kind==2) (shCond f x)=tl at HW HTS hbk
    obtain⟨q1,hq1⟩: ∃ q1,(x.kind==2)=q1:=⟨_,rfl⟩
    obtain⟨q2,hq2⟩: ∃ q2,(x.kind==2)=q2:=⟨_,rfl⟩
    rw[hq1]at HW
    (try rw[hq2]at HW)
    by_cases hj0:j=0
    ·rw[if_pos hj0,List.nil_append]at HTS hbk
     have hjz: ¬ ((0:Int)<(j:Int)):=by omega
     clear hj0
     have HWJ:Hid (∀ wx Kt lv,Mem (StaysB g u) g u wx ⟨0,0⟩ (own zw [lv] 35::slc u.heap.size 56 3 tknF lv ts::Kt)→_):=fun wx Kt lv M2=>HW.out wx Kt lv ts hbk M2
     clear HW hbk
     cases q1<;>cases q2
     (try any_goals(exact absurd (hq1.symm.trans hq2) (by decide)))
     all_goals
      simp only[Bool.or_self,Bool.or_false,Bool.false_or,Bool.or_true,Bool.true_or]at HWJ
      go_wp2_with (first|(with_reducible (first|(refine wV M ?_;clear M;intro zx w M)|refine wq M ?_|(refine wS M ?_;clear M;intro w M)|(refine wV M ?_;clear M;intro z w M)|(refine wR M ?_;clear M;intro q w M)|refine wA (HR.out _ M.new) ?_))|((with_reducible refine o_list rfl fun K hK=>?_);refine q_in M (by rfl) (by rfl) (by rfl) ?_;clear M;intro w M;(try simp only[List.set_cons_zero,List.set_cons_succ,laid,opdC,List.take_succ_cons,List.take_zero,List.drop_succ_cons,List.drop_zero,List.length_cons,List.length_nil,List.cons_append,List.nil_append,Nat.reduceAdd,Nat.zero_add]at M);refine hK _ _ ?_;clear hK K)|(go_at_call 68;with_reducible refine(HWJ.out _ _ _ M.f2).mono ?_;rintro e w5 ⟨rfl,lv5,M⟩;replace M:=M.b2))
      go_roundg (n - (j+1))
      case measure=>omega
      case rel=>exact⟨j+1,_,_,by omega,by go_num,M.drop,Lib.hid HTS.out.symm⟩
    ·rw[if_neg hj0]at HTS hbk
     have hjp:0<j:=by omega
     have hb1:Hid (ts.length+1≤100000):=by show _≤_;simp at hbk;omega
     have HWJ:Hid (∀ wx Kt lv,Mem (StaysB g u) g u wx ⟨0,0⟩ (own zw [lv] 35::slc u.heap.size 56 3 tknF lv (ts++[wordT ⟨#[111,114]⟩])::Kt)→_):=fun wx Kt lv M2=>HW.out wx Kt lv _ (by simp at hbk ⊢;omega) M2
     clear HW hbk
     cases q1<;>cases q2
     (try any_goals(exact absurd (hq1.symm.trans hq2) (by decide)))
     all_goals
      simp only[Bool.or_self,Bool.or_false,Bool.false_or,Bool.or_true,Bool.true_or]at HWJ
      go_wp2_with (first|(with_reducible (first|(refine wV M ?_;clear M;intro zx w M)|refine wq M ?_|(refine wS M ?_;clear M;intro w M)|(refine wV M ?_;clear M;intro z w M)|(refine wR M ?_;clear M;intro q w M)|refine wA (HR.out _ M.new) ?_|(refine w_ (q_rowv1 M ?_);clear M;intro q w M)|(refine w_ (q_rowv2 M ?_);clear M;intro q w M)|(refine w_ (q_rowv3 M ?_);clear M;intro q w M)))|((with_reducible refine o_list rfl fun K hK=>?_);refine q_in M (by rfl) (by rfl) (by rfl) ?_;clear M;intro w M;(try simp only[List.set_cons_zero,List.set_cons_succ,laid,opdC,List.take_succ_cons,List.take_zero,List.drop_succ_cons,List.drop_zero,List.length_cons,List.length_nil,List.cons_append,List.nil_append,Nat.reduceAdd,Nat.zero_add]at M);refine hK _ _ ?_;clear hK K)|(go_at_call 8;with_reducible refine(puF1 _ HZO.out _ hb1.out M.f3).mono ?_;rintro e w5 ⟨rfl,lv5,M⟩;replace M:=M.b2)|(go_at_call 68;with_reducible refine(HWJ.out _ _ _ M.f2).mono ?_;rintro e w5 ⟨rfl,lv5,M⟩;replace M:=M.b2))
      go_roundg (n - (j+1))
      case measure=>omega
      case rel=>exact⟨j+1,_,_,by omega,by go_num,M.drop,Lib.hid (by rw[HTS.out,List.append_assoc])⟩
   ·have hts:ts=toks++shCat body subs:=by rw[HT.out,List.take_of_length_le (by have:=NS.out;omega)]
    subst hts
    clear HT
    go_wp2_with (first|(with_reducible (first|refine wq M ?_|(refine wS M ?_;clear M;intro w M)|(refine wV M ?_;clear M;intro z w M)|(refine wR M ?_;clear M;intro q w M))))
    go_end0
    exact⟨rfl,lv,M.drop⟩
end
end Go.Proofs.YtcebfkdhicbmkaaDoor
