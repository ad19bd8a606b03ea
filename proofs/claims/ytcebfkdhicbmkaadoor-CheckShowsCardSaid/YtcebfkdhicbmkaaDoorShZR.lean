/-
  A writer of tokens: conditions, patterns, options. Printed by shz.py.
-/
import Derived.Test.YtcebfkdhicbmkaaDoorShY
import Derived.Test.YtcebfkdhicbmkaaDoorOpen
namespace Go.Proofs.YtcebfkdhicbmkaaDoor
open Go.RowKit
set_option linter.unusedVariables false
set_option linter.unusedSimpArgs false
section
variable {F:Nat→Prop} {g zw:Nat} {u w0:World} {Kt:List Ent} {toks:List Tkn} {lv:Value} {ao:Option Addr} {n cap:Nat}
theorem condition_any: ∀ f,CondW F g zw u f
 |0=>fun c ao n cap w0 Kt toks lv hc=>absurd hc (by simp[CndSh])
 |f+1=>fun c ao n cap w0 Kt toks lv hc hS hb M=>by
  have IH:CondW F g zw u f:=condition_any f
  unfold CndSh at hc
  rcases hc with⟨hk,hl,hs⟩|⟨hk,hs⟩|⟨hk,h1,h2⟩
  ·have e:shCond (f+1) c=wordT ⟨#[110,111,116]⟩::shBrk (decide ((c.subs.headD cond0).kind≤2)) (shCond f (c.subs.headD cond0)):=by
    show(if _ then _ else _)=_
    rw[if_pos hk]
   rw[e]at hb ⊢
   exact cond_not IH hk hl hs hS hb M
  ·have e:shCond (f+1) c=shCat (fun i x=>(if i=0 then []else [wordT (andT c.kind)])++shBrk (x.kind==c.kind||x.kind==2) (shCond f x)) c.subs:=by
    show(if _ then _ else _)=_
    rw[if_neg (by omega),if_pos hk]
   rw[e]at hb ⊢
   exact cond_many IH rfl hk hs hS hb M
  ·have e:shCond (f+1) c=shSide c.left++wordT (cmpT c.kind)::shSide c.right:=by
    show(if _ then _ else _)=_
    rw[if_neg (by omega),if_neg (by omega)]
   rw[e]at hb ⊢
   exact cond_leaf hk h1 h2 hb M
def PatSh(p:Pat):Prop:=Nm p.var∧Nm p.type∧(p.wher.kind=0∨CndSh 9 p.wher)
theorem kind_of{f:Nat}{c:Cond}(h:CndSh f c):c.kind≠0:=by
 cases f with
 |zero=>exact absurd h (by simp[CndSh])
 |succ f=>unfold CndSh at h;omega
set_option maxRecDepth 8000 in
set_option maxHeartbeats 8000000 in
theorem wpattern_any(p:Pat)(hp:PatSh p)(hS:SlF F u 14 CondF ao n cap p.wher.subs)(hb:toks.length+(shPat p).length+3≤100000)(M:Mem (StaysB g u) g u w0 ⟨0,0⟩ (own zw [lv] 35::slc u.heap.size 56 3 tknF lv toks::Kt)):
  Calls Tryd.prog 18 #[.pointer (some ⟨zw,0,none⟩),.agg (pat18 p ao n cap).toArray] w0 (WrP g zw u Kt (toks++shPat p)):=by
 have H3:Hid (0<p.var.size∧0<(⟨#[58]⟩:ByteArray).size∧0<p.type.size):=⟨hp.1.pos,by decide,hp.2.1.pos⟩
 have HO:Hid (0<(⟨#[91]⟩:ByteArray).size):=Lib.hid (by decide)
 have HC:Hid (0<(⟨#[93]⟩:ByteArray).size):=Lib.hid (by decide)
 have hb3:Hid (toks.length+3≤100000):=by show _≤_;omega
 unfold shPat at hb ⊢
 by_cases hk:p.wher.kind=0
 ·rw[if_pos hk]at hb ⊢
  have e0:toks++[wordT p.var,wordT ⟨#[58]⟩,wordT p.type]=toks++[wordT p.var,wordT ⟨#[58]⟩,wordT p.type]:=rfl
  unfold pat18
  rw[hk]
  clear hk hp hS hb
  go_enter Tryd.func18,Tryd.ntmps18
  go_wp2_with (first|(with_reducible (first|(refine wB M ?_;clear M;intro zb w1 M)|refine wq M ?_|(refine wS M ?_;clear M;intro w M)|(refine wV M ?_;clear M;intro z w M)|(refine wR M ?_;clear M;intro q w M)|(refine w_ (q_rowv1 M ?_);clear M;intro q w M)|(refine w_ (q_rowv2 M ?_);clear M;intro q w M)|(refine w_ (q_rowv3 M ?_);clear M;intro q w M)))|(go_at_call 8;with_reducible refine(puF3 _ _ _ H3.out _ hb3.out M.f2).mono ?_;rintro e w5 ⟨rfl,lv5,M⟩;replace M:=M.b1))
  go_end0
  exact⟨rfl,lv5,M.drop⟩
 ·rw[if_neg hk]at hb ⊢
  have hc:CndSh 9 p.wher:=hp.2.2.resolve_left hk
  have hkb:(p.wher.kind !=0)=true:=by simpa using hk
  have hkb2:(p.wher.kind==0)=false:=by simpa using hk
  have hb1:Hid ((toks++[wordT p.var,wordT ⟨#[58]⟩,wordT p.type]).length+1≤100000):=by show _≤_;simp at hb ⊢;omega
  have hb2:Hid ((toks++[wordT p.var,wordT ⟨#[58]⟩,wordT p.type]++[wordT ⟨#[91]⟩]++shCond 9 p.wher).length+1≤100000):=by show _≤_;simp at hb ⊢;omega
  have HI:Hid (∀ wx Kt lv,Mem (StaysB g u) g u wx ⟨0,0⟩ (own zw [lv] 35::slc u.heap.size 56 3 tknF lv (toks++[wordT p.var,wordT ⟨#[58]⟩,wordT p.type]++[wordT ⟨#[91]⟩])::Kt)→Calls Tryd.prog 43 #[.pointer (some ⟨zw,0,none⟩),.agg (cnd14 p.wher.kind ao n cap p.wher.left p.wher.right).toArray] wx (WrP g zw u Kt (toks++[wordT p.var,wordT ⟨#[58]⟩,wordT p.type]++[wordT ⟨#[91]⟩]++shCond 9 p.wher))):=fun wx Kt lv M2=>
   condition_any 9 p.wher ao n cap wx Kt _ lv hc hS (by simp at hb ⊢;omega) M2
  have e0:toks++wordT p.var::wordT ⟨#[58]⟩::wordT p.type::wordT ⟨#[91]⟩::(shCond 9 p.wher++[wordT ⟨#[93]⟩])=toks++[wordT p.var,wordT ⟨#[58]⟩,wordT p.type]++[wordT ⟨#[91]⟩]++shCond 9 p.wher++[wordT ⟨#[93]⟩]:=by simp
  rw[e0]
  generalize shCond 9 p.wher=tl at HI hb2 ⊢
  unfold cnd14 at HI
  unfold pat18
  clear hk hp hS hb hc e0
  go_enter Tryd.func18,Tryd.ntmps18
  go_wp2_with (first|(with_reducible (first|(refine wB M ?_;clear M;intro zb w1 M)|refine wq M ?_|(refine wS M ?_;clear M;intro w M)|(refine wV M ?_;clear M;intro z w M)|(refine wR M ?_;clear M;intro q w M)|(refine w_ (q_rowv1 M ?_);clear M;intro q w M)|(refine w_ (q_rowv2 M ?_);clear M;intro q w M)|(refine w_ (q_rowv3 M ?_);clear M;intro q w M)))|(go_at_call 8;with_reducible refine(puF3 _ _ _ H3.out _ hb3.out M.f2).mono ?_;rintro e w5 ⟨rfl,lv5,M⟩;replace M:=M.b1)|(go_at_call 8;with_reducible refine(puF1 ⟨#[91]⟩ HO.out _ hb1.out M.f2).mono ?_;rintro e w5 ⟨rfl,lv5,M⟩;replace M:=M.b1)|(go_at_call 8;with_reducible refine(puF1 ⟨#[93]⟩ HC.out _ hb2.out M.f2).mono ?_;rintro e w5 ⟨rfl,lv5,M⟩;replace M:=M.b1)|(go_at_call 43;with_reducible refine(HI.out _ _ _ M.f1).mono ?_;rintro e w5 ⟨rfl,lv5,M⟩;replace M:=M.b1))
  go_end0
  refine⟨rfl,lv5,?_⟩
  have M2:=M.drop
  (try simp only[List.append_assoc,List.cons_append,List.nil_append,List.singleton_append]at M2 ⊢)
  exact M2
end
end Go.Proofs.YtcebfkdhicbmkaaDoor
/-
  A writer of tokens: options. Printed by shv.py.
-/
namespace Go.Proofs.YtcebfkdhicbmkaaDoor
open Go.RowKit
set_option linter.unusedVariables false
set_option linter.unusedSimpArgs false
theorem shNum_pos(n:Int):1≤(shNum n).length:=by unfold shNum;split<;>simp
section
variable {F:Nat→Prop} {g zw:Nat} {u w0:World} {Kt:List Ent} {toks:List Tkn} {lv:Value}
def relT(k:Int):ByteArray:=relsL.getD k.toNat ByteArray.empty
set_option maxRecDepth 8000 in
set_option maxHeartbeats 8000000 in
theorem woption_any(o:Opt)(h0:1≤o.rel)(h1:o.rel≤13)(hl:0≤o.lo∧o.lo≤4611686018427387904)(hh: -4611686018427387904≤o.hi∧o.hi≤4611686018427387904)(hR:SlF (under u.heap.size) u 1 wordF (some ⟨2,0,none⟩) 14 14 relsL)(hz:0<(relT o.rel).size)(hb:toks.length+(shOpt relT o).length+3≤100000)(M:Mem (StaysB g u) g u w0 ⟨0,0⟩ (own zw [lv] 35::slc u.heap.size 56 3 tknF lv toks::Kt)):
  Calls Tryd.prog 20 #[.pointer (some ⟨zw,0,none⟩),.agg #[.int .i64 o.rel,.int .i64 o.lo,.int .i64 o.hi]] w0 (WrP g zw u Kt (toks++shOpt relT o)):=by
 have HZ:=Lib.hid hz
 have hb1:Hid (toks.length+1≤100000):=by show _≤_;omega
 obtain⟨k,hk⟩: ∃ k:Nat,o.rel=(k:Int):=⟨o.rel.toNat,by omega⟩
 have hkl:k<14:=by omega
 have hk1:1≤k:=by omega
 have hre:relT o.rel=relsL.getD k ByteArray.empty:=by unfold relT;rw[hk];rfl
 have HR:Hid (∀ wx,Below u.heap.size u wx→wx.cell? ⟨2,k,none⟩=some (.string (relT o.rel))):=fun wx hb=>by
  rw[hre]
  obtain⟨b2,off,row,e,_,_,hr,hx⟩:=(hR.below (plainF_firm _) hb).2.2.2.2 k (by show k<14;exact hkl)
  injection e with e;injection e with e1 e2;subst e1;subst e2
  have hx' :row=[.string relsL[k]]:=hx
  subst hx'
  have h9:=hr.2 0 (by decide)
  have e9:relsL.getD k ByteArray.empty=relsL[k]'(show k<14 from hkl):=by rw[List.getD,List.getElem?_eq_getElem (show k<relsL.length from hkl)];rfl
  rw[e9]
  simp only[Nat.mul_one,Nat.zero_add,Nat.add_zero]at h9
  exact h9
 have HO:Hid (0<(⟨#[40]⟩:ByteArray).size):=Lib.hid (by decide)
 have HC:Hid (0<(⟨#[41]⟩:ByteArray).size):=Lib.hid (by decide)
 have HK:Hid (0<(⟨#[44]⟩:ByteArray).size):=Lib.hid (by decide)
 have HA:Hid (0<(⟨#[97,110,121]⟩:ByteArray).size):=Lib.hid (by decide)
 have HL:Hid (-4611686018427387904≤o.lo∧o.lo≤4611686018427387904):=by show _∧_;omega
 have HH:=Lib.hid hh
 have hlp:=shNum_pos o.lo
 have hhp:=shNum_pos o.hi
 unfold shOpt at hb ⊢
 generalize relT o.rel=rw_ at HR HZ hb ⊢
 rw[hk]
 clear hk hre hz hh hR h0 h1
 by_cases hc:o.hi<0∧o.lo=0
 ·rw[if_pos hc]at hb ⊢
  have hcb:decide (o.hi<0)=true:=by simp[hc.1]
  rw[hc.2]
  clear hb hlp hhp hl hc
  go_enter Tryd.func20,Tryd.ntmps20
  go_wp2_with (first|(with_reducible (first|(refine wB M ?_;clear M;intro zb w1 M)|refine wq M ?_|(refine wS M ?_;clear M;intro w M)|(refine wV M ?_;clear M;intro z w M)|(refine wR M ?_;clear M;intro q w M)|(refine w_ (q_rowv1 M ?_);clear M;intro q w M)|(refine w_ (q_rowv2 M ?_);clear M;intro q w M)|(refine w_ (q_rowv3 M ?_);clear M;intro q w M)|refine wC (HR.out _ M.new) ?_))|(go_at_call 8;with_reducible refine(puF1 _ HZ.out _ hb1.out M.f2).mono ?_;rintro e w5 ⟨rfl,lv5,M⟩;replace M:=M.b1))
  refine bodyPost_ret (results_none rfl _ _ _) rfl ?_
  exact⟨rfl,lv5,M.drop⟩
 ·rw[if_neg hc]at hb ⊢
  have hb2:Hid ((toks++[wordT rw_]).length+1≤100000):=by show _≤_;simp at hb ⊢;omega
  have hb3:Hid ((toks++[wordT rw_]++[wordT ⟨#[40]⟩]).length+2≤100000):=by show _≤_;simp at hb ⊢;omega
  have hb4:Hid ((toks++[wordT rw_]++[wordT ⟨#[40]⟩]++shNum o.lo).length+1≤100000):=by show _≤_;simp at hb ⊢;omega
  have hb5:Hid ((toks++[wordT rw_]++[wordT ⟨#[40]⟩]++shNum o.lo++[wordT ⟨#[44]⟩]).length+2≤100000):=by show _≤_;simp at hb ⊢;omega
  have hb5' :Hid ((toks++[wordT rw_]++[wordT ⟨#[40]⟩]++shNum o.lo++[wordT ⟨#[44]⟩]).length+1≤100000):=by show _≤_;simp at hb ⊢;omega
  by_cases hi:o.hi<0
  ·have hlz:o.lo≠0:=fun h=>hc ⟨hi,h⟩
   have hql:(o.lo==0)=false:=by simpa using hlz
   have hcb:decide (o.hi<0)=true:=by simp[hi]
   rw[if_pos hi]at hb ⊢
   have hb6:Hid ((toks++[wordT rw_]++[wordT ⟨#[40]⟩]++shNum o.lo++[wordT ⟨#[44]⟩]++[wordT ⟨#[97,110,121]⟩]).length+1≤100000):=by show _≤_;simp at hb ⊢;omega
   have e0:toks++wordT rw_::wordT ⟨#[40]⟩::(shNum o.lo++wordT ⟨#[44]⟩::([wordT ⟨#[97,110,121]⟩]++[wordT ⟨#[41]⟩]))=toks++[wordT rw_]++[wordT ⟨#[40]⟩]++shNum o.lo++[wordT ⟨#[44]⟩]++[wordT ⟨#[97,110,121]⟩]++[wordT ⟨#[41]⟩]:=by simp
   rw[e0]
   clear hb hlp hhp hl hc hlz e0
   go_enter Tryd.func20,Tryd.ntmps20
   go_wp2_with (first|(with_reducible (first|(refine wB M ?_;clear M;intro zb w1 M)|refine wq M ?_|(refine wS M ?_;clear M;intro w M)|(refine wV M ?_;clear M;intro z w M)|(refine wR M ?_;clear M;intro q w M)|(refine w_ (q_rowv1 M ?_);clear M;intro q w M)|(refine w_ (q_rowv2 M ?_);clear M;intro q w M)|(refine w_ (q_rowv3 M ?_);clear M;intro q w M)|refine wC (HR.out _ M.new) ?_))|(go_at_call 8;with_reducible refine(puF1 _ HZ.out _ hb1.out M.f2).mono ?_;rintro e w5 ⟨rfl,lv5,M⟩;replace M:=M.b1)|(go_at_call 8;with_reducible refine(puF1 ⟨#[40]⟩ HO.out _ hb2.out M.f2).mono ?_;rintro e w5 ⟨rfl,lv5,M⟩;replace M:=M.b1)|(go_at_call 8;with_reducible refine(puF1 ⟨#[44]⟩ HK.out _ hb4.out M.f2).mono ?_;rintro e w5 ⟨rfl,lv5,M⟩;replace M:=M.b1)|(go_at_call 8;with_reducible refine(puF1 ⟨#[97,110,121]⟩ HA.out _ hb5'.out M.f2).mono ?_;rintro e w5 ⟨rfl,lv5,M⟩;replace M:=M.b1)|(go_at_call 8;with_reducible refine(puF1 ⟨#[41]⟩ HC.out _ hb6.out M.f2).mono ?_;rintro e w5 ⟨rfl,lv5,M⟩;replace M:=M.b1)|(go_at_call 19;with_reducible refine(number_any _ HL.out hb3.out M.f1).mono ?_;rintro e w5 ⟨rfl,lv5,M⟩;replace M:=M.b1))
   go_end0
   refine⟨rfl,lv5,?_⟩
   have M2:=M.drop
   (try simp only[List.append_assoc,List.cons_append,List.nil_append,List.singleton_append]at M2 ⊢)
   exact M2
  ·have hcb:decide (o.hi<0)=false:=by simp[hi]
   rw[if_neg hi]at hb ⊢
   have hb6:Hid ((toks++[wordT rw_]++[wordT ⟨#[40]⟩]++shNum o.lo++[wordT ⟨#[44]⟩]++shNum o.hi).length+1≤100000):=by show _≤_;simp at hb ⊢;omega
   have e0:toks++wordT rw_::wordT ⟨#[40]⟩::(shNum o.lo++wordT ⟨#[44]⟩::(shNum o.hi++[wordT ⟨#[41]⟩]))=toks++[wordT rw_]++[wordT ⟨#[40]⟩]++shNum o.lo++[wordT ⟨#[44]⟩]++shNum o.hi++[wordT ⟨#[41]⟩]:=by simp
   rw[e0]
   obtain⟨ql,hql⟩: ∃ ql,(o.lo==0)=ql:=⟨_,rfl⟩
   clear hb hlp hhp hl hc e0
   cases ql
   all_goals
    go_enter Tryd.func20,Tryd.ntmps20
    go_wp2_with (first|(with_reducible (first|(refine wB M ?_;clear M;intro zb w1 M)|refine wq M ?_|(refine wS M ?_;clear M;intro w M)|(refine wV M ?_;clear M;intro z w M)|(refine wR M ?_;clear M;intro q w M)|(refine w_ (q_rowv1 M ?_);clear M;intro q w M)|(refine w_ (q_rowv2 M ?_);clear M;intro q w M)|(refine w_ (q_rowv3 M ?_);clear M;intro q w M)|refine wC (HR.out _ M.new) ?_))|(go_at_call 8;with_reducible refine(puF1 _ HZ.out _ hb1.out M.f2).mono ?_;rintro e w5 ⟨rfl,lv5,M⟩;replace M:=M.b1)|(go_at_call 8;with_reducible refine(puF1 ⟨#[40]⟩ HO.out _ hb2.out M.f2).mono ?_;rintro e w5 ⟨rfl,lv5,M⟩;replace M:=M.b1)|(go_at_call 8;with_reducible refine(puF1 ⟨#[44]⟩ HK.out _ hb4.out M.f2).mono ?_;rintro e w5 ⟨rfl,lv5,M⟩;replace M:=M.b1)|(go_at_call 8;with_reducible refine(puF1 ⟨#[41]⟩ HC.out _ hb6.out M.f2).mono ?_;rintro e w5 ⟨rfl,lv5,M⟩;replace M:=M.b1)|(go_at_call 19;with_reducible refine(number_any _ HL.out hb3.out M.f1).mono ?_;rintro e w5 ⟨rfl,lv5,M⟩;replace M:=M.b1)|(go_at_call 19;with_reducible refine(number_any _ HH.out hb5.out M.f1).mono ?_;rintro e w5 ⟨rfl,lv5,M⟩;replace M:=M.b1))
    go_end0
    refine⟨rfl,lv5,?_⟩
    have M2:=M.drop
    (try simp only[List.append_assoc,List.cons_append,List.nil_append,List.singleton_append]at M2 ⊢)
    exact M2
end
end Go.Proofs.YtcebfkdhicbmkaaDoor
/-
  A rule as tokens, in plain Lean; how long it is.
-/
namespace Go.Proofs.YtcebfkdhicbmkaaDoor
open Go.RowKit
set_option linter.unusedVariables false
set_option linter.unusedSimpArgs false
def winW(k:Int):ByteArray:=if k=1 then⟨#[116,105,109,101]⟩else⟨#[108,97,115,116]⟩
def tWhen:ByteArray:=⟨#[119,104,101,110]⟩
def whenT(i:Nat)(p:Pat):List Tkn:=[wordT ⟨#[119,104,101,110]⟩]++shPat p++(if p.window=0 then []else [wordT ⟨#[111,118,101,114]⟩,wordT (winW p.window)]++shNum p.n)++[wordT ⟨#[59]⟩]
def notT(i:Nat)(p:Pat):List Tkn:=[wordT ⟨#[110,111,116]⟩]++shPat p++[wordT ⟨#[59]⟩]
def manyT(i:Nat)(m:Many):List Tkn:=[wordT ⟨#[109,97,110,121]⟩]++shNum m.count++(if emS m.field=true then []else [wordT ⟨#[111,102]⟩,wordT m.field])++shPat m.pat++[wordT ⟨#[119,105,116,104,105,110]⟩]++shNum m.pat.n++[wordT ⟨#[59]⟩]
def optsT(i:Nat)(o:Opt):List Tkn:=(if i=0 then []else [wordT ⟨#[111,114]⟩])++shOpt relT o
def linkT(i:Nat)(k:Lnk):List Tkn:=[wordT ⟨#[119,104,101,114,101]⟩,wordT k.left]++shCat optsT k.opts++[wordT k.right,wordT ⟨#[59]⟩]
def emitT(i:Nat)(o:Opd):List Tkn:=(if i=0 then []else [wordT ⟨#[44]⟩])++shSide o
def shRule(x:Rul):List Tkn:=
 [wordT ⟨#[114,117,108,101]⟩,wordT x.name,wordT ⟨#[123]⟩]++shCat whenT x.whens++shCat notT x.nots++shCat manyT x.manies++shCat linkT x.links
  ++(if emS x.etype=true then []else [wordT ⟨#[101,109,105,116]⟩,wordT x.etype,wordT ⟨#[40]⟩]++shCat emitT x.evals++[wordT ⟨#[41]⟩,wordT ⟨#[59]⟩])++[wordT ⟨#[125]⟩]
theorem shCat_le{α:Type}{f:Nat→α→List Tkn}{l:List α}{K:Nat}(h: ∀ i x,x∈l→(f i x).length≤K):(shCat f l).length≤l.length*K:=by
 unfold shCat
 have: ∀ (m:List α) (k:Nat),(∀ i x,x∈m→(f i x).length≤K)→((m.zipIdx k).flatMap fun x=>f x.2 x.1).length≤m.length*K:=by
  intro m
  induction m with
  |nil=>intro k _;simp
  |cons a m ih=>
   intro k hm
   rw[List.zipIdx_cons,List.flatMap_cons,List.length_append,List.length_cons,Nat.add_mul]
   have h1:=hm k a (List.mem_cons_self ..)
   have h2:=ih (k+1) (fun i x hx=>hm i x (List.mem_cons_of_mem _ hx))
   simp only at h1 ⊢
   omega
 exact this l 0 h
theorem shNum_le(n:Int):(shNum n).length≤2:=by unfold shNum;split<;>simp
theorem shSide_le(o:Opd):(shSide o).length≤3:=by
 unfold shSide
 split
 ·simp
 ·split
  ·simp
  ·split
   ·exact Nat.le_trans (shNum_le _) (by omega)
   ·simp
theorem shOpt_le(o:Opt):(shOpt relT o).length≤8:=by
 unfold shOpt
 have h1:=shNum_le o.lo
 have h2:=shNum_le o.hi
 split
 ·simp
 ·split<;>simp<;>omega
theorem whenT_le{i:Nat}{p:Pat}(h:(shPat p).length≤1000):(whenT i p).length≤1010:=by
 unfold whenT
 have:=shNum_le p.n
 split<;>simp<;>omega
theorem notT_le{i:Nat}{p:Pat}(h:(shPat p).length≤1000):(notT i p).length≤1010:=by unfold notT;simp;omega
theorem manyT_le{i:Nat}{m:Many}(h:(shPat m.pat).length≤1000):(manyT i m).length≤1010:=by
 unfold manyT
 have:=shNum_le m.count
 have:=shNum_le m.pat.n
 split<;>simp<;>omega
theorem optsT_le{i:Nat}{o:Opt}:(optsT i o).length≤9:=by
 unfold optsT
 have:=shOpt_le o
 split<;>simp<;>omega
theorem linkT_le{i:Nat}{k:Lnk}(h:k.opts.length≤6):(linkT i k).length≤60:=by
 unfold linkT
 have:=shCat_le (f:=optsT) (l:=k.opts) (K:=9) (fun i x _=>optsT_le)
 simp
 omega
theorem emitT_le{i:Nat}{o:Opd}:(emitT i o).length≤4:=by
 unfold emitT
 have:=shSide_le o
 split<;>simp<;>omega
structure RulSh (x:Rul):Prop where
 name:Nm x.name
 nW:x.whens.length≤3
 nN:x.nots.length≤2
 nM:x.manies.length≤2
 nL:x.links.length≤6
 nE:x.evals.length≤100
 whens: ∀ p∈x.whens,PatSh p∧(shPat p).length≤1000∧0≤p.window∧p.window≤2∧ -4611686018427387904≤p.n∧p.n≤4611686018427387904
 nots: ∀ p∈x.nots,PatSh p∧(shPat p).length≤1000
 manies: ∀ m∈x.manies,PatSh m.pat∧(shPat m.pat).length≤1000∧ -4611686018427387904≤m.pat.n∧m.pat.n≤4611686018427387904∧ -4611686018427387904≤m.count∧m.count≤4611686018427387904
 links: ∀ k∈x.links,k.opts.length≤6∧Nm k.left∧Nm k.right∧ ∀ o∈k.opts,1≤o.rel∧o.rel≤13∧0≤o.lo∧o.lo≤4611686018427387904∧ -4611686018427387904≤o.hi∧o.hi≤4611686018427387904
 evals: ∀ o∈x.evals,OpdSh o
 ety:emS x.etype=true∨Nm x.etype
 mfld: ∀ m∈x.manies,emS m.field=true∨Nm m.field
theorem relT_pos{k:Int}(h0:1≤k)(h1:k≤13):0<(relT k).size:=by
 obtain⟨n,rfl⟩: ∃ n:Nat,k=(n:Int):=⟨k.toNat,by omega⟩
 have:n=1∨n=2∨n=3∨n=4∨n=5∨n=6∨n=7∨n=8∨n=9∨n=10∨n=11∨n=12∨n=13:=by omega
 rcases this with rfl|rfl|rfl|rfl|rfl|rfl|rfl|rfl|rfl|rfl|rfl|rfl|rfl<;>decide
end Go.Proofs.YtcebfkdhicbmkaaDoor
