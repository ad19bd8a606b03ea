/-
  The walk of sift: does a condition hold? Printed by sfc.py.
-/
import Derived.Test.YtfahleafppfkaaaGreatDoorWf12
import Derived.Test.YtfahleafppfkaaaGreatDoorWf18
namespace Go.Proofs.YtfahleafppfkaaaGreatDoor
open Go.RowKit
set_option linter.unusedVariables false
set_option linter.unusedSimpArgs false
section
variable {ts:List Typ} {wh:List Pat} {known:List Eve} {me:Eve} {f:Nat} {c:Cond}
theorem hold_zero(h:c.kind=0):holdR ts wh known me (f+1) c=true:=by unfold holdR;rw[if_pos h]
theorem hold_not(h:c.kind=3)(h1:c.subs.length=1)(h0:0<c.subs.length):holdR ts wh known me (f+1) c=!(holdR ts wh known me f c.subs[0]):=by
 conv=>lhs;unfold holdR
 rw[if_neg (by omega),if_pos h,show c.subs.getD 0 cond0=c.subs[0]by simp[List.getD,List.getElem?_eq_getElem h0]]
theorem hold_and_stop(h:c.kind=1){j:Nat}(hj:j<c.subs.length)(hb:holdR ts wh known me f c.subs[j]=false):holdR ts wh known me (f+1) c=false:=by
 unfold holdR
 rw[if_neg (by omega),if_neg (by omega),if_pos h]
 exact List.all_eq_false.2 ⟨_,List.getElem_mem hj,by simp[hb]⟩
theorem hold_and_end(h:c.kind=1)(hN:NoB c.subs (fun s=>holdR ts wh known me f s==false) c.subs.length):holdR ts wh known me (f+1) c=true:=by
 unfold holdR
 rw[if_neg (by omega),if_neg (by omega),if_pos h]
 refine List.all_eq_true.2 fun s hs=>?_
 obtain⟨i,hi,rfl⟩:=List.mem_iff_getElem.1 hs
 simpa using hN i hi hi
theorem hold_or_stop(h:c.kind=2){j:Nat}(hj:j<c.subs.length)(hb:holdR ts wh known me f c.subs[j]=true):holdR ts wh known me (f+1) c=true:=by
 unfold holdR
 rw[if_neg (by omega),if_neg (by omega),if_neg (by omega),if_pos h]
 exact List.any_eq_true.2 ⟨_,List.getElem_mem hj,hb⟩
theorem hold_or_end(h:c.kind=2)(hN:NoB c.subs (fun s=>holdR ts wh known me f s==true) c.subs.length):holdR ts wh known me (f+1) c=false:=by
 unfold holdR
 rw[if_neg (by omega),if_neg (by omega),if_neg (by omega),if_pos h]
 refine List.any_eq_false.2 fun s hs=>?_
 obtain⟨i,hi,rfl⟩:=List.mem_iff_getElem.1 hs
 simpa using hN i hi hi
theorem hold_test(h:4≤c.kind):holdR ts wh known me (f+1) c=testB c.kind (cmpV (sideV ts wh known me c.left) (sideV ts wh known me c.right)):=by
 unfold holdR
 rw[if_neg (by omega),if_neg (by omega),if_neg (by omega),if_neg (by omega)]
theorem sideV_fit{o:Opd}(ho:OpdFit o)(hm:eveOk me)(hk: ∀ x∈known,eveOk x)(hG:SideGood ts wh known me o):(sideV ts wh known me o).text.size≤maxLen:=by
 unfold sideV
 by_cases h1:o.kind=1
 ·rw[if_pos h1];exact ho.1
 rw[if_neg h1]
 rcases hG with h|⟨hk3,hx,hf⟩
 ·exact absurd h h1
 have hX:eveOk (sideX wh known me o):=by
  unfold sideX
  by_cases h3:o.kind=3
  ·rw[if_pos h3]
   rcases hk3 with h|⟨-,h⟩
   ·omega
   ·rw[show known.getD (patI wh o.var) default=known[patI wh o.var]by simp[List.getD,List.getElem?_eq_getElem h]]
    exact hk _ (List.getElem_mem h)
  ·rw[if_neg h3];exact hm
 have hl:fldAt (evT ts (sideX wh known me o)).fields o.field<(sideX wh known me o).vals.length:=by rw[hx.len];exact hf
 unfold fldV
 rw[show(sideX wh known me o).vals.getD (fldAt (evT ts (sideX wh known me o)).fields o.field) default=(sideX wh known me o).vals[fldAt (evT ts (sideX wh known me o)).fields o.field]by simp[List.getD,List.getElem?_eq_getElem hl]]
 exact hX _ (List.getElem_mem hl)
end
section
variable {F S:Nat→Prop} {w0:World} {zv:Nat} {v:VA} {ts:List Typ} {wh:List Pat} {names:List ByteArray} {known:List Eve} {me:Eve} {f:Nat} {so:Option Addr} {sn sc:Nat}
set_option maxRecDepth 8000 in
set_option maxHeartbeats 8000000 in
theorem holds_zero(V:View F w0 zv v ts names known me)(c:Cond)(hk:c.kind=0):
  Calls Tryz.prog 74 #[.pointer (some ⟨zv,0,none⟩),.agg (cnd14 c.kind so sn sc c.left c.right).toArray] w0 fun e w' =>e= .returned (.bool (holdR ts wh known me (f+1) c))∧Below w0.heap.size w0 w' :=by
 have M:=Mem.begin V.lt ⟨0,0⟩
 have HV:=Lib.hid (hold_zero (ts:=ts) (wh:=wh) (known:=known) (me:=me) (f:=f) hk)
 unfold cnd14
 rw[hk]
 clear V hk
 go_enter Tryz.func74,Tryz.ntmps74
 go_wp2_with (with_reducible (first|(refine wB (L:=[]) M ?_;clear M;intro za w1 M)|refine wq M ?_))
 go_ret
 rw[HV.out]
 exact⟨rfl,M.new⟩
set_option maxRecDepth 8000 in
set_option maxHeartbeats 8000000 in
theorem holds_not(V:View F w0 zv v ts names known me)(c:Cond)(hS:SlF S w0 14 CondF so sn sc c.subs)(IH: ∀ j (hj:j<c.subs.length) (so2:Option Addr) (sn2 sc2:Nat) (wy:World),Below w0.heap.size w0 wy→SlF S wy 14 CondF so2 sn2 sc2 c.subs[j].subs→Calls Tryz.prog 74 #[.pointer (some ⟨zv,0,none⟩),.agg (cnd14 c.subs[j].kind so2 sn2 sc2 c.subs[j].left c.subs[j].right).toArray] wy fun e w' =>e= .returned (.bool (holdR ts wh known me f c.subs[j]))∧Below wy.heap.size wy w')(hk:c.kind=3)(h1:c.subs.length=1):
  Calls Tryz.prog 74 #[.pointer (some ⟨zv,0,none⟩),.agg (cnd14 c.kind so sn sc c.left c.right).toArray] w0 fun e w' =>e= .returned (.bool (holdR ts wh known me (f+1) c))∧Below w0.heap.size w0 w' :=by
 have M:=Mem.begin V.lt ⟨0,0⟩
 have h0:0<c.subs.length:=by omega
 have HV:=Lib.hid (hold_not (ts:=ts) (wh:=wh) (known:=known) (me:=me) (f:=f) hk h1 h0)
 have HS:=Lib.hid hS
 replace IH:=Lib.hid IH
 obtain⟨ca,oa,rowa,hixa, -,hrra,hwa⟩:=SlF.rowAt (P:=Tryz.prog) HS.out condF_firm Tryz.underlying70 size_cnd (i:=0) h0
 obtain⟨so2,sn2,sc2,e1,hS2⟩:=hrra.open14
 subst e1
 have HR:Hid (∀ wx,Below w0.heap.size w0 wx→wx.rangeAt ca oa (cnd14 c.subs[0].kind so2 sn2 sc2 c.subs[0].left c.subs[0].right)):=fun wx hb=>(hwa wx hb).1
 have HC:Hid (∀ wx,Below w0.heap.size w0 wx→Calls Tryz.prog 74 #[.pointer (some ⟨zv,0,none⟩),.agg (cnd14 c.subs[0].kind so2 sn2 sc2 c.subs[0].left c.subs[0].right).toArray] wx fun e w' =>e= .returned (.bool (holdR ts wh known me f c.subs[0]))∧Below wx.heap.size wx w'):=fun wx hb=>IH.out 0 h0 so2 sn2 sc2 wx hb (hS2.below condF_firm hb)
 have hix0: ∀ wx,(Instr.indexAt 70 (.slice so sn sc) (.int .i64 0)).run Tryz.prog wx= .ok (.pointer (some ⟨ca,oa,none⟩)) wx:=hixa
 have hsn:(sn:Int)=1:=by have:=hS.len;omega
 generalize holdR ts wh known me f c.subs[0]=b at HC HV
 generalize c.subs[0]=s at HR HC
 unfold cnd14 at HR HC ⊢
 rw[hk]
 clear V hk hS HS IH hixa hwa hrra hS2 h1 h0
 go_enter Tryz.func74,Tryz.ntmps74
 go_wp2_with (first|(with_reducible (first|(refine wB (L:=[]) M ?_;clear M;intro za w1 M)|refine wq M ?_|refine wA (HR.out _ M.new) ?_))|(go_at_call 74;with_reducible refine(HC.out _ M.new).mono ?_;rintro e w5 ⟨rfl,hb5⟩;replace M:=M.below hb5;clear hb5))
 all_goals
  go_ret
  rw[HV.out]
  exact⟨by simp[*],M.new⟩
set_option maxRecDepth 8000 in
set_option maxHeartbeats 8000000 in
theorem holds_and(V:View F w0 zv v ts names known me)(c:Cond)(hS:SlF S w0 14 CondF so sn sc c.subs)(IH: ∀ j (hj:j<c.subs.length) (so2:Option Addr) (sn2 sc2:Nat) (wy:World),Below w0.heap.size w0 wy→SlF S wy 14 CondF so2 sn2 sc2 c.subs[j].subs→Calls Tryz.prog 74 #[.pointer (some ⟨zv,0,none⟩),.agg (cnd14 c.subs[j].kind so2 sn2 sc2 c.subs[j].left c.subs[j].right).toArray] wy fun e w' =>e= .returned (.bool (holdR ts wh known me f c.subs[j]))∧Below wy.heap.size wy w')(hk:c.kind=1):
  Calls Tryz.prog 74 #[.pointer (some ⟨zv,0,none⟩),.agg (cnd14 c.kind so sn sc c.left c.right).toArray] w0 fun e w' =>e= .returned (.bool (holdR ts wh known me (f+1) c))∧Below w0.heap.size w0 w' :=by
 have M:=Mem.begin V.lt ⟨0,0⟩
 have HS:=Lib.hid hS
 have NL:=Lib.hid hS.len
 have hle:=hS.le
 replace IH:=Lib.hid IH
 have HK:=Lib.hid hk
 unfold cnd14
 rw[hk]
 clear V hk hS
 go_enter Tryz.func74,Tryz.ntmps74
 go_wp2_with (with_reducible (first|(refine wB (L:=[]) M ?_;clear M;intro za w1 M)|refine wq M ?_))
 go_loopg [28] sn (fun fu i wr=> ∃ (j:Nat),j+fu=sn∧i= .int .i64 j∧Mem (StaysB zv w0) zv w0 wr ⟨0,0⟩ (own za [.int .i64 1,.slice so sn sc,.int .i64 c.left.kind,.int .i64 c.left.vkind,.int .i64 c.left.vint,.string c.left.vtext,.string c.left.var,.string c.left.field,.int .i64 c.right.kind,.int .i64 c.right.vkind,.int .i64 c.right.vint,.string c.right.vtext,.string c.right.var,.string c.right.field] 76::[])∧Hid (NoB c.subs (fun s=>holdR ts wh known me f s==false) j))
 case atStart=>exact⟨0,by omega,rfl,M,noB_zero _ _⟩
 case round=>
  clear M
  obtain⟨j,hj,rfl,M,HB⟩:=hrel
  by_cases hlt:j<sn
  ·have hkl:j<c.subs.length:=by have:=NL.out;omega
   obtain⟨ca,oa,rowa,hixa, -,hrra,hwa⟩:=SlF.rowAt (P:=Tryz.prog) HS.out condF_firm Tryz.underlying70 size_cnd (i:=j) hkl
   obtain⟨so2,sn2,sc2,e1,hS2⟩:=hrra.open14
   subst e1
   have HR:Hid (∀ wx,Below w0.heap.size w0 wx→wx.rangeAt ca oa (cnd14 c.subs[j].kind so2 sn2 sc2 c.subs[j].left c.subs[j].right)):=fun wx hb=>(hwa wx hb).1
   have HC:Hid (∀ wx,Below w0.heap.size w0 wx→Calls Tryz.prog 74 #[.pointer (some ⟨zv,0,none⟩),.agg (cnd14 c.subs[j].kind so2 sn2 sc2 c.subs[j].left c.subs[j].right).toArray] wx fun e w' =>e= .returned (.bool (holdR ts wh known me f c.subs[j]))∧Below wx.heap.size wx w'):=fun wx hb=>IH.out j hkl so2 sn2 sc2 wx hb (hS2.below condF_firm hb)
   have HST:Hid (holdR ts wh known me f c.subs[j]=false→holdR ts wh known me (f+1) c=false):=fun h=>hold_and_stop HK.out hkl h
   have HB2:Hid (holdR ts wh known me f c.subs[j]=true→NoB c.subs (fun s=>holdR ts wh known me f s==false) (j+1)):=fun h=>noB_succ HB.out hkl (by simp[h])
   clear hwa hrra hS2 HB
   generalize holdR ts wh known me f c.subs[j]=b at HC HST HB2
   generalize c.subs[j]=s at HR HC
   clear hkl
   unfold cnd14 at HR HC
   cases b with
   |false=>
    have HV:=Lib.hid (HST.out rfl)
    clear HST HB2
    go_wp2_with (with_reducible (first|(refine wV M ?_;clear M;intro zt w M)|(refine wS M ?_;clear M;intro w M)|refine wA (HR.out _ M.new) ?_))
    (refine wp_region_any (by kernel_rfl) ?_;(try(change wpAny _ _ _ _ _ _ _ (World.drew _)));replace M:=M.drew;generalize World.drew _=w at M ⊢;have S:=St.o;((refine tk 0 (v:=?_) rfl (by kernel_rfl) rfl ?_ ?_;rotate_left;focus(intro w;go_simp;try with_reducible rfl));(try go_simp);(refine tk 3 (v:=?_) rfl (by kernel_rfl) rfl ?_ ?_;rotate_left;focus(intro w;go_simp;try with_reducible rfl));(try go_simp);replace S:=S.add 9;refine rd2 1 4 (by kernel_rfl) rfl rfl ?_ rfl rfl ?_<;>intro K hK);all_goals(first|(refine o_dst (some 33) ?_;(refine q_all M (by rfl) ?_);(all_goals(refine hK _ _ ?_;clear hK K;replace S:=S.add 2)))|(refine o_dst (some 36) ?_;(refine q_get M (by exact rfl) ?_);(all_goals(refine hK _ _ ?_;clear hK K;replace S:=S.add 16))));all_goals(first|(replace S:St 11:=S;refine rd2 2 4 (by kernel_rfl) rfl rfl ?_ rfl rfl ?_<;>intro K hK)|(replace S:St 25:=S;(refine tk 5 (v:=?_) rfl (by kernel_rfl) rfl ?_ ?_;rotate_left;focus(intro w;go_simp;try with_reducible rfl));(try go_simp);replace S:=S.add 32;refine rd1 1 (by kernel_rfl) rfl rfl ?_<;>intro K hK));all_goals(first|(refine o_dst (some 34) ?_;(refine owp_of ?_;go_simp;(go_at_call 74;with_reducible refine(HC.out _ M.new).mono ?_;rintro e w5 ⟨rfl,hb5⟩;replace M:=M.below hb5;clear hb5);(try go_simp));(all_goals(refine hK _ _ ?_;clear hK K;replace S:=S.add 4)))|(refine o_dst (some 36) ?_;(refine q_get M (by exact rfl) ?_);(all_goals(refine hK _ _ ?_;clear hK K;replace S:=S.add 16)))|(refine o_dst (some 33) ?_;(refine q_all M (by rfl) ?_);(all_goals(refine hK _ _ ?_;clear hK K;replace S:=S.add 2))));all_goals(first|(replace S:St 15:=S;refine rd1 4 (by kernel_rfl) rfl rfl ?_<;>intro K hK)|(replace S:St 27:=S;(refine tk 5 (v:=?_) rfl (by kernel_rfl) rfl ?_ ?_;rotate_left;focus(intro w;go_simp;try with_reducible rfl));(try go_simp);replace S:=S.add 32;refine rd1 2 (by kernel_rfl) rfl rfl ?_<;>intro K hK)|(replace S:St 59:=S;refine rd1 2 (by kernel_rfl) rfl rfl ?_<;>intro K hK));all_goals(first|(refine o_dst (some 36) ?_;(refine q_get M (by exact rfl) ?_);(all_goals(refine hK _ _ ?_;clear hK K;replace S:=S.add 16)))|(refine o_dst (some 34) ?_;(refine owp_of ?_;go_simp;(go_at_call 74;with_reducible refine(HC.out _ M.new).mono ?_;rintro e w5 ⟨rfl,hb5⟩;replace M:=M.below hb5;clear hb5);(try go_simp));(all_goals(refine hK _ _ ?_;clear hK K;replace S:=S.add 4))));all_goals((first|(replace S:St 31:=S;(refine tk 5 (v:=?_) rfl (by kernel_rfl) rfl ?_ ?_;rotate_left;focus(intro w;go_simp;try with_reducible rfl));(try go_simp);(refine tk 6 (v:=?_) rfl (by kernel_rfl) rfl ?_ ?_;rotate_left;focus(intro w;go_simp;try with_reducible rfl));(try go_simp);refine wpAny_done (by kernel_rfl) ?_ _)|(replace S:St 63:=S;(refine tk 6 (v:=?_) rfl (by kernel_rfl) rfl ?_ ?_;rotate_left;focus(intro w;go_simp;try with_reducible rfl));(try go_simp);refine wpAny_done (by kernel_rfl) ?_ _));clear S))
    all_goals
     go_wp2_with (with_reducible refine wq M ?_)
     go_ret
     rw[HV.out]
     exact⟨rfl,M.new⟩
   |true=>
    have HB3:=Lib.hid (HB2.out rfl)
    clear HST HB2
    go_wp2_with (with_reducible (first|(refine wV M ?_;clear M;intro zt w M)|(refine wS M ?_;clear M;intro w M)|refine wA (HR.out _ M.new) ?_))
    (refine wp_region_any (by kernel_rfl) ?_;(try(change wpAny _ _ _ _ _ _ _ (World.drew _)));replace M:=M.drew;generalize World.drew _=w at M ⊢;have S:=St.o;((refine tk 0 (v:=?_) rfl (by kernel_rfl) rfl ?_ ?_;rotate_left;focus(intro w;go_simp;try with_reducible rfl));(try go_simp);(refine tk 3 (v:=?_) rfl (by kernel_rfl) rfl ?_ ?_;rotate_left;focus(intro w;go_simp;try with_reducible rfl));(try go_simp);replace S:=S.add 9;refine rd2 1 4 (by kernel_rfl) rfl rfl ?_ rfl rfl ?_<;>intro K hK);all_goals(first|(refine o_dst (some 33) ?_;(refine q_all M (by rfl) ?_);(all_goals(refine hK _ _ ?_;clear hK K;replace S:=S.add 2)))|(refine o_dst (some 36) ?_;(refine q_get M (by exact rfl) ?_);(all_goals(refine hK _ _ ?_;clear hK K;replace S:=S.add 16))));all_goals(first|(replace S:St 11:=S;refine rd2 2 4 (by kernel_rfl) rfl rfl ?_ rfl rfl ?_<;>intro K hK)|(replace S:St 25:=S;(refine tk 5 (v:=?_) rfl (by kernel_rfl) rfl ?_ ?_;rotate_left;focus(intro w;go_simp;try with_reducible rfl));(try go_simp);replace S:=S.add 32;refine rd1 1 (by kernel_rfl) rfl rfl ?_<;>intro K hK));all_goals(first|(refine o_dst (some 34) ?_;(refine owp_of ?_;go_simp;(go_at_call 74;with_reducible refine(HC.out _ M.new).mono ?_;rintro e w5 ⟨rfl,hb5⟩;replace M:=M.below hb5;clear hb5);(try go_simp));(all_goals(refine hK _ _ ?_;clear hK K;replace S:=S.add 4)))|(refine o_dst (some 36) ?_;(refine q_get M (by exact rfl) ?_);(all_goals(refine hK _ _ ?_;clear hK K;replace S:=S.add 16)))|(refine o_dst (some 33) ?_;(refine q_all M (by rfl) ?_);(all_goals(refine hK _ _ ?_;clear hK K;replace S:=S.add 2))));all_goals(first|(replace S:St 15:=S;refine rd1 4 (by kernel_rfl) rfl rfl ?_<;>intro K hK)|(replace S:St 27:=S;(refine tk 5 (v:=?_) rfl (by kernel_rfl) rfl ?_ ?_;rotate_left;focus(intro w;go_simp;try with_reducible rfl));(try go_simp);replace S:=S.add 32;refine rd1 2 (by kernel_rfl) rfl rfl ?_<;>intro K hK)|(replace S:St 59:=S;refine rd1 2 (by kernel_rfl) rfl rfl ?_<;>intro K hK));all_goals(first|(refine o_dst (some 36) ?_;(refine q_get M (by exact rfl) ?_);(all_goals(refine hK _ _ ?_;clear hK K;replace S:=S.add 16)))|(refine o_dst (some 34) ?_;(refine owp_of ?_;go_simp;(go_at_call 74;with_reducible refine(HC.out _ M.new).mono ?_;rintro e w5 ⟨rfl,hb5⟩;replace M:=M.below hb5;clear hb5);(try go_simp));(all_goals(refine hK _ _ ?_;clear hK K;replace S:=S.add 4))));all_goals((first|(replace S:St 31:=S;(refine tk 5 (v:=?_) rfl (by kernel_rfl) rfl ?_ ?_;rotate_left;focus(intro w;go_simp;try with_reducible rfl));(try go_simp);(refine tk 6 (v:=?_) rfl (by kernel_rfl) rfl ?_ ?_;rotate_left;focus(intro w;go_simp;try with_reducible rfl));(try go_simp);refine wpAny_done (by kernel_rfl) ?_ _)|(replace S:St 63:=S;(refine tk 6 (v:=?_) rfl (by kernel_rfl) rfl ?_ ?_;rotate_left;focus(intro w;go_simp;try with_reducible rfl));(try go_simp);refine wpAny_done (by kernel_rfl) ?_ _));clear S))
    all_goals
     go_wp2_with (with_reducible (first|refine wq M ?_|(refine wS M ?_;clear M;intro w M)|(refine wV M ?_;clear M;intro z w M)|(refine wR M ?_;clear M;intro q w M)))
     go_roundg (sn - (j+1))
     case measure=>omega
     case rel=>exact⟨j+1,by omega,by go_num,M.drop,HB3⟩
  ·have HV:=Lib.hid (hold_and_end (ts:=ts) (wh:=wh) (known:=known) (me:=me) (f:=f) HK.out (by have e:j=c.subs.length:=(by have:=NL.out;omega);rw[←e];exact HB.out))
   clear HB
   go_wp2_with (with_reducible refine wq M ?_)
   go_ret
   rw[HV.out]
   exact⟨rfl,M.new⟩
set_option maxRecDepth 8000 in
set_option maxHeartbeats 8000000 in
theorem holds_or(V:View F w0 zv v ts names known me)(c:Cond)(hS:SlF S w0 14 CondF so sn sc c.subs)(IH: ∀ j (hj:j<c.subs.length) (so2:Option Addr) (sn2 sc2:Nat) (wy:World),Below w0.heap.size w0 wy→SlF S wy 14 CondF so2 sn2 sc2 c.subs[j].subs→Calls Tryz.prog 74 #[.pointer (some ⟨zv,0,none⟩),.agg (cnd14 c.subs[j].kind so2 sn2 sc2 c.subs[j].left c.subs[j].right).toArray] wy fun e w' =>e= .returned (.bool (holdR ts wh known me f c.subs[j]))∧Below wy.heap.size wy w')(hk:c.kind=2):
  Calls Tryz.prog 74 #[.pointer (some ⟨zv,0,none⟩),.agg (cnd14 c.kind so sn sc c.left c.right).toArray] w0 fun e w' =>e= .returned (.bool (holdR ts wh known me (f+1) c))∧Below w0.heap.size w0 w' :=by
 have M:=Mem.begin V.lt ⟨0,0⟩
 have HS:=Lib.hid hS
 have NL:=Lib.hid hS.len
 have hle:=hS.le
 replace IH:=Lib.hid IH
 have HK:=Lib.hid hk
 unfold cnd14
 rw[hk]
 clear V hk hS
 go_enter Tryz.func74,Tryz.ntmps74
 go_wp2_with (with_reducible (first|(refine wB (L:=[]) M ?_;clear M;intro za w1 M)|refine wq M ?_))
 go_loopg [28] sn (fun fu i wr=> ∃ (j:Nat),j+fu=sn∧i= .int .i64 j∧Mem (StaysB zv w0) zv w0 wr ⟨0,0⟩ (own za [.int .i64 2,.slice so sn sc,.int .i64 c.left.kind,.int .i64 c.left.vkind,.int .i64 c.left.vint,.string c.left.vtext,.string c.left.var,.string c.left.field,.int .i64 c.right.kind,.int .i64 c.right.vkind,.int .i64 c.right.vint,.string c.right.vtext,.string c.right.var,.string c.right.field] 76::[])∧Hid (NoB c.subs (fun s=>holdR ts wh known me f s==true) j))
 case atStart=>exact⟨0,by omega,rfl,M,noB_zero _ _⟩
 case round=>
  clear M
  obtain⟨j,hj,rfl,M,HB⟩:=hrel
  by_cases hlt:j<sn
  ·have hkl:j<c.subs.length:=by have:=NL.out;omega
   obtain⟨ca,oa,rowa,hixa, -,hrra,hwa⟩:=SlF.rowAt (P:=Tryz.prog) HS.out condF_firm Tryz.underlying70 size_cnd (i:=j) hkl
   obtain⟨so2,sn2,sc2,e1,hS2⟩:=hrra.open14
   subst e1
   have HR:Hid (∀ wx,Below w0.heap.size w0 wx→wx.rangeAt ca oa (cnd14 c.subs[j].kind so2 sn2 sc2 c.subs[j].left c.subs[j].right)):=fun wx hb=>(hwa wx hb).1
   have HC:Hid (∀ wx,Below w0.heap.size w0 wx→Calls Tryz.prog 74 #[.pointer (some ⟨zv,0,none⟩),.agg (cnd14 c.subs[j].kind so2 sn2 sc2 c.subs[j].left c.subs[j].right).toArray] wx fun e w' =>e= .returned (.bool (holdR ts wh known me f c.subs[j]))∧Below wx.heap.size wx w'):=fun wx hb=>IH.out j hkl so2 sn2 sc2 wx hb (hS2.below condF_firm hb)
   have HST:Hid (holdR ts wh known me f c.subs[j]=true→holdR ts wh known me (f+1) c=true):=fun h=>hold_or_stop HK.out hkl h
   have HB2:Hid (holdR ts wh known me f c.subs[j]=false→NoB c.subs (fun s=>holdR ts wh known me f s==true) (j+1)):=fun h=>noB_succ HB.out hkl (by simp[h])
   clear hwa hrra hS2 HB
   generalize holdR ts wh known me f c.subs[j]=b at HC HST HB2
   generalize c.subs[j]=s at HR HC
   clear hkl
   unfold cnd14 at HR HC
   cases b with
   |true=>
    have HV:=Lib.hid (HST.out rfl)
    clear HST HB2
    go_wp2_with (with_reducible (first|(refine wV M ?_;clear M;intro zt w M)|(refine wS M ?_;clear M;intro w M)|refine wA (HR.out _ M.new) ?_))
    (refine wp_region_any (by kernel_rfl) ?_;(try(change wpAny _ _ _ _ _ _ _ (World.drew _)));replace M:=M.drew;generalize World.drew _=w at M ⊢;have S:=St.o;((refine tk 0 (v:=?_) rfl (by kernel_rfl) rfl ?_ ?_;rotate_left;focus(intro w;go_simp;try with_reducible rfl));(try go_simp);(refine tk 3 (v:=?_) rfl (by kernel_rfl) rfl ?_ ?_;rotate_left;focus(intro w;go_simp;try with_reducible rfl));(try go_simp);replace S:=S.add 9;refine rd2 1 4 (by kernel_rfl) rfl rfl ?_ rfl rfl ?_<;>intro K hK);all_goals(first|(refine o_dst (some 33) ?_;(refine q_all M (by rfl) ?_);(all_goals(refine hK _ _ ?_;clear hK K;replace S:=S.add 2)))|(refine o_dst (some 36) ?_;(refine q_get M (by exact rfl) ?_);(all_goals(refine hK _ _ ?_;clear hK K;replace S:=S.add 16))));all_goals(first|(replace S:St 11:=S;refine rd2 2 4 (by kernel_rfl) rfl rfl ?_ rfl rfl ?_<;>intro K hK)|(replace S:St 25:=S;(refine tk 5 (v:=?_) rfl (by kernel_rfl) rfl ?_ ?_;rotate_left;focus(intro w;go_simp;try with_reducible rfl));(try go_simp);replace S:=S.add 32;refine rd1 1 (by kernel_rfl) rfl rfl ?_<;>intro K hK));all_goals(first|(refine o_dst (some 34) ?_;(refine owp_of ?_;go_simp;(go_at_call 74;with_reducible refine(HC.out _ M.new).mono ?_;rintro e w5 ⟨rfl,hb5⟩;replace M:=M.below hb5;clear hb5);(try go_simp));(all_goals(refine hK _ _ ?_;clear hK K;replace S:=S.add 4)))|(refine o_dst (some 36) ?_;(refine q_get M (by exact rfl) ?_);(all_goals(refine hK _ _ ?_;clear hK K;replace S:=S.add 16)))|(refine o_dst (some 33) ?_;(refine q_all M (by rfl) ?_);(all_goals(refine hK _ _ ?_;clear hK K;replace S:=S.add 2))));all_goals(first|(replace S:St 15:=S;refine rd1 4 (by kernel_rfl) rfl rfl ?_<;>intro K hK)|(replace S:St 27:=S;(refine tk 5 (v:=?_) rfl (by kernel_rfl) rfl ?_ ?_;rotate_left;focus(intro w;go_simp;try with_reducible rfl));(try go_simp);replace S:=S.add 32;refine rd1 2 (by kernel_rfl) rfl rfl ?_<;>intro K hK)|(replace S:St 59:=S;refine rd1 2 (by kernel_rfl) rfl rfl ?_<;>intro K hK));all_goals(first|(refine o_dst (some 36) ?_;(refine q_get M (by exact rfl) ?_);(all_goals(refine hK _ _ ?_;clear hK K;replace S:=S.add 16)))|(refine o_dst (some 34) ?_;(refine owp_of ?_;go_simp;(go_at_call 74;with_reducible refine(HC.out _ M.new).mono ?_;rintro e w5 ⟨rfl,hb5⟩;replace M:=M.below hb5;clear hb5);(try go_simp));(all_goals(refine hK _ _ ?_;clear hK K;replace S:=S.add 4))));all_goals((first|(replace S:St 31:=S;(refine tk 5 (v:=?_) rfl (by kernel_rfl) rfl ?_ ?_;rotate_left;focus(intro w;go_simp;try with_reducible rfl));(try go_simp);(refine tk 6 (v:=?_) rfl (by kernel_rfl) rfl ?_ ?_;rotate_left;focus(intro w;go_simp;try with_reducible rfl));(try go_simp);refine wpAny_done (by kernel_rfl) ?_ _)|(replace S:St 63:=S;(refine tk 6 (v:=?_) rfl (by kernel_rfl) rfl ?_ ?_;rotate_left;focus(intro w;go_simp;try with_reducible rfl));(try go_simp);refine wpAny_done (by kernel_rfl) ?_ _));clear S))
    all_goals
     go_wp2_with (with_reducible refine wq M ?_)
     go_ret
     rw[HV.out]
     exact⟨rfl,M.new⟩
   |false=>
    have HB3:=Lib.hid (HB2.out rfl)
    clear HST HB2
    go_wp2_with (with_reducible (first|(refine wV M ?_;clear M;intro zt w M)|(refine wS M ?_;clear M;intro w M)|refine wA (HR.out _ M.new) ?_))
    (refine wp_region_any (by kernel_rfl) ?_;(try(change wpAny _ _ _ _ _ _ _ (World.drew _)));replace M:=M.drew;generalize World.drew _=w at M ⊢;have S:=St.o;((refine tk 0 (v:=?_) rfl (by kernel_rfl) rfl ?_ ?_;rotate_left;focus(intro w;go_simp;try with_reducible rfl));(try go_simp);(refine tk 3 (v:=?_) rfl (by kernel_rfl) rfl ?_ ?_;rotate_left;focus(intro w;go_simp;try with_reducible rfl));(try go_simp);replace S:=S.add 9;refine rd2 1 4 (by kernel_rfl) rfl rfl ?_ rfl rfl ?_<;>intro K hK);all_goals(first|(refine o_dst (some 33) ?_;(refine q_all M (by rfl) ?_);(all_goals(refine hK _ _ ?_;clear hK K;replace S:=S.add 2)))|(refine o_dst (some 36) ?_;(refine q_get M (by exact rfl) ?_);(all_goals(refine hK _ _ ?_;clear hK K;replace S:=S.add 16))));all_goals(first|(replace S:St 11:=S;refine rd2 2 4 (by kernel_rfl) rfl rfl ?_ rfl rfl ?_<;>intro K hK)|(replace S:St 25:=S;(refine tk 5 (v:=?_) rfl (by kernel_rfl) rfl ?_ ?_;rotate_left;focus(intro w;go_simp;try with_reducible rfl));(try go_simp);replace S:=S.add 32;refine rd1 1 (by kernel_rfl) rfl rfl ?_<;>intro K hK));all_goals(first|(refine o_dst (some 34) ?_;(refine owp_of ?_;go_simp;(go_at_call 74;with_reducible refine(HC.out _ M.new).mono ?_;rintro e w5 ⟨rfl,hb5⟩;replace M:=M.below hb5;clear hb5);(try go_simp));(all_goals(refine hK _ _ ?_;clear hK K;replace S:=S.add 4)))|(refine o_dst (some 36) ?_;(refine q_get M (by exact rfl) ?_);(all_goals(refine hK _ _ ?_;clear hK K;replace S:=S.add 16)))|(refine o_dst (some 33) ?_;(refine q_all M (by rfl) ?_);(all_goals(refine hK _ _ ?_;clear hK K;replace S:=S.add 2))));all_goals(first|(replace S:St 15:=S;refine rd1 4 (by kernel_rfl) rfl rfl ?_<;>intro K hK)|(replace S:St 27:=S;(refine tk 5 (v:=?_) rfl (by kernel_rfl) rfl ?_ ?_;rotate_left;focus(intro w;go_simp;try with_reducible rfl));(try go_simp);replace S:=S.add 32;refine rd1 2 (by kernel_rfl) rfl rfl ?_<;>intro K hK)|(replace S:St 59:=S;refine rd1 2 (by kernel_rfl) rfl rfl ?_<;>intro K hK));all_goals(first|(refine o_dst (some 36) ?_;(refine q_get M (by exact rfl) ?_);(all_goals(refine hK _ _ ?_;clear hK K;replace S:=S.add 16)))|(refine o_dst (some 34) ?_;(refine owp_of ?_;go_simp;(go_at_call 74;with_reducible refine(HC.out _ M.new).mono ?_;rintro e w5 ⟨rfl,hb5⟩;replace M:=M.below hb5;clear hb5);(try go_simp));(all_goals(refine hK _ _ ?_;clear hK K;replace S:=S.add 4))));all_goals((first|(replace S:St 31:=S;(refine tk 5 (v:=?_) rfl (by kernel_rfl) rfl ?_ ?_;rotate_left;focus(intro w;go_simp;try with_reducible rfl));(try go_simp);(refine tk 6 (v:=?_) rfl (by kernel_rfl) rfl ?_ ?_;rotate_left;focus(intro w;go_simp;try with_reducible rfl));(try go_simp);refine wpAny_done (by kernel_rfl) ?_ _)|(replace S:St 63:=S;(refine tk 6 (v:=?_) rfl (by kernel_rfl) rfl ?_ ?_;rotate_left;focus(intro w;go_simp;try with_reducible rfl));(try go_simp);refine wpAny_done (by kernel_rfl) ?_ _));clear S))
    all_goals
     go_wp2_with (with_reducible (first|refine wq M ?_|(refine wS M ?_;clear M;intro w M)|(refine wV M ?_;clear M;intro z w M)|(refine wR M ?_;clear M;intro q w M)))
     go_roundg (sn - (j+1))
     case measure=>omega
     case rel=>exact⟨j+1,by omega,by go_num,M.drop,HB3⟩
  ·have HV:=Lib.hid (hold_or_end (ts:=ts) (wh:=wh) (known:=known) (me:=me) (f:=f) HK.out (by have e:j=c.subs.length:=(by have:=NL.out;omega);rw[←e];exact HB.out))
   clear HB
   go_wp2_with (with_reducible refine wq M ?_)
   go_ret
   rw[HV.out]
   exact⟨rfl,M.new⟩
set_option maxRecDepth 8000 in
set_option maxHeartbeats 8000000 in
theorem holds_test(V:View F w0 zv v ts names known me)(c:Cond)(hN:names=vars (wh.take known.length))(hle:known.length≤wh.length)(hf:CondFit c)(hk:4≤c.kind∧c.kind≤7)(hl:SideGood ts wh known me c.left)(hr:SideGood ts wh known me c.right)(hc:cmpE (sideV ts wh known me c.left) (sideV ts wh known me c.right)=0):
  Calls Tryz.prog 74 #[.pointer (some ⟨zv,0,none⟩),.agg (cnd14 c.kind so sn sc c.left c.right).toArray] w0 fun e w' =>e= .returned (.bool (holdR ts wh known me (f+1) c))∧Below w0.heap.size w0 w' :=by
 have M:=Mem.begin V.lt ⟨0,0⟩
 have HV:=Lib.hid (hold_test (ts:=ts) (wh:=wh) (known:=known) (me:=me) (f:=f) hk.1)
 have HSL:Hid (∀ wx,Below w0.heap.size w0 wx→Calls Tryz.prog 118 #[.pointer (some ⟨zv,0,none⟩),.agg (opdC c.left).toArray] wx fun e w' =>e= .returned (valR3 (sideV ts wh known me c.left))∧Below wx.heap.size wx w'):=fun wx hb=>viewSide_any (V.below hb) hN hle c.left hl
 have HSR:Hid (∀ wx,Below w0.heap.size w0 wx→Calls Tryz.prog 118 #[.pointer (some ⟨zv,0,none⟩),.agg (opdC c.right).toArray] wx fun e w' =>e= .returned (valR3 (sideV ts wh known me c.right))∧Below wx.heap.size wx w'):=fun wx hb=>viewSide_any (V.below hb) hN hle c.right hr
 have HCM:Hid (∀ wx,Calls Tryz.prog 117 #[valR3 (sideV ts wh known me c.left),valR3 (sideV ts wh known me c.right)] wx fun e w' =>e= .returned (.tuple #[.int .i64 (cmpV (sideV ts wh known me c.left) (sideV ts wh known me c.right)),.int .i64 0])∧Below wx.heap.size wx w'):=fun wx=>by
  have h:=compare_any (sideV ts wh known me c.left) (sideV ts wh known me c.right) wx (sideV_fit hf.left V.okO V.okK hl) (sideV_fit hf.right V.okO V.okK hr)
  rw[show cmpX (sideV ts wh known me c.left) (sideV ts wh known me c.right)=cmpV (sideV ts wh known me c.left) (sideV ts wh known me c.right)by unfold cmpX;rw[if_pos hc],hc]at h
  exact h
 have HKK:Hid (4≤c.kind∧c.kind≤7):=hk
 have k0:(c.kind==0)=false:=by simp;omega
 have k1:(c.kind==1)=false:=by simp;omega
 have k2:(c.kind==2)=false:=by simp;omega
 have k3:(c.kind==3)=false:=by simp;omega
 generalize cmpV (sideV ts wh known me c.left) (sideV ts wh known me c.right)=n at HCM HV
 generalize sideV ts wh known me c.left=x at HSL HCM
 generalize sideV ts wh known me c.right=y at HSR HCM
 unfold opdC valR3 at HSL HSR
 unfold valR3 at HCM
 unfold cnd14
 generalize c.left=lo at HSL
 generalize c.right=ro at HSR
 generalize c.kind=k at *
 clear V hN hle hf hk hl hr hc
 go_enter Tryz.func74,Tryz.ntmps74
 go_wp2_with (with_reducible (first|(refine wB (L:=[]) M ?_;clear M;intro za w1 M)|refine wq M ?_))
 (refine wp_region_any (by kernel_rfl) ?_;(try(change wpAny _ _ _ _ _ _ _ (World.drew _)));replace M:=M.drew;generalize World.drew _=w at M ⊢;have S:=St.o;((refine tk 0 (v:=?_) rfl (by kernel_rfl) rfl ?_ ?_;rotate_left;focus(intro w;go_simp;try with_reducible rfl));(try go_simp);(refine tk 1 (v:=?_) rfl (by kernel_rfl) rfl ?_ ?_;rotate_left;focus(intro w;go_simp;try with_reducible rfl));(try go_simp);(refine tk 4 (v:=?_) rfl (by kernel_rfl) rfl ?_ ?_;rotate_left;focus(intro w;go_simp;try with_reducible rfl));(try go_simp);(refine tk 5 (v:=?_) rfl (by kernel_rfl) rfl ?_ ?_;rotate_left;focus(intro w;go_simp;try with_reducible rfl));(try go_simp);replace S:=S.add 51;refine rd2 2 6 (by kernel_rfl) rfl rfl ?_ rfl rfl ?_<;>intro K hK);all_goals(first|(refine o_dst (some 49) ?_;(refine q_prt M (by rfl) ?_);(all_goals(refine hK _ _ ?_;clear hK K;replace S:=S.add 4)))|(refine o_dst (some 53) ?_;(refine q_prt M (by rfl) ?_);(all_goals(refine hK _ _ ?_;clear hK K;replace S:=S.add 64))));all_goals(first|(replace S:St 55:=S;refine rd2 3 6 (by kernel_rfl) rfl rfl ?_ rfl rfl ?_<;>intro K hK)|(replace S:St 115:=S;refine rd1 2 (by kernel_rfl) rfl rfl ?_<;>intro K hK));all_goals(first|(refine o_dst (some 50) ?_;(refine owp_of ?_;go_simp;(go_at_call 118;with_reducible refine(HSL.out _ M.new).mono ?_;rintro e w5 ⟨rfl,hb5⟩;replace M:=M.below hb5;clear hb5);(try go_simp));(all_goals(refine hK _ _ ?_;clear hK K;replace S:=S.add 8)))|(refine o_dst (some 53) ?_;(refine q_prt M (by rfl) ?_);(all_goals(refine hK _ _ ?_;clear hK K;replace S:=S.add 64)))|(refine o_dst (some 49) ?_;(refine q_prt M (by rfl) ?_);(all_goals(refine hK _ _ ?_;clear hK K;replace S:=S.add 4))));all_goals(first|(replace S:St 63:=S;refine rd1 6 (by kernel_rfl) rfl rfl ?_<;>intro K hK)|(replace S:St 119:=S;refine rd1 3 (by kernel_rfl) rfl rfl ?_<;>intro K hK));all_goals(first|(refine o_dst (some 53) ?_;(refine q_prt M (by rfl) ?_);(all_goals(refine hK _ _ ?_;clear hK K;replace S:=S.add 64)))|(refine o_dst (some 50) ?_;(refine owp_of ?_;go_simp;(go_at_call 118;with_reducible refine(HSL.out _ M.new).mono ?_;rintro e w5 ⟨rfl,hb5⟩;replace M:=M.below hb5;clear hb5);(try go_simp));(all_goals(refine hK _ _ ?_;clear hK K;replace S:=S.add 8))));all_goals(refine rd1 7 (by kernel_rfl) rfl rfl ?_<;>intro K hK);all_goals(refine o_dst (some 54) ?_;(refine owp_of ?_;go_simp;(go_at_call 118;with_reducible refine(HSR.out _ M.new).mono ?_;rintro e w5 ⟨rfl,hb5⟩;replace M:=M.below hb5;clear hb5);(try go_simp));(all_goals(refine hK _ _ ?_;clear hK K;replace S:=S.add 128)));all_goals(refine rd1 8 (by kernel_rfl) rfl rfl ?_<;>intro K hK);all_goals(refine o_dst (some 55) ?_;(refine owp_of ?_;go_simp;(go_at_call 117;with_reducible refine(HCM.out _).mono ?_;rintro e w5 ⟨rfl,hb5⟩;replace M:=M.below hb5;clear hb5);(try go_simp));(all_goals(refine hK _ _ ?_;clear hK K;replace S:=S.add 256)));all_goals(clear S;((refine tk 9 (v:=?_) rfl (by kernel_rfl) rfl ?_ ?_;rotate_left;focus(intro w;go_simp;try with_reducible rfl));(try go_simp);(refine tk 10 (v:=?_) rfl (by kernel_rfl) rfl ?_ ?_;rotate_left;focus(intro w;go_simp;try with_reducible rfl));(try go_simp);(refine tk 11 (v:=?_) rfl (by kernel_rfl) rfl ?_ ?_;rotate_left;focus(intro w;go_simp;try with_reducible rfl));(try go_simp);(refine tk 12 (v:=?_) rfl (by kernel_rfl) rfl ?_ ?_;rotate_left;focus(intro w;go_simp;try with_reducible rfl));(try go_simp);(refine tk 13 (v:=?_) rfl (by kernel_rfl) rfl ?_ ?_;rotate_left;focus(intro w;go_simp;try with_reducible rfl));(try go_simp);refine wpAny_done (by kernel_rfl) ?_ _)))
 all_goals
  obtain⟨h4,h7⟩:=HKK.out
  obtain rfl|rfl|rfl|rfl:k=4∨k=5∨k=6∨k=7:=by omega
  all_goals
   clear h4 h7
   go_wp2_with (with_reducible refine wq M ?_)
   go_ret
   rw[HV.out]
   exact⟨by simp[testB],M.new⟩
theorem holds_any(V:View F w0 zv v ts names known me)(hN:names=vars (wh.take known.length))(hle:known.length≤wh.length):
  ∀ (f:Nat) (c:Cond) (so:Option Addr) (sn sc:Nat) (wx:World),Below w0.heap.size w0 wx→SlF S wx 14 CondF so sn sc c.subs→CondFit c→HoldGood ts wh known me f c→
   Calls Tryz.prog 74 #[.pointer (some ⟨zv,0,none⟩),.agg (cnd14 c.kind so sn sc c.left c.right).toArray] wx fun e w' =>e= .returned (.bool (holdR ts wh known me f c))∧Below wx.heap.size wx w'
 |0,c,so,sn,sc,wx,hb,hS,hf,hG=>absurd hG (by unfold HoldGood;exact id)
 |f+1,c,so,sn,sc,wx,hb,hS,hf,hG=>by
  unfold HoldGood at hG
  rcases hG with h|⟨h,h1,hs⟩|⟨h,hs⟩|⟨h4,h7,hl,hr,hc⟩
  ·exact holds_zero (V.below hb) c h
  ·exact holds_not (V.below hb) c hS (fun j hj so2 sn2 sc2 wy hby hS2=>holds_any V hN hle f c.subs[j] so2 sn2 sc2 wy (hb.trans (hby.mono hb.size)) hS2 (hf.subs _ (List.getElem_mem hj)) (hs _ (List.getElem_mem hj))) h h1
  ·rcases h with h|h
   ·exact holds_and (V.below hb) c hS (fun j hj so2 sn2 sc2 wy hby hS2=>holds_any V hN hle f c.subs[j] so2 sn2 sc2 wy (hb.trans (hby.mono hb.size)) hS2 (hf.subs _ (List.getElem_mem hj)) (hs _ (List.getElem_mem hj))) h
   ·exact holds_or (V.below hb) c hS (fun j hj so2 sn2 sc2 wy hby hS2=>holds_any V hN hle f c.subs[j] so2 sn2 sc2 wy (hb.trans (hby.mono hb.size)) hS2 (hf.subs _ (List.getElem_mem hj)) (hs _ (List.getElem_mem hj))) h
  ·exact holds_test (V.below hb) c hN hle hf ⟨h4,h7⟩ hl hr hc
end
end Go.Proofs.YtfahleafppfkaaaGreatDoor
