/-
  The walks of the reference's BookFault, third part: conditions. Printed by chkc.py.
-/
import Derived.Test.YtncmghnhfipklaaGreatDoorPw10
namespace Go.Proofs.YtncmghnhfipklaaGreatDoor
open Go.RowKit
set_option linter.unusedVariables false
set_option linter.unusedSimpArgs false
inductive CondOk:Cond→Prop where
 |mk {k:Int} {subs:List Cond} {l r:Opd} (hl:l.vtext.size≤maxLen) (hr:r.vtext.size≤maxLen) (hs: ∀ s∈subs,CondOk s):CondOk (.mk k subs l r)
theorem CondOk.left{c:Cond}(h:CondOk c):c.left.vtext.size≤maxLen:=by cases h;assumption
theorem CondOk.right{c:Cond}(h:CondOk c):c.right.vtext.size≤maxLen:=by cases h;assumption
theorem CondOk.subs{c:Cond}(h:CondOk c): ∀ s∈c.subs,CondOk s:=by cases h;assumption
def CndPostR(r:Int×Int)(w:World):Ending→World→Prop:=fun e w' =>
 ∃ k,e= .returned (.tuple #[.int .i64 k,.int .i64 r.2])∧Below w.heap.size w w' ∧(r.2=0→k=r.1)
theorem cnd_out{r:Int×Int}{w w' :World}{k e:Int}(hb:Below w.heap.size w w')(he:r.2=e)(hk:e=0→k=r.1):
  CndPostR r w (.returned (.tuple #[.int .i64 k,.int .i64 e])) w' :=⟨k,by rw[he],hb,fun h=>hk (he▸h)⟩
section
variable {g:Nat} {F G H S:Nat→Prop} {ao:Option Addr} {n cap:Nat} {bo:Option Addr} {m bcap:Nat} {oo:Option Addr} {k ocap:Nat} {so:Option Addr} {sn scap:Nat} {w0:World} {ts:List Typ} {known:List Pat} {own:Typ}
set_option maxRecDepth 8000 in
set_option maxHeartbeats 4000000 in
theorem noCondition_any(hg:g<w0.heap.size)(c:Cond)(hS:SlF S w0 14 CondF so sn scap c.subs):
  Calls Tryz.prog 83 #[.agg (cnd14 c.kind so sn scap c.left c.right).toArray] w0 fun e w' =>e= .returned (.bool (noC c))∧Below w0.heap.size w0 w' :=by
 have M:=Mem.begin hg ⟨0,0⟩
 have hle:=hS.le
 have NL:=Lib.hid hS.len
 have HV:Hid (noC c=(c.kind==0&&decide ((sn:Int)=0)&&opdZ c.left&&opdZ c.right)):=by show _=_;unfold noC;rw[NL.out];simp
 unfold cnd14
 clear hg hS
 go_enter Tryz.func83,Tryz.ntmps83
 go_wp2_with (with_reducible (first|(refine wB (L:=[]) M ?_;clear M;intro za w1 M)|refine wq M ?_))
 all_goals
  go_ret
  exact⟨ret_bool' (by rw[HV.out];simp[opdZ,valZ,emS, *]),M.new⟩
theorem condR_kind{f:Nat}{c:Cond}(h: ¬ (1≤c.kind∧c.kind≤7)):condR ts known own f c=(0,3):=by
 cases f<;>(unfold condR;rw[if_neg h])
theorem condR_deep{c:Cond}(h:1≤c.kind∧c.kind≤7):condR ts known own 0 c=(0,14):=by unfold condR;rw[if_pos h]
theorem condR_test{f:Nat}{c:Cond}(h:4≤c.kind∧c.kind≤7):condR ts known own (f+1) c=(1,testE ts known own c):=by unfold condR;rw[if_pos ⟨by omega,h.2⟩,if_pos h.1]
theorem condR_tree{f:Nat}{c:Cond}(h:1≤c.kind∧c.kind≤3):condR ts known own (f+1) c=if condForm c=true then(0,4)else condL (condR ts known own f) c.subs 0:=by unfold condR;rw[if_pos ⟨h.1,by omega⟩,if_neg (by omega)]
theorem condL_bound{q:Cond→Int×Int}(hq: ∀ c,(q c).2=0→0≤(q c).1∧(q c).1≤12): ∀ (l:List Cond) (s:Int),0≤s∧s≤12→(condL q l s).2=0→0≤(condL q l s).1∧(condL q l s).1≤12
 |[],s,h,_=>h
 |c::r,s,h,he=>by
  unfold condL at he ⊢
  by_cases h1:(q c).2≠0
  ·rw[if_pos h1]at he
   exact absurd he h1
  ·rw[if_neg h1]at he ⊢
   by_cases h2:12<s+(q c).1
   ·rw[if_pos h2]at he
    cases he
   ·rw[if_neg h2]at he ⊢
    have:=hq c (Classical.byContradiction h1)
    exact condL_bound hq r _ (by omega) he
theorem condR_bound: ∀ (f:Nat) (c:Cond),(condR ts known own f c).2=0→0≤(condR ts known own f c).1∧(condR ts known own f c).1≤12
 |0,c,h=>by
  by_cases hk:1≤c.kind∧c.kind≤7
  ·rw[condR_deep hk]at h;cases h
  ·rw[condR_kind hk]at h;cases h
 |f+1,c,h=>by
  by_cases hk:1≤c.kind∧c.kind≤7
  ·by_cases h4:4≤c.kind
   ·rw[condR_test ⟨h4,hk.2⟩]
    show(0:Int)≤1∧(1:Int)≤12
    decide
   ·rw[condR_tree ⟨hk.1,by omega⟩]at h ⊢
    by_cases hc:condForm c=true
    ·rw[if_pos hc]at h;cases h
    ·rw[if_neg hc]at h ⊢
     exact condL_bound (condR_bound f) _ _ (by decide) h
  ·rw[condR_kind hk]at h;cases h
set_option maxRecDepth 8000 in
set_option maxHeartbeats 4000000 in
theorem condFault_kind(hg:g<w0.heap.size)(hX:SlF F w0 2 typF ao n cap ts)(hts: ∀ t∈ts,typOk t)(hY:SlF G w0 18 patF bo m bcap known)(hkn: ∀ p∈known,typI ts p.type<ts.length)(hO:SlF H w0 2 (plainF fldC) oo k ocap own.fields)(hown:typOk own)(c:Cond)(d:Int)(f:Nat)(hk: ¬ (1≤c.kind∧c.kind≤7)):
  Calls Tryz.prog 84 #[.slice ao n cap,.slice bo m bcap,.agg #[.string own.name,.slice oo k ocap],.agg (cnd14 c.kind so sn scap c.left c.right).toArray,.int .i64 d] w0 (CndPostR (condR ts known own f c) w0):=by
 have hin:inB c.kind 1 7=false:=by rw[inB_false];exact hk
 have M:=Mem.begin hg ⟨0,0⟩
 rw[condR_kind hk]
 unfold cnd14
 clear hg hk hX hY hts hkn hO hown
 go_enter Tryz.func84,Tryz.ntmps84
 go_wp2_with (first|(with_reducible (first|(refine wB (L:=[]) M ?_;clear M;intro za w1 M)|(refine wB M ?_;clear M;intro zb w2 M)|refine wq M ?_))|(go_at_call 14;refine(in_any _ _ _ _).mono ?_;rintro e w4 ⟨rfl,rfl⟩;(try rw[hin])))
 go_ret2
 exact cnd_out M.new rfl (fun h=>absurd h (by decide))
set_option maxRecDepth 8000 in
set_option maxHeartbeats 4000000 in
theorem condFault_deep(hg:g<w0.heap.size)(hX:SlF F w0 2 typF ao n cap ts)(hts: ∀ t∈ts,typOk t)(hY:SlF G w0 18 patF bo m bcap known)(hkn: ∀ p∈known,typI ts p.type<ts.length)(hO:SlF H w0 2 (plainF fldC) oo k ocap own.fields)(hown:typOk own)(c:Cond)(d:Int)(hd:d=9)(hk:1≤c.kind∧c.kind≤7):
  Calls Tryz.prog 84 #[.slice ao n cap,.slice bo m bcap,.agg #[.string own.name,.slice oo k ocap],.agg (cnd14 c.kind so sn scap c.left c.right).toArray,.int .i64 d] w0 (CndPostR (condR ts known own 0 c) w0):=by
 have hin:inB c.kind 1 7=true:=by rw[inB_true];exact hk
 have M:=Mem.begin hg ⟨0,0⟩
 rw[condR_deep hk]
 unfold cnd14
 subst hd
 clear hg hk hX hY hts hkn hO hown
 go_enter Tryz.func84,Tryz.ntmps84
 go_wp2_with (first|(with_reducible (first|(refine wB (L:=[]) M ?_;clear M;intro za w1 M)|(refine wB M ?_;clear M;intro zb w2 M)|refine wq M ?_))|(go_at_call 14;refine(in_any _ _ _ _).mono ?_;rintro e w4 ⟨rfl,rfl⟩;(try rw[hin])))
 go_ret2
 exact cnd_out M.new rfl (fun h=>absurd h (by decide))
theorem testE_subs{c:Cond}(h:c.subs.length≠0):testE ts known own c=4:=by unfold testE;rw[if_pos h]
theorem testE_left{c:Cond}(h:c.subs.length=0)(h1:sideE ts known own c.left≠0):testE ts known own c=sideE ts known own c.left:=by unfold testE;rw[if_neg (by omega),if_pos h1]
theorem testE_right{c:Cond}(h:c.subs.length=0)(h1:sideE ts known own c.left=0)(h2:sideE ts known own c.right≠0):testE ts known own c=sideE ts known own c.right:=by unfold testE;rw[if_neg (by omega),if_neg (by omega),if_pos h2]
theorem testE_both{c:Cond}(h:c.subs.length=0)(h1:sideE ts known own c.left=0)(h2:sideE ts known own c.right=0):testE ts known own c=if sideK ts known own c.left=sideK ts known own c.right then 0 else 13:=by unfold testE;rw[if_neg (by omega),if_neg (by omega),if_neg (by omega)]
set_option maxRecDepth 8000 in
set_option maxHeartbeats 4000000 in
theorem condFault_test(hg:g<w0.heap.size)(hX:SlF F w0 2 typF ao n cap ts)(hts: ∀ t∈ts,typOk t)(hY:SlF G w0 18 patF bo m bcap known)(hkn: ∀ p∈known,typI ts p.type<ts.length)(hO:SlF H w0 2 (plainF fldC) oo k ocap own.fields)(hown:typOk own)(c:Cond)(hS:SlF S w0 14 CondF so sn scap c.subs)(hok:CondOk c)(d:Int)(f:Nat)(hd:1≤d∧d≤8)(hk:4≤c.kind∧c.kind≤7):
  Calls Tryz.prog 84 #[.slice ao n cap,.slice bo m bcap,.agg #[.string own.name,.slice oo k ocap],.agg (cnd14 c.kind so sn scap c.left c.right).toArray,.int .i64 d] w0 (CndPostR (condR ts known own (f+1) c) w0):=by
 have hin:inB c.kind 1 7=true:=by rw[inB_true];omega
 have M:=Mem.begin hg ⟨0,0⟩
 rw[condR_test hk]
 have hle:=hS.le
 have NL:=Lib.hid hS.len
 obtain⟨hd1,hd8⟩:=hd
 obtain⟨hk4,hk7⟩:=hk
 have HSL:Hid (∀ wx,Below w0.heap.size w0 wx→Calls Tryz.prog 87 #[.slice ao n cap,.slice bo m bcap,.agg #[.string own.name,.slice oo k ocap],.agg (opdC c.left).toArray] wx (SidePost ts known own c.left wx)):=fun wx hbx=>
  sideKind_any (Nat.lt_of_lt_of_le hg hbx.size) c.left hok.left (hX.below typF_firm hbx) hts (hY.below patF_firm hbx) hkn (hO.below (plainF_firm _) hbx) hown
 have HSR:Hid (∀ wx,Below w0.heap.size w0 wx→Calls Tryz.prog 87 #[.slice ao n cap,.slice bo m bcap,.agg #[.string own.name,.slice oo k ocap],.agg (opdC c.right).toArray] wx (SidePost ts known own c.right wx)):=fun wx hbx=>
  sideKind_any (Nat.lt_of_lt_of_le hg hbx.size) c.right hok.right (hX.below typF_firm hbx) hts (hY.below patF_firm hbx) hkn (hO.below (plainF_firm _) hbx) hown
 unfold cnd14
 unfold opdC SidePost at HSL HSR
 clear hg hX hY hts hkn hO hown hS hok
 by_cases hs:c.subs.length=0
 ·have hsn:sn=0:=by have:=NL.out;omega
  subst hsn
  by_cases h1:sideE ts known own c.left=0
  ·by_cases h2:sideE ts known own c.right=0
   ·have HV:=Lib.hid (testE_both hs h1 h2)
    simp only[h1,true_implies]at HSL
    simp only[h2,true_implies]at HSR
    generalize sideK ts known own c.left=kl at HV HSL
    generalize sideK ts known own c.right=kr at HV HSR
    clear hs h1 h2
    by_cases hkk:kl=kr
    ·subst hkk
     rw[if_pos rfl]at HV
     go_enter Tryz.func84,Tryz.ntmps84
     go_wp2_with (first|(with_reducible (first|(refine wB (L:=[]) M ?_;clear M;intro za w1 M)|(refine wB M ?_;clear M;intro zb w2 M)|refine wq M ?_))|(go_at_call 14;refine(in_any _ _ _ _).mono ?_;rintro e w4 ⟨rfl,rfl⟩;(try rw[hin]))|(go_at_call 87;with_reducible refine(HSL.out _ M.new).mono ?_;rintro e w5 ⟨kk,rfl,hb5,rfl⟩;replace M:=M.below hb5;clear hb5)|(go_at_call 87;with_reducible refine(HSR.out _ M.new).mono ?_;rintro e w5 ⟨kk,rfl,hb5,rfl⟩;replace M:=M.below hb5;clear hb5))
     go_ret2
     exact cnd_out M.new HV.out (fun _=>rfl)
    ·have hkb:(kl !=kr)=true:=by simpa using hkk
     rw[if_neg hkk]at HV
     clear hkk
     go_enter Tryz.func84,Tryz.ntmps84
     go_wp2_with (first|(with_reducible (first|(refine wB (L:=[]) M ?_;clear M;intro za w1 M)|(refine wB M ?_;clear M;intro zb w2 M)|refine wq M ?_))|(go_at_call 14;refine(in_any _ _ _ _).mono ?_;rintro e w4 ⟨rfl,rfl⟩;(try rw[hin]))|(go_at_call 87;with_reducible refine(HSL.out _ M.new).mono ?_;rintro e w5 ⟨kk,rfl,hb5,rfl⟩;replace M:=M.below hb5;clear hb5)|(go_at_call 87;with_reducible refine(HSR.out _ M.new).mono ?_;rintro e w5 ⟨kk,rfl,hb5,rfl⟩;replace M:=M.below hb5;clear hb5))
     go_ret2
     exact cnd_out M.new HV.out (fun h=>absurd h (by decide))
   ·have HV:=Lib.hid (testE_right hs h1 h2)
    simp only[h1,true_implies]at HSL
    have hb:(sideE ts known own c.right==0)=false:=by simpa using h2
    have H2:=Lib.hid h2
    generalize sideE ts known own c.right=er at HV HSR hb H2
    clear hs h1 h2
    go_enter Tryz.func84,Tryz.ntmps84
    go_wp2_with (first|(with_reducible (first|(refine wB (L:=[]) M ?_;clear M;intro za w1 M)|(refine wB M ?_;clear M;intro zb w2 M)|refine wq M ?_))|(go_at_call 14;refine(in_any _ _ _ _).mono ?_;rintro e w4 ⟨rfl,rfl⟩;(try rw[hin]))|(go_at_call 87;with_reducible refine(HSL.out _ M.new).mono ?_;rintro e w5 ⟨kk,rfl,hb5,rfl⟩;replace M:=M.below hb5;clear hb5)|(go_at_call 87;with_reducible refine(HSR.out _ M.new).mono ?_;rintro e w5 ⟨kk,rfl,hb5, -⟩;replace M:=M.below hb5;clear hb5))
    go_ret2
    exact cnd_out M.new HV.out (fun h=>absurd h H2.out)
  ·have HV:=Lib.hid (testE_left hs h1)
   have hb:(sideE ts known own c.left !=0)=true:=by simpa using h1
   have H1:=Lib.hid h1
   generalize sideE ts known own c.left=el at HV HSL hb H1
   clear hs h1
   go_enter Tryz.func84,Tryz.ntmps84
   go_wp2_with (first|(with_reducible (first|(refine wB (L:=[]) M ?_;clear M;intro za w1 M)|(refine wB M ?_;clear M;intro zb w2 M)|refine wq M ?_))|(go_at_call 14;refine(in_any _ _ _ _).mono ?_;rintro e w4 ⟨rfl,rfl⟩;(try rw[hin]))|(go_at_call 87;with_reducible refine(HSL.out _ M.new).mono ?_;rintro e w5 ⟨kk,rfl,hb5, -⟩;replace M:=M.below hb5;clear hb5))
   go_ret2
   exact cnd_out M.new HV.out (fun h=>absurd h H1.out)
 ·have HV:=Lib.hid (testE_subs (ts:=ts) (known:=known) (own:=own) hs)
  have hsn:(0:Int)<sn:=by have:=NL.out;omega
  clear hs HSL HSR
  go_enter Tryz.func84,Tryz.ntmps84
  go_wp2_with (first|(with_reducible (first|(refine wB (L:=[]) M ?_;clear M;intro za w1 M)|(refine wB M ?_;clear M;intro zb w2 M)|refine wq M ?_))|(go_at_call 14;refine(in_any _ _ _ _).mono ?_;rintro e w4 ⟨rfl,rfl⟩;(try rw[hin])))
  go_ret2
  exact cnd_out M.new HV.out (fun h=>absurd h (by decide))
end
end Go.Proofs.YtncmghnhfipklaaGreatDoor
