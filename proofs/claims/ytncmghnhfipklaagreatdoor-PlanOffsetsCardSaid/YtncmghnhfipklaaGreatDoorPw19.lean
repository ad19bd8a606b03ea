/-
  The walks of the program's Check, fifth part: patterns. Printed by pge.py.
-/
import Derived.Test.YtncmghnhfipklaaGreatDoorPw18
namespace Go.Proofs.YtncmghnhfipklaaGreatDoor
open Go.RowKit
set_option linter.unusedVariables false
set_option linter.unusedSimpArgs false
def TakAt(zt nt:Nat)(fT:MapF)(v:ByteArray):PS→World→Prop:=fun s w=>
 ∃ m f',MapOf Tryz.prog 9 w zt m f' ∧(s.pos=0→m=nt∧f' =fT)∧(s.pos≠0→m=nt+1∧f' =putF fT v (.bool true))
theorem TakAt.zero{zt nt:Nat}{fT:MapF}{v:ByteArray}{e:Int}{w:World}(h:TakAt zt nt fT v ⟨0,e⟩ w):MapOf Tryz.prog 9 w zt nt fT:=by
 obtain⟨m,f',h1,h2, -⟩:=h
 obtain⟨rfl,rfl⟩:=h2 rfl
 exact h1
theorem TakAt.one{zt nt:Nat}{fT:MapF}{v:ByteArray}{e:Int}{w:World}(h:MapOf Tryz.prog 9 w zt (nt+1) (putF fT v (.bool true))):TakAt zt nt fT v ⟨1,e⟩ w:=⟨_,_,h,fun h=>(Nat.succ_ne_zero 0 h).elim,fun _=>⟨rfl,rfl⟩⟩
theorem But.sameF{F:Nat→Prop}{z:Nat}{w w' :World}(h:But z w w')(hF: ¬ F z):Same F F w w' :=⟨h.size,fun k hk hlt=>⟨hk,h.rest k hlt (fun e=>hF (e▸hk))⟩⟩
theorem Scope.but{F:Nat→Prop}{w w' :World}{zs zk nk zt:Nat}{f:MapF}{ts:List Typ}{known:List Pat}{ao:Option Addr}{n cap:Nat}(h:Scope F w zs zk nk f ts known ao n cap)(hb:But zt w w')(hF: ¬ F zt)(h1:zs≠zt)(h2:zk≠zt):Scope F w' zs zk nk f ts known ao n cap where
 lt:=Nat.lt_of_lt_of_le h.lt hb.size
 c0:=by rw[hb.cell h.lt h1];exact h.c0
 c1:=by rw[hb.cell h.lt h1];exact h.c1
 types:=h.types.same typF_firm (hb.sameF hF)
 map_:=h.map_.same (hb.rest _ h.map_.lt h2)
 has:=fun s hs hp=>by
  obtain⟨cs,a,b⟩:=h.has s hs hp
  exact⟨cs,a,b.same (hb.sameF hF)⟩
 hasnt:=h.hasnt
 there:=h.there
def PtnPost(F:Nat→Prop)(ts:List Typ)(known:List Pat)(ahead:List ByteArray)(p:Pat)(part zt nt:Nat)(fT:MapF)(w0:World):Ending→World→Prop:=fun e w' =>
 ∃ tn a nn c,e= .returned (.tuple #[.agg #[.string tn,.slice a nn c],.int .i64 (patE ts known ahead p part)])∧But zt w0 w' ∧ ∃ m f',MapOf Tryz.prog 9 w' zt m f' ∧
  (patE ts known ahead p part=0→m=nt+1∧f' =putF fT p.var (.bool true)∧tn=(typAt ts p.type).name∧SlF F w0 2 (plainF fldC) a nn c (typAt ts p.type).fields)
section
variable {F H:Nat→Prop} {ts:List Typ} {known:List Pat} {ahead:List ByteArray} {p:Pat} {part zt nt:Nat} {fT:MapF} {w0 w' :World} {tn:ByteArray} {a:Option Addr} {nn c:Nat} {e:Int} {s:PS}
theorem ptn_bad(hb:But zt w0 w')(ht:TakAt zt nt fT p.var s w')(he:patE ts known ahead p part=e)(hn:e≠0):PtnPost F ts known ahead p part zt nt fT w0 (.returned (.tuple #[.agg #[.string tn,.slice a nn c],.int .i64 e])) w' :=by
 obtain⟨m,f',h1, -, -⟩:=ht
 exact⟨_,_,_,_,by rw[he],hb,m,f',h1,fun h=>absurd (he.symm.trans h) hn⟩
theorem ptn_end{d:Int}(hb:But zt w0 w')(ht:TakAt zt nt fT p.var ⟨1,d⟩ w')(he:patE ts known ahead p part=e)(hty:tn=(typAt ts p.type).name∧SlF F w0 2 (plainF fldC) a nn c (typAt ts p.type).fields):PtnPost F ts known ahead p part zt nt fT w0 (.returned (.tuple #[.agg #[.string tn,.slice a nn c],.int .i64 e])) w' :=by
 obtain⟨m,f',h1, -,h3⟩:=ht
 obtain⟨rfl,rfl⟩:=h3 (by show(1:Nat)≠0;decide)
 exact⟨_,_,_,_,by rw[he],hb,_,_,h1,fun h=>⟨rfl,rfl,hty.1,hty.2⟩⟩
end
section
variable {P:Program} {dst:Option Tmp} {oty:TypeId} {pos:String} {after:Array Edge} {g:Option (Nat×Bool)} {l l' :List Value} {ds:List Deferred} {Q:Exit→Act→World→Prop} {K:Act→World→Prop} {w:World} {t j j' z n:Nat}
theorem q_lookb{k:TypeId}{v0 v:Value}{f:MapF}{x:ByteArray}[hm:Nth l j (.map (some z))][hx:Nth l j' (.string x)][hT:MapI P t k v0](ho:MapOf P k w z n f)(hs:x.size≤maxLen)(hl:(f x).getD v0=v)[hd:PutI l dst v l'](h:K ⟨l'.toArray,ds⟩ w):OWP P ⟨dst,.lookup t (.tmp j) (.tmp j') false,oty,pos,after,g⟩ ⟨l.toArray,ds⟩ w K Q:=by
 subst hl
 exact q_look ho hs h
end
section
variable {F H:Nat→Prop} {ao:Option Addr} {n cap:Nat} {ko:Option Addr} {kn kcap:Nat} {so:Option Addr} {sn scap:Nat} {w0:World} {ts:List Typ} {known:List Pat} {zs zk nk zt nt:Nat} {f fT:MapF}
set_option maxRecDepth 8000 in
set_option maxHeartbeats 8000000 in
theorem pattern_any(E:Env F w0)(hS:Scope F w0 zs zk nk f ts known ao n cap)(hts: ∀ t∈ts,TypGood t)(p:Pat)(hC:SlF F w0 14 CondF so sn scap p.wher.subs)(hv:p.var.size≤maxLen)(hok:CondFit p.wher)(part:Nat)(hp:part≤2)(hK:SlF H w0 1 (plainF intC) ko kn kcap (winL part))(hT:MapOf Tryz.prog 9 w0 zt nt fT)(hnt:nt<maxLen)(ahead:List ByteArray)(hfT:fT p.var=if inS ahead p.var=true then some (.bool true)else none)(hF: ¬ F zt)(hH: ¬ H zt)(h1:zs≠zt)(h2:zk≠zt):
  Calls Tryz.prog 38 #[.pointer (some ⟨zs,0,none⟩),.agg (pat18 p so sn scap).toArray,.map (some zt),.slice ko kn kcap] w0 (PtnPost F ts known ahead p part zt nt fT w0):=by
 have hzt:=hT.lt
 have M:Mem (TakAt zt nt fT p.var) zt w0 w0 ⟨0,0⟩ []:=Mem.empty ⟨nt,fT,hT,fun _=>⟨rfl,rfl⟩,fun h=>absurd rfl h⟩ (fun s w w' hb ⟨m,f',q1,q2⟩=>⟨m,f',q1.same hb,q2⟩) hzt
 have HNM:Hid (∀ wx,But zt w0 wx→Calls Tryz.prog 37 #[.string p.var] wx fun e w' =>e= .returned (.int .i64 (freeE p.var))∧Below wx.heap.size wx w'):=fun wx hb=>cname_any p.var wx hv (E.same (hb.sameF hF))
 have HTY0: ∀ wx,But zt w0 wx→Calls Tryz.prog 63 #[.pointer (some ⟨zs,0,none⟩),.string p.type] wx (TypdPost F ts p.type w0 wx):=fun wx hb=>typed_any (hb.sameF hF) (Nat.lt_of_lt_of_le hzt hb.size) hS.types zs (Nat.lt_of_lt_of_le hS.lt hb.size) (hS.but hb hF h1 h2).c0 p.type
 have HWN:Hid (∀ wx,But zt w0 wx→Calls Tryz.prog 64 #[.agg (pat18 p so sn scap).toArray,.slice ko kn kcap] wx fun e w' =>e= .returned (.int .i64 (winE part p))∧Below wx.heap.size wx w'):=fun wx hb=>by
  rw[←winK_eq part hp p]
  exact window_any (Nat.lt_of_lt_of_le hzt hb.size) p (winL part) (hK.same (plainF_firm _) (hb.sameF hH))
 have HEM:Hid (∀ wx,But zt w0 wx→Calls Tryz.prog 65 #[.agg (cnd14 p.wher.kind so sn scap p.wher.left p.wher.right).toArray] wx fun e w' =>e= .returned (.bool (noC p.wher))∧Below wx.heap.size wx w'):=fun wx hb=>empty_any (Nat.lt_of_lt_of_le hzt hb.size) p.wher (hC.same condF_firm (hb.sameF hF))
 have HLB:Hid ((fT p.var).getD (.bool false)= .bool (inS ahead p.var)):=by show _=_;rw[hfT];cases inS ahead p.var<;>rfl
 have HCN0:typI ts p.type<ts.length→ ∀ tn a nn c,(tn=(typAt ts p.type).name∧SlF F w0 2 (plainF fldC) a nn c (typAt ts p.type).fields)→ ∀ wx,But zt w0 wx→Calls Tryz.prog 66 #[.pointer (some ⟨zs,0,none⟩),.agg (cnd14 p.wher.kind so sn scap p.wher.left p.wher.right).toArray,.agg #[.string tn,.slice a nn c],.int .i64 1] wx (CndPostR (condR ts known (typAt ts p.type) 8 p.wher) wx):=fun ht tn a nn c hty wx hb=>by
  have htt:typAt ts p.type=ts[typI ts p.type]:=by unfold typAt;rw[List.getD_eq_getElem?_getD,List.getElem?_eq_getElem ht];rfl
  rw[hty.1]
  exact cond_any (Nat.lt_of_lt_of_le hzt hb.size) (hS.but hb hF h1 h2) hts (hty.2.same (plainF_firm _) (hb.sameF hF)) (by rw[htt];exact hts _ (List.getElem_mem ht)) 8 1 rfl (by decide) p.wher so sn scap wx (Below.refl _ _) (hC.same condF_firm (hb.sameF hF)) hok
 have hv:=Lib.hid hv
 have hnt:=Lib.hid hnt
 unfold pat18 cnd14 at *
 clear E hS hts hC hok hp hK hT hfT hF hH h1 h2 hzt
 by_cases h0:freeE p.var=0
 ·rw[h0]at HNM
  cases hin:inS ahead p.var with
  |true=>
   have HV:Hid (patE ts known ahead p part=7):=by show _=_;unfold patE;rw[if_neg (by rw[h0];simp),if_pos hin]
   rw[hin]at HLB
   clear h0 hin HTY0 HCN0 HWN HEM
   go_enter Tryz.func38,Tryz.ntmps38
   go_wp2_with (first|(with_reducible (first|(refine wB (L:=[]) M ?_;clear M;intro za w1 M)|(refine wV M ?_;clear M;intro zr w M)|refine wq M ?_|(refine wS M ?_;clear M;intro w M)|refine w_ (q_lookb (TakAt.zero M.at_) hv.out HLB.out ?_)))|(go_at_call 37;with_reducible refine(HNM.out _ M.but).mono ?_;rintro e w5 ⟨rfl,hb5⟩;replace M:=M.below hb5;clear hb5))
   refine q_ret2 M Tryz.results38 (by rfl) ⟨_,Tryz.underlying51,rfl⟩ ?_
   exact ptn_bad M.but M.at_ HV.out (by decide)
  |false=>
   rw[hin]at HLB
   have hV0:patE ts known ahead p part=if ts.length≤typI ts p.type then 6 else if winE part p≠0 then winE part p else if noC p.wher=true then 0 else(condR ts known (typAt ts p.type) 8 p.wher).2:=by
    unfold patE;rw[if_neg (by rw[h0];simp),if_neg (by rw[hin];simp)]
   clear h0 hin
   by_cases ht:typI ts p.type<ts.length
   ·rw[if_neg (by omega)]at hV0
    have HTY:Hid (∀ wx,But zt w0 wx→Calls Tryz.prog 63 #[.pointer (some ⟨zs,0,none⟩),.string p.type] wx fun e w' => ∃ tn a nn c,e= .returned (.tuple #[.agg #[.string tn,.slice a nn c],.int .i64 0])∧Below wx.heap.size wx w' ∧tn=(typAt ts p.type).name∧SlF F w0 2 (plainF fldC) a nn c (typAt ts p.type).fields):=fun wx hb=>
     (HTY0 wx hb).mono (by rintro e w' ⟨tn,a,nn,c,rfl,hb,h⟩;exact⟨tn,a,nn,c,by rw[if_pos ht],hb,h ht⟩)
    have HCN:=Lib.hid (HCN0 ht)
    clear HTY0 HCN0 ht
    by_cases hw:winE part p=0
    ·rw[if_neg (by rw[hw];simp)]at hV0
     rw[hw]at HWN
     cases hn:noC p.wher with
     |true=>
      rw[if_pos hn]at hV0
      rw[hn]at HEM
      have HV:=Lib.hid hV0
      clear hV0 hw hn HCN
      go_enter Tryz.func38,Tryz.ntmps38
      go_wp2_with (first|(with_reducible (first|(refine wB (L:=[]) M ?_;clear M;intro za w1 M)|(refine wV M ?_;clear M;intro zr w M)|refine wq M ?_|(refine wS M ?_;clear M;intro w M)|refine w_ (q_lookb (TakAt.zero M.at_) hv.out HLB.out ?_)|(refine w_ (q_mset (v:= .bool true) rfl (TakAt.zero M.at_) hnt.out hv.out ?_);intro wu hou hbu;replace M:=M.step (TakAt.one (e:=0) hou) hbu;clear hou hbu)))|(go_at_call 37;with_reducible refine(HNM.out _ M.but).mono ?_;rintro e w5 ⟨rfl,hb5⟩;replace M:=M.below hb5;clear hb5)|(go_at_call 63;with_reducible refine(HTY.out _ M.but).mono ?_;rintro e w5 ⟨tn,ta,tnn,tc,rfl,hb5,hty⟩;replace M:=M.below hb5;clear hb5;have HTT:=Lib.hid hty;clear hty)|(go_at_call 64;with_reducible refine(HWN.out _ M.but).mono ?_;rintro e w5 ⟨rfl,hb5⟩;replace M:=M.below hb5;clear hb5)|(go_at_call 65;with_reducible refine(HEM.out _ M.but).mono ?_;rintro e w5 ⟨rfl,hb5⟩;replace M:=M.below hb5;clear hb5))
      refine q_ret2 M Tryz.results38 (by rfl) ⟨_,Tryz.underlying51,rfl⟩ ?_
      exact ptn_end M.but M.at_ HV.out HTT.out
     |false=>
      rw[if_neg (by rw[hn];simp)]at hV0
      rw[hn]at HEM
      have HV:=Lib.hid hV0
      clear hV0 hw hn
      unfold CndPostR at HCN
      generalize condR ts known (typAt ts p.type) 8 p.wher=r at HCN HV
      obtain⟨rk,re⟩:=r
      go_enter Tryz.func38,Tryz.ntmps38
      go_wp2_with (first|(with_reducible (first|(refine wB (L:=[]) M ?_;clear M;intro za w1 M)|(refine wV M ?_;clear M;intro zr w M)|refine wq M ?_|(refine wS M ?_;clear M;intro w M)|refine w_ (q_lookb (TakAt.zero M.at_) hv.out HLB.out ?_)|(refine w_ (q_mset (v:= .bool true) rfl (TakAt.zero M.at_) hnt.out hv.out ?_);intro wu hou hbu;replace M:=M.step (TakAt.one (e:=0) hou) hbu;clear hou hbu)))|(go_at_call 37;with_reducible refine(HNM.out _ M.but).mono ?_;rintro e w5 ⟨rfl,hb5⟩;replace M:=M.below hb5;clear hb5)|(go_at_call 63;with_reducible refine(HTY.out _ M.but).mono ?_;rintro e w5 ⟨tn,ta,tnn,tc,rfl,hb5,hty⟩;replace M:=M.below hb5;clear hb5;have HTT:=Lib.hid hty;clear hty)|(go_at_call 64;with_reducible refine(HWN.out _ M.but).mono ?_;rintro e w5 ⟨rfl,hb5⟩;replace M:=M.below hb5;clear hb5)|(go_at_call 65;with_reducible refine(HEM.out _ M.but).mono ?_;rintro e w5 ⟨rfl,hb5⟩;replace M:=M.below hb5;clear hb5)|(go_at_call 66;with_reducible refine(HCN.out _ _ _ _ HTT.out _ M.but).mono ?_;rintro e w5 ⟨kk,rfl,hb5, -⟩;replace M:=M.below hb5;clear hb5))
      refine q_ret2 M Tryz.results38 (by rfl) ⟨_,Tryz.underlying51,rfl⟩ ?_
      exact ptn_end M.but M.at_ HV.out HTT.out
    ·rw[if_pos hw]at hV0
     have hwb:(winE part p !=0)=true:=by simpa using hw
     have HW:=Lib.hid hw
     have HV:=Lib.hid hV0
     generalize winE part p=we at HWN HV hwb HW
     clear hV0 hw HCN HEM
     go_enter Tryz.func38,Tryz.ntmps38
     go_wp2_with (first|(with_reducible (first|(refine wB (L:=[]) M ?_;clear M;intro za w1 M)|(refine wV M ?_;clear M;intro zr w M)|refine wq M ?_|(refine wS M ?_;clear M;intro w M)|refine w_ (q_lookb (TakAt.zero M.at_) hv.out HLB.out ?_)|(refine w_ (q_mset (v:= .bool true) rfl (TakAt.zero M.at_) hnt.out hv.out ?_);intro wu hou hbu;replace M:=M.step (TakAt.one (e:=0) hou) hbu;clear hou hbu)))|(go_at_call 37;with_reducible refine(HNM.out _ M.but).mono ?_;rintro e w5 ⟨rfl,hb5⟩;replace M:=M.below hb5;clear hb5)|(go_at_call 63;with_reducible refine(HTY.out _ M.but).mono ?_;rintro e w5 ⟨tn,ta,tnn,tc,rfl,hb5,hty⟩;replace M:=M.below hb5;clear hb5;have HTT:=Lib.hid hty;clear hty)|(go_at_call 64;with_reducible refine(HWN.out _ M.but).mono ?_;rintro e w5 ⟨rfl,hb5⟩;replace M:=M.below hb5;clear hb5))
     refine q_ret2 M Tryz.results38 (by rfl) ⟨_,Tryz.underlying51,rfl⟩ ?_
     exact ptn_bad M.but M.at_ HV.out HW.out
   ·rw[if_pos (by omega)]at hV0
    have HTY:Hid (∀ wx,But zt w0 wx→Calls Tryz.prog 63 #[.pointer (some ⟨zs,0,none⟩),.string p.type] wx fun e w' => ∃ tn a nn c,e= .returned (.tuple #[.agg #[.string tn,.slice a nn c],.int .i64 6])∧Below wx.heap.size wx w' ∧True):=fun wx hb=>
     (HTY0 wx hb).mono (by rintro e w' ⟨tn,a,nn,c,rfl,hb,h⟩;exact⟨tn,a,nn,c,by rw[if_neg ht],hb,trivial⟩)
    have HV:=Lib.hid hV0
    clear hV0 ht HTY0 HCN0 HWN HEM
    go_enter Tryz.func38,Tryz.ntmps38
    go_wp2_with (first|(with_reducible (first|(refine wB (L:=[]) M ?_;clear M;intro za w1 M)|(refine wV M ?_;clear M;intro zr w M)|refine wq M ?_|(refine wS M ?_;clear M;intro w M)|refine w_ (q_lookb (TakAt.zero M.at_) hv.out HLB.out ?_)|(refine w_ (q_mset (v:= .bool true) rfl (TakAt.zero M.at_) hnt.out hv.out ?_);intro wu hou hbu;replace M:=M.step (TakAt.one (e:=0) hou) hbu;clear hou hbu)))|(go_at_call 37;with_reducible refine(HNM.out _ M.but).mono ?_;rintro e w5 ⟨rfl,hb5⟩;replace M:=M.below hb5;clear hb5)|(go_at_call 63;with_reducible refine(HTY.out _ M.but).mono ?_;rintro e w5 ⟨tn,ta,tnn,tc,rfl,hb5,hty⟩;replace M:=M.below hb5;clear hb5;have HTT:=Lib.hid hty;clear hty))
    refine q_ret2 M Tryz.results38 (by rfl) ⟨_,Tryz.underlying51,rfl⟩ ?_
    exact ptn_bad M.but M.at_ HV.out (by decide)
 ·have HV:Hid (patE ts known ahead p part=freeE p.var):=by show _=_;unfold patE;rw[if_pos h0]
  have hb:(freeE p.var !=0)=true:=by simpa using h0
  have HE0:=Lib.hid h0
  generalize freeE p.var=fe at HNM HV hb HE0
  clear h0 HTY0 HCN0 HWN HEM HLB
  go_enter Tryz.func38,Tryz.ntmps38
  go_wp2_with (first|(with_reducible (first|(refine wB (L:=[]) M ?_;clear M;intro za w1 M)|(refine wV M ?_;clear M;intro zr w M)|refine wq M ?_|(refine wS M ?_;clear M;intro w M)))|(go_at_call 37;with_reducible refine(HNM.out _ M.but).mono ?_;rintro e w5 ⟨rfl,hb5⟩;replace M:=M.below hb5;clear hb5))
  refine q_ret2 M Tryz.results38 (by rfl) ⟨_,Tryz.underlying51,rfl⟩ ?_
  exact ptn_bad M.but M.at_ HV.out HE0.out
end
end Go.Proofs.YtncmghnhfipklaaGreatDoor
