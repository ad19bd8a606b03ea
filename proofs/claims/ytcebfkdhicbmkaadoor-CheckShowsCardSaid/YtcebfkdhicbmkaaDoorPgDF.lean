/-
  The walks of the program's Check, fourth part: windows; no condition. Printed by pgd.py.
-/
import Derived.Test.YtcebfkdhicbmkaaDoorPgBC
import Derived.Test.YtcebfkdhicbmkaaDoorChkK
import Derived.Deep.CutBlock
import Derived.Deep.DeepCutAuto
namespace Go.Proofs.YtcebfkdhicbmkaaDoor
open Go.RowKit
set_option linter.unusedVariables false
set_option linter.unusedSimpArgs false
def winK(l:List Int)(p:Pat):Int:=
 if l.any (fun k=>p.window==k)=false∨(p.window=0∧p.n≠0)then 4
 else if(p.window=1∧ ¬ (0≤p.n∧p.n≤1073741824))∨(p.window=2∧ ¬ (1≤p.n∧p.n≤120))then 2 else 0
def winL:Nat→List Int
 |0=>[0,1,2]
 |1=>[0]
 |_=>[1]
theorem winK_eq(part:Nat)(hp:part≤2)(p:Pat):winK (winL part) p=winE part p:=by
 have h1:((winL part).any (fun k=>p.window==k)=false∨(p.window=0∧p.n≠0))↔((part=0∧ ¬ (0≤p.window∧p.window≤2))∨(part=1∧p.window≠0)∨(part=2∧p.window≠1)∨(p.window=0∧p.n≠0)):=by
  rcases(by omega:part=0∨part=1∨part=2)with rfl|rfl|rfl<;>simp[winL]<;>omega
 unfold winK winE
 by_cases h:(winL part).any (fun k=>p.window==k)=false∨(p.window=0∧p.n≠0)
 ·rw[if_pos h,if_pos (h1.1 h)]
 ·rw[if_neg h,if_neg (fun h2=>h (h1.2 h2))]
def intC(k:Int):List Value:=[.int .i64 k]
theorem size_int:SizeIs Tryd.prog 3 1:=fun w=>by kernel_rfl
section
variable {g:Nat} {F H S:Nat→Prop} {ao:Option Addr} {n cap:Nat} {ko:Option Addr} {kn kcap:Nat} {so:Option Addr} {sn scap:Nat} {w0:World} {ts:List Typ} {known:List Pat} {zs zk nk:Nat} {f:MapF}
set_option maxRecDepth 8000 in
set_option maxHeartbeats 8000000 in
theorem window_any(hg:g<w0.heap.size)(p:Pat)(l:List Int)(hK:SlF H w0 1 (plainF intC) ko kn kcap l):
  Calls Tryd.prog 56 #[.agg (pat18 p so sn scap).toArray,.slice ko kn kcap] w0 fun e w' =>e= .returned (.int .i64 (winK l p))∧Below w0.heap.size w0 w' :=by
 have M:=Mem.begin hg ⟨0,0⟩
 have hle:=hK.le
 have NL:=Lib.hid hK.len
 have HK:=Lib.hid hK
 have HD:Hid (winK l p=winK l p):=rfl
 unfold pat18
 clear hg hK
 go_enter Tryd.func56,Tryd.ntmps56
 go_wp2_with (with_reducible (refine wB (L:=[]) M ?_;clear M;intro za w1 M))
 go_loopg [5,10] kn (fun fu b i wr=> ∃ (j:Nat),j+fu=kn∧b= .bool ((l.take j).any (fun k=>p.window==k))∧i= .int .i64 j∧Mem (StaysB g w0) g w0 wr ⟨0,0⟩ (own za [.string p.var,.string p.type,.int .i64 p.wher.kind,.slice so sn scap,.int .i64 p.wher.left.kind,.int .i64 p.wher.left.vkind,.int .i64 p.wher.left.vint,.string p.wher.left.vtext,.string p.wher.left.var,.string p.wher.left.field,.int .i64 p.wher.right.kind,.int .i64 p.wher.right.vkind,.int .i64 p.wher.right.vint,.string p.wher.right.vtext,.string p.wher.right.var,.string p.wher.right.field,.int .i64 p.window,.int .i64 p.n] 69::[]))
 case atStart=>exact⟨0,by omega,rfl,rfl,M⟩
 case round=>
  clear M
  obtain⟨j,hj,rfl,rfl,M⟩:=hrel
  by_cases hlt:j<kn
  ·have hkl:j<l.length:=by have:=NL.out;omega
   obtain⟨ca,oa,rowa,hixa, -,hrra,hwa⟩:=SlF.rowAt (P:=Tryd.prog) HK.out (plainF_firm _) Tryd.underlying113 size_int (i:=j) hkl
   have e1:rowa=intC l[j]:=hrra
   subst e1
   have HI0:Hid (∀ wx,Below w0.heap.size w0 wx→wx.cell? ⟨ca,oa,none⟩=some (.int .i64 l[j])):=fun wx hb=>(hwa wx hb).1 0 _ rfl
   have HS:Hid ((l.take (j+1)).any (fun k=>p.window==k)=((l.take j).any (fun k=>p.window==k)||(p.window==l[j]))):=by
    show _=_
    rw[List.take_add_one,List.getElem?_eq_getElem hkl,List.any_append]
    simp
   clear hwa hrra
   generalize l[j]=kj at HI0 HS
   generalize (l.take j).any (fun k=>p.window==k)=b0 at HS ⊢
   cases b0 with
   |true=>
    go_wp2_with (with_reducible (first|refine wq M ?_|refine wC (HI0.out _ M.new) ?_))
    go_roundg (kn - (j+1))
    case measure=>omega
    case rel=>exact⟨j+1,by omega,by rw[HS.out];rfl,by go_num,M⟩
   |false=>
    go_wp2_with (with_reducible (first|refine wq M ?_|refine wC (HI0.out _ M.new) ?_))
    all_goals
     go_roundg (kn - (j+1))
     case measure=>omega
     case rel=>exact⟨j+1,by omega,by rw[HS.out];simp[*],by go_num,M⟩
  ·have hal:(l.take j).any (fun k=>p.window==k)=l.any (fun k=>p.window==k):=by rw[List.take_of_length_le (by have:=NL.out;omega)]
   have HV:Hid (winK l p=(if l.any (fun k=>p.window==k)=false∨(p.window=0∧p.n≠0)then 4 else if(p.window=1∧ ¬ (0≤p.n∧p.n≤1073741824))∨(p.window=2∧ ¬ (1≤p.n∧p.n≤120))then(2:Int)else 0)):=rfl
   rw[hal]
   generalize l.any (fun k=>p.window==k)=b0 at HV ⊢
   generalize p.window=pw at M HV ⊢
   generalize p.n=pn at M HV ⊢
   clear HD hal
   cases b0 with
   |false=>
    replace HV:=Lib.hid (HV.out.trans (if_pos (Or.inl rfl)))
    go_wp2_with (with_reducible refine wq M ?_)
    go_ret
    rw[HV.out]
    exact⟨rfl,M.new⟩
   |true=>
    by_cases h0:pw=0
    ·subst h0
     by_cases hn:pn=0
     ·have hnb:(pn !=0)=false:=by simpa using hn
      replace HV:=Lib.hid (HV.out.trans ((if_neg (by simp[hn])).trans (if_neg (by simp))))
      clear hn
      go_wp2_with (with_reducible refine wq M ?_)
      go_ret
      rw[HV.out]
      exact⟨rfl,M.new⟩
     ·have hnb:(pn !=0)=true:=by simpa using hn
      replace HV:=Lib.hid (HV.out.trans (if_pos (Or.inr ⟨rfl,hn⟩)))
      clear hn
      go_wp2_with (with_reducible refine wq M ?_)
      go_ret
      rw[HV.out]
      exact⟨rfl,M.new⟩
    ·have h0b:(pw==0)=false:=by simpa using h0
     replace HV:=Lib.hid (HV.out.trans (if_neg (by simp[h0])))
     by_cases h1:pw=1
     ·subst h1
      clear h0
      by_cases hr:0≤pn∧pn≤1073741824
      ·have d1:decide (pn<0)=false:=by simp;omega
       have d2:decide (1073741824<pn)=false:=by simp;omega
       replace HV:=Lib.hid (HV.out.trans (if_neg (by simp[hr])))
       clear hr
       go_wp2_with (with_reducible refine wq M ?_)
       go_ret
       rw[HV.out]
       exact⟨rfl,M.new⟩
      ·replace HV:=Lib.hid (HV.out.trans (if_pos (Or.inl ⟨rfl,hr⟩)))
       by_cases h2:pn<0
       ·have d1:decide (pn<0)=true:=by simpa using h2
        clear hr h2
        go_wp2_with (with_reducible refine wq M ?_)
        go_ret
        rw[HV.out]
        exact⟨rfl,M.new⟩
       ·have d1:decide (pn<0)=false:=by simpa using h2
        have d2:decide (1073741824<pn)=true:=by simp;omega
        clear hr h2
        go_wp2_with (with_reducible refine wq M ?_)
        go_ret
        rw[HV.out]
        exact⟨rfl,M.new⟩
     ·have h1b:(pw==1)=false:=by simpa using h1
      by_cases h2:pw=2
      ·subst h2
       clear h0 h1
       by_cases hr:1≤pn∧pn≤120
       ·have d1:decide (pn<1)=false:=by simp;omega
        have d2:decide (120<pn)=false:=by simp;omega
        replace HV:=Lib.hid (HV.out.trans (if_neg (by simp[hr])))
        clear hr
        go_wp2_with (with_reducible refine wq M ?_)
        go_ret
        rw[HV.out]
        exact⟨rfl,M.new⟩
       ·replace HV:=Lib.hid (HV.out.trans (if_pos (Or.inr ⟨rfl,hr⟩)))
        by_cases h2:pn<1
        ·have d1:decide (pn<1)=true:=by simpa using h2
         clear hr h2
         go_wp2_with (with_reducible refine wq M ?_)
         go_ret
         rw[HV.out]
         exact⟨rfl,M.new⟩
        ·have d1:decide (pn<1)=false:=by simpa using h2
         have d2:decide (120<pn)=true:=by simp;omega
         clear hr h2
         go_wp2_with (with_reducible refine wq M ?_)
         go_ret
         rw[HV.out]
         exact⟨rfl,M.new⟩
      ·have h2b:(pw==2)=false:=by simpa using h2
       replace HV:=Lib.hid (HV.out.trans (if_neg (by simp[h1,h2])))
       clear h0 h1 h2
       go_wp2_with (with_reducible refine wq M ?_)
       go_ret
       rw[HV.out]
       exact⟨rfl,M.new⟩
set_option maxRecDepth 8000 in
set_option maxHeartbeats 4000000 in
theorem empty_any(hg:g<w0.heap.size)(c:Cond)(hS:SlF S w0 14 CondF so sn scap c.subs):
  Calls Tryd.prog 57 #[.agg (cnd14 c.kind so sn scap c.left c.right).toArray] w0 fun e w' =>e= .returned (.bool (noC c))∧Below w0.heap.size w0 w' :=by
 have M:=Mem.begin hg ⟨0,0⟩
 have hle:=hS.le
 have NL:=Lib.hid hS.len
 have HV:Hid (noC c=(c.kind==0&&decide ((sn:Int)=0)&&opdZ c.left&&opdZ c.right)):=by show _=_;unfold noC;rw[NL.out];simp
 unfold cnd14
 clear hg hS
 go_enter Tryd.func57,Tryd.ntmps57
 go_wp2_with (with_reducible (first|(refine wB (L:=[]) M ?_;clear M;intro za w1 M)|refine wq M ?_))
 all_goals
  go_ret
  exact⟨ret_bool' (by rw[HV.out];simp[opdZ,valZ,emS, *]),M.new⟩
end
end Go.Proofs.YtcebfkdhicbmkaaDoor
/-
  The walks of the program's Check, fifth part: patterns. Printed by pge.py.
-/
namespace Go.Proofs.YtcebfkdhicbmkaaDoor
open Go.RowKit
set_option linter.unusedVariables false
set_option linter.unusedSimpArgs false
def TakAt(zt nt:Nat)(fT:MapF)(v:ByteArray):PS→World→Prop:=fun s w=>
 ∃ m f',MapOf Tryd.prog 9 w zt m f' ∧(s.pos=0→m=nt∧f' =fT)∧(s.pos≠0→m=nt+1∧f' =putF fT v (.bool true))
theorem TakAt.zero{zt nt:Nat}{fT:MapF}{v:ByteArray}{e:Int}{w:World}(h:TakAt zt nt fT v ⟨0,e⟩ w):MapOf Tryd.prog 9 w zt nt fT:=by
 obtain⟨m,f',h1,h2, -⟩:=h
 obtain⟨rfl,rfl⟩:=h2 rfl
 exact h1
theorem TakAt.one{zt nt:Nat}{fT:MapF}{v:ByteArray}{e:Int}{w:World}(h:MapOf Tryd.prog 9 w zt (nt+1) (putF fT v (.bool true))):TakAt zt nt fT v ⟨1,e⟩ w:=⟨_,_,h,fun h=>(Nat.succ_ne_zero 0 h).elim,fun _=>⟨rfl,rfl⟩⟩
theorem But.sameF{F:Nat→Prop}{z:Nat}{w w' :World}(h:But z w w')(hF: ¬ F z):Same F F w w' :=⟨h.size,fun k hk hlt=>⟨hk,h.rest k hlt (fun e=>hF (e▸hk))⟩⟩
theorem Scope.but{F:Nat→Prop}{w w' :World}{zs zk nk zt:Nat}{f:MapF}{ts:List Typ}{known:List Pat}{ao:Option Addr}{n cap:Nat}(h:Scope F w zs zk nk f ts known ao n cap)(hb:But zt w w')(hF: ¬ F zt)(h1:zs≠zt)(h2:zk≠zt):Scope F w' zs zk nk f ts known ao n cap where
 lt:=Nat.lt_of_lt_of_le h.lt hb.size
 c0:=by rw[hb.cell h.lt h1];exact h.c0
 c1:=by rw[hb.cell h.lt h1];exact h.c1
 types:=h.types.same typF_firm (hb.sameF hF)
 map_:=h.map_.same (hb.rest _ h.map_.lt h2)
 has:=fun s hs hp=>by
  obtain⟨cs,a,b⟩:=h.has s hs hp
  exact⟨cs,a,b.same (hb.sameF hF)⟩
 hasnt:=h.hasnt
 there:=h.there
def PtnPost(F:Nat→Prop)(ts:List Typ)(known:List Pat)(ahead:List ByteArray)(p:Pat)(part zt nt:Nat)(fT:MapF)(w0:World):Ending→World→Prop:=fun e w' =>
 ∃ tn a nn c,e= .returned (.tuple #[.agg #[.string tn,.slice a nn c],.int .i64 (patE ts known ahead p part)])∧But zt w0 w' ∧ ∃ m f',MapOf Tryd.prog 9 w' zt m f' ∧
  (patE ts known ahead p part=0→m=nt+1∧f' =putF fT p.var (.bool true)∧tn=(typAt ts p.type).name∧SlF F w0 2 (plainF fldC) a nn c (typAt ts p.type).fields)
section
variable {F H:Nat→Prop} {ts:List Typ} {known:List Pat} {ahead:List ByteArray} {p:Pat} {part zt nt:Nat} {fT:MapF} {w0 w' :World} {tn:ByteArray} {a:Option Addr} {nn c:Nat} {e:Int} {s:PS}
theorem ptn_bad(hb:But zt w0 w')(ht:TakAt zt nt fT p.var s w')(he:patE ts known ahead p part=e)(hn:e≠0):PtnPost F ts known ahead p part zt nt fT w0 (.returned (.tuple #[.agg #[.string tn,.slice a nn c],.int .i64 e])) w' :=by
 obtain⟨m,f',h1, -, -⟩:=ht
 exact⟨_,_,_,_,by rw[he],hb,m,f',h1,fun h=>absurd (he.symm.trans h) hn⟩
theorem ptn_end{d:Int}(hb:But zt w0 w')(ht:TakAt zt nt fT p.var ⟨1,d⟩ w')(he:patE ts known ahead p part=e)(hty:tn=(typAt ts p.type).name∧SlF F w0 2 (plainF fldC) a nn c (typAt ts p.type).fields):PtnPost F ts known ahead p part zt nt fT w0 (.returned (.tuple #[.agg #[.string tn,.slice a nn c],.int .i64 e])) w' :=by
 obtain⟨m,f',h1, -,h3⟩:=ht
 obtain⟨rfl,rfl⟩:=h3 (by show(1:Nat)≠0;decide)
 exact⟨_,_,_,_,by rw[he],hb,_,_,h1,fun h=>⟨rfl,rfl,hty.1,hty.2⟩⟩
end
section
variable {P:Program} {dst:Option Tmp} {oty:TypeId} {pos:String} {after:Array Edge} {g:Option (Nat×Bool)} {l l' :List Value} {ds:List Deferred} {Q:Exit→Act→World→Prop} {K:Act→World→Prop} {w:World} {t j j' z n:Nat}
theorem q_lookb{k:TypeId}{v0 v:Value}{f:MapF}{x:ByteArray}[hm:Nth l j (.map (some z))][hx:Nth l j' (.string x)][hT:MapI P t k v0](ho:MapOf P k w z n f)(hs:x.size≤maxLen)(hl:(f x).getD v0=v)[hd:PutI l dst v l'](h:K ⟨l'.toArray,ds⟩ w):OWP P ⟨dst,.lookup t (.tmp j) (.tmp j') false,oty,pos,after,g⟩ ⟨l.toArray,ds⟩ w K Q:=by
 subst hl
 exact q_look ho hs h
end
section
variable {F H:Nat→Prop} {ao:Option Addr} {n cap:Nat} {ko:Option Addr} {kn kcap:Nat} {so:Option Addr} {sn scap:Nat} {w0:World} {ts:List Typ} {known:List Pat} {zs zk nk zt nt:Nat} {f fT:MapF}
set_option maxRecDepth 8000 in
set_option maxHeartbeats 8000000 in
theorem pattern_any(E:Env F w0)(hS:Scope F w0 zs zk nk f ts known ao n cap)(hts: ∀ t∈ts,TypGood t)(p:Pat)(hC:SlF F w0 14 CondF so sn scap p.wher.subs)(hv:p.var.size≤maxLen)(hok:CondFit p.wher)(part:Nat)(hp:part≤2)(hK:SlF H w0 1 (plainF intC) ko kn kcap (winL part))(hT:MapOf Tryd.prog 9 w0 zt nt fT)(hnt:nt<maxLen)(ahead:List ByteArray)(hfT:fT p.var=if inS ahead p.var=true then some (.bool true)else none)(hF: ¬ F zt)(hH: ¬ H zt)(h1:zs≠zt)(h2:zk≠zt):
  Calls Tryd.prog 35 #[.pointer (some ⟨zs,0,none⟩),.agg (pat18 p so sn scap).toArray,.map (some zt),.slice ko kn kcap] w0 (PtnPost F ts known ahead p part zt nt fT w0):=by
 have hzt:=hT.lt
 have M:Mem (TakAt zt nt fT p.var) zt w0 w0 ⟨0,0⟩ []:=Mem.empty ⟨nt,fT,hT,fun _=>⟨rfl,rfl⟩,fun h=>absurd rfl h⟩ (fun s w w' hb ⟨m,f',q1,q2⟩=>⟨m,f',q1.same hb,q2⟩) hzt
 have HNM:Hid (∀ wx,But zt w0 wx→Calls Tryd.prog 34 #[.string p.var] wx fun e w' =>e= .returned (.int .i64 (freeE p.var))∧Below wx.heap.size wx w'):=fun wx hb=>cname_any p.var wx hv (E.same (hb.sameF hF))
 have HTY0: ∀ wx,But zt w0 wx→Calls Tryd.prog 55 #[.pointer (some ⟨zs,0,none⟩),.string p.type] wx (TypdPost F ts p.type w0 wx):=fun wx hb=>typed_any (hb.sameF hF) (Nat.lt_of_lt_of_le hzt hb.size) hS.types zs (Nat.lt_of_lt_of_le hS.lt hb.size) (hS.but hb hF h1 h2).c0 p.type
 have HWN:Hid (∀ wx,But zt w0 wx→Calls Tryd.prog 56 #[.agg (pat18 p so sn scap).toArray,.slice ko kn kcap] wx fun e w' =>e= .returned (.int .i64 (winE part p))∧Below wx.heap.size wx w'):=fun wx hb=>by
  rw[←winK_eq part hp p]
  exact window_any (Nat.lt_of_lt_of_le hzt hb.size) p (winL part) (hK.same (plainF_firm _) (hb.sameF hH))
 have HEM:Hid (∀ wx,But zt w0 wx→Calls Tryd.prog 57 #[.agg (cnd14 p.wher.kind so sn scap p.wher.left p.wher.right).toArray] wx fun e w' =>e= .returned (.bool (noC p.wher))∧Below wx.heap.size wx w'):=fun wx hb=>empty_any (Nat.lt_of_lt_of_le hzt hb.size) p.wher (hC.same condF_firm (hb.sameF hF))
 have HLB:Hid ((fT p.var).getD (.bool false)= .bool (inS ahead p.var)):=by show _=_;rw[hfT];cases inS ahead p.var<;>rfl
 have HCN0:typI ts p.type<ts.length→ ∀ tn a nn c,(tn=(typAt ts p.type).name∧SlF F w0 2 (plainF fldC) a nn c (typAt ts p.type).fields)→ ∀ wx,But zt w0 wx→Calls Tryd.prog 58 #[.pointer (some ⟨zs,0,none⟩),.agg (cnd14 p.wher.kind so sn scap p.wher.left p.wher.right).toArray,.agg #[.string tn,.slice a nn c],.int .i64 1] wx (CndPostR (condR ts known (typAt ts p.type) 8 p.wher) wx):=fun ht tn a nn c hty wx hb=>by
  have htt:typAt ts p.type=ts[typI ts p.type]:=by unfold typAt;rw[List.getD_eq_getElem?_getD,List.getElem?_eq_getElem ht];rfl
  rw[hty.1]
  exact cond_any (Nat.lt_of_lt_of_le hzt hb.size) (hS.but hb hF h1 h2) hts (hty.2.same (plainF_firm _) (hb.sameF hF)) (by rw[htt];exact hts _ (List.getElem_mem ht)) 8 1 rfl (by decide) p.wher so sn scap wx (Below.refl _ _) (hC.same condF_firm (hb.sameF hF)) hok
 have hv:=Lib.hid hv
 have hnt:=Lib.hid hnt
 unfold pat18 cnd14 at *
 clear E hS hts hC hok hp hK hT hfT hF hH h1 h2 hzt
 by_cases h0:freeE p.var=0
 ·rw[h0]at HNM
  cases hin:inS ahead p.var with
  |true=>
   have HV:Hid (patE ts known ahead p part=7):=by show _=_;unfold patE;rw[if_neg (by rw[h0];simp),if_pos hin]
   rw[hin]at HLB
   clear h0 hin HTY0 HCN0 HWN HEM
   go_enter Tryd.func35,Tryd.ntmps35
   go_wp2_with (first|(with_reducible (first|(refine wB (L:=[]) M ?_;clear M;intro za w1 M)|(refine wV M ?_;clear M;intro zr w M)|refine wq M ?_|(refine wS M ?_;clear M;intro w M)|refine w_ (q_lookb (TakAt.zero M.at_) hv.out HLB.out ?_)))|(go_at_call 34;with_reducible refine(HNM.out _ M.but).mono ?_;rintro e w5 ⟨rfl,hb5⟩;replace M:=M.below hb5;clear hb5))
   refine q_ret2 M Tryd.results35 (by rfl) ⟨_,Tryd.underlying38,rfl⟩ ?_
   exact ptn_bad M.but M.at_ HV.out (by decide)
  |false=>
   rw[hin]at HLB
   have hV0:patE ts known ahead p part=if ts.length≤typI ts p.type then 6 else if winE part p≠0 then winE part p else if noC p.wher=true then 0 else(condR ts known (typAt ts p.type) 8 p.wher).2:=by
    unfold patE;rw[if_neg (by rw[h0];simp),if_neg (by rw[hin];simp)]
   clear h0 hin
   by_cases ht:typI ts p.type<ts.length
   ·rw[if_neg (by omega)]at hV0
    have HTY:Hid (∀ wx,But zt w0 wx→Calls Tryd.prog 55 #[.pointer (some ⟨zs,0,none⟩),.string p.type] wx fun e w' => ∃ tn a nn c,e= .returned (.tuple #[.agg #[.string tn,.slice a nn c],.int .i64 0])∧Below wx.heap.size wx w' ∧tn=(typAt ts p.type).name∧SlF F w0 2 (plainF fldC) a nn c (typAt ts p.type).fields):=fun wx hb=>
     (HTY0 wx hb).mono (by rintro e w' ⟨tn,a,nn,c,rfl,hb,h⟩;exact⟨tn,a,nn,c,by rw[if_pos ht],hb,h ht⟩)
    have HCN:=Lib.hid (HCN0 ht)
    clear HTY0 HCN0 ht
    by_cases hw:winE part p=0
    ·rw[if_neg (by rw[hw];simp)]at hV0
     rw[hw]at HWN
     cases hn:noC p.wher with
     |true=>
      rw[if_pos hn]at hV0
      rw[hn]at HEM
      have HV:=Lib.hid hV0
      clear hV0 hw hn HCN
      go_enter Tryd.func35,Tryd.ntmps35
      go_wp2_with (first|(with_reducible (first|(refine wB (L:=[]) M ?_;clear M;intro za w1 M)|(refine wV M ?_;clear M;intro zr w M)|refine wq M ?_|(refine wS M ?_;clear M;intro w M)|refine w_ (q_lookb (TakAt.zero M.at_) hv.out HLB.out ?_)|(refine w_ (q_mset (v:= .bool true) rfl (TakAt.zero M.at_) hnt.out hv.out ?_);intro wu hou hbu;replace M:=M.step (TakAt.one (e:=0) hou) hbu;clear hou hbu)))|(go_at_call 34;with_reducible refine(HNM.out _ M.but).mono ?_;rintro e w5 ⟨rfl,hb5⟩;replace M:=M.below hb5;clear hb5)|(go_at_call 55;with_reducible refine(HTY.out _ M.but).mono ?_;rintro e w5 ⟨tn,ta,tnn,tc,rfl,hb5,hty⟩;replace M:=M.below hb5;clear hb5;have HTT:=Lib.hid hty;clear hty)|(go_at_call 56;with_reducible refine(HWN.out _ M.but).mono ?_;rintro e w5 ⟨rfl,hb5⟩;replace M:=M.below hb5;clear hb5)|(go_at_call 57;with_reducible refine(HEM.out _ M.but).mono ?_;rintro e w5 ⟨rfl,hb5⟩;replace M:=M.below hb5;clear hb5))
      refine q_ret2 M Tryd.results35 (by rfl) ⟨_,Tryd.underlying38,rfl⟩ ?_
      exact ptn_end M.but M.at_ HV.out HTT.out
     |false=>
      rw[if_neg (by rw[hn];simp)]at hV0
      rw[hn]at HEM
      have HV:=Lib.hid hV0
      clear hV0 hw hn
      unfold CndPostR at HCN
      generalize condR ts known (typAt ts p.type) 8 p.wher=r at HCN HV
      obtain⟨rk,re⟩:=r
      go_enter Tryd.func35,Tryd.ntmps35
      go_wp2_with (first|(with_reducible (first|(refine wB (L:=[]) M ?_;clear M;intro za w1 M)|(refine wV M ?_;clear M;intro zr w M)|refine wq M ?_|(refine wS M ?_;clear M;intro w M)|refine w_ (q_lookb (TakAt.zero M.at_) hv.out HLB.out ?_)|(refine w_ (q_mset (v:= .bool true) rfl (TakAt.zero M.at_) hnt.out hv.out ?_);intro wu hou hbu;replace M:=M.step (TakAt.one (e:=0) hou) hbu;clear hou hbu)))|(go_at_call 34;with_reducible refine(HNM.out _ M.but).mono ?_;rintro e w5 ⟨rfl,hb5⟩;replace M:=M.below hb5;clear hb5)|(go_at_call 55;with_reducible refine(HTY.out _ M.but).mono ?_;rintro e w5 ⟨tn,ta,tnn,tc,rfl,hb5,hty⟩;replace M:=M.below hb5;clear hb5;have HTT:=Lib.hid hty;clear hty)|(go_at_call 56;with_reducible refine(HWN.out _ M.but).mono ?_;rintro e w5 ⟨rfl,hb5⟩;replace M:=M.below hb5;clear hb5)|(go_at_call 57;with_reducible refine(HEM.out _ M.but).mono ?_;rintro e w5 ⟨rfl,hb5⟩;replace M:=M.below hb5;clear hb5)|(go_at_call 58;with_reducible refine(HCN.out _ _ _ _ HTT.out _ M.but).mono ?_;rintro e w5 ⟨kk,rfl,hb5, -⟩;replace M:=M.below hb5;clear hb5))
      refine q_ret2 M Tryd.results35 (by rfl) ⟨_,Tryd.underlying38,rfl⟩ ?_
      exact ptn_end M.but M.at_ HV.out HTT.out
    ·rw[if_pos hw]at hV0
     have hwb:(winE part p !=0)=true:=by simpa using hw
     have HW:=Lib.hid hw
     have HV:=Lib.hid hV0
     generalize winE part p=we at HWN HV hwb HW
     clear hV0 hw HCN HEM
     go_enter Tryd.func35,Tryd.ntmps35
     go_wp2_with (first|(with_reducible (first|(refine wB (L:=[]) M ?_;clear M;intro za w1 M)|(refine wV M ?_;clear M;intro zr w M)|refine wq M ?_|(refine wS M ?_;clear M;intro w M)|refine w_ (q_lookb (TakAt.zero M.at_) hv.out HLB.out ?_)|(refine w_ (q_mset (v:= .bool true) rfl (TakAt.zero M.at_) hnt.out hv.out ?_);intro wu hou hbu;replace M:=M.step (TakAt.one (e:=0) hou) hbu;clear hou hbu)))|(go_at_call 34;with_reducible refine(HNM.out _ M.but).mono ?_;rintro e w5 ⟨rfl,hb5⟩;replace M:=M.below hb5;clear hb5)|(go_at_call 55;with_reducible refine(HTY.out _ M.but).mono ?_;rintro e w5 ⟨tn,ta,tnn,tc,rfl,hb5,hty⟩;replace M:=M.below hb5;clear hb5;have HTT:=Lib.hid hty;clear hty)|(go_at_call 56;with_reducible refine(HWN.out _ M.but).mono ?_;rintro e w5 ⟨rfl,hb5⟩;replace M:=M.below hb5;clear hb5))
     refine q_ret2 M Tryd.results35 (by rfl) ⟨_,Tryd.underlying38,rfl⟩ ?_
     exact ptn_bad M.but M.at_ HV.out HW.out
   ·rw[if_pos (by omega)]at hV0
    have HTY:Hid (∀ wx,But zt w0 wx→Calls Tryd.prog 55 #[.pointer (some ⟨zs,0,none⟩),.string p.type] wx fun e w' => ∃ tn a nn c,e= .returned (.tuple #[.agg #[.string tn,.slice a nn c],.int .i64 6])∧Below wx.heap.size wx w' ∧True):=fun wx hb=>
     (HTY0 wx hb).mono (by rintro e w' ⟨tn,a,nn,c,rfl,hb,h⟩;exact⟨tn,a,nn,c,by rw[if_neg ht],hb,trivial⟩)
    have HV:=Lib.hid hV0
    clear hV0 ht HTY0 HCN0 HWN HEM
    go_enter Tryd.func35,Tryd.ntmps35
    go_wp2_with (first|(with_reducible (first|(refine wB (L:=[]) M ?_;clear M;intro za w1 M)|(refine wV M ?_;clear M;intro zr w M)|refine wq M ?_|(refine wS M ?_;clear M;intro w M)|refine w_ (q_lookb (TakAt.zero M.at_) hv.out HLB.out ?_)|(refine w_ (q_mset (v:= .bool true) rfl (TakAt.zero M.at_) hnt.out hv.out ?_);intro wu hou hbu;replace M:=M.step (TakAt.one (e:=0) hou) hbu;clear hou hbu)))|(go_at_call 34;with_reducible refine(HNM.out _ M.but).mono ?_;rintro e w5 ⟨rfl,hb5⟩;replace M:=M.below hb5;clear hb5)|(go_at_call 55;with_reducible refine(HTY.out _ M.but).mono ?_;rintro e w5 ⟨tn,ta,tnn,tc,rfl,hb5,hty⟩;replace M:=M.below hb5;clear hb5;have HTT:=Lib.hid hty;clear hty))
    refine q_ret2 M Tryd.results35 (by rfl) ⟨_,Tryd.underlying38,rfl⟩ ?_
    exact ptn_bad M.but M.at_ HV.out (by decide)
 ·have HV:Hid (patE ts known ahead p part=freeE p.var):=by show _=_;unfold patE;rw[if_pos h0]
  have hb:(freeE p.var !=0)=true:=by simpa using h0
  have HE0:=Lib.hid h0
  generalize freeE p.var=fe at HNM HV hb HE0
  clear h0 HTY0 HCN0 HWN HEM HLB
  go_enter Tryd.func35,Tryd.ntmps35
  go_wp2_with (first|(with_reducible (first|(refine wB (L:=[]) M ?_;clear M;intro za w1 M)|(refine wV M ?_;clear M;intro zr w M)|refine wq M ?_|(refine wS M ?_;clear M;intro w M)))|(go_at_call 34;with_reducible refine(HNM.out _ M.but).mono ?_;rintro e w5 ⟨rfl,hb5⟩;replace M:=M.below hb5;clear hb5))
  refine q_ret2 M Tryd.results35 (by rfl) ⟨_,Tryd.underlying38,rfl⟩ ?_
  exact ptn_bad M.but M.at_ HV.out HE0.out
end
end Go.Proofs.YtcebfkdhicbmkaaDoor
/-
  The walks of the program's Check, sixth part: links; fields that are summed up. Printed by pgf.py.
-/
namespace Go.Proofs.YtcebfkdhicbmkaaDoor
open Go.RowKit
set_option linter.unusedVariables false
set_option linter.unusedSimpArgs false

instance : StI Tryd.prog 78 3 := ⟨stOpt⟩
section
variable {g : Nat} {F G : Nat → Prop} {ao : Option Addr} {n cap : Nat} {w0 : World}
set_option maxRecDepth 8000 in
set_option maxHeartbeats 4000000 in
theorem linkIn_any (hg : g < w0.heap.size) {l : List Pat} (hX : SlF F w0 18 patF ao n cap l) (nm : ByteArray) :
    Calls Tryd.prog 60 #[.slice ao n cap, .string nm] w0 fun e w' => e = .returned (.bool (hasP l nm)) ∧ Below w0.heap.size w0 w' := by
  have NL := Lib.hid hX.len
  have hle := hX.le
  have M := Mem.begin hg ⟨0, 0⟩
  have HX := Lib.hid hX
  clear hX hg
  go_enter Tryd.func60, Tryd.ntmps60
  go_wp2_with (with_reducible (first | refine wq M ?_ | (refine wS M ?_; clear M; intro w M) | (refine wV M ?_; clear M; intro z w M) | (refine wR M ?_; clear M; intro q w M)))
  go_loopg [9] n (fun f i wr => ∃ k : Nat, k + f = n ∧ i = .int .i64 k ∧ Mem (StaysB g w0) g w0 wr ⟨0, 0⟩ [] ∧ Hid (NoB l (fun t => sameS t.var nm) k))
  case atStart => exact ⟨0, by omega, rfl, M, noB_zero _ _⟩
  case round =>
    clear M
    obtain ⟨k, hk, rfl, M, HB⟩ := hrel
    by_cases hlt : k < n
    · have hkl : k < l.length := by have := NL.out; omega
      obtain ⟨ca, oa, rowa, hixa, -, hrra, hwa⟩ := SlF.rowAt (P := Tryd.prog) HX.out patF_firm Tryd.underlying43 size_pat (i := k) hkl
      obtain ⟨p1, q1, s1, ea, u1⟩ := patF.open18 hrra
      subst ea
      have HR := Lib.hid (fun wx hb => (hwa wx hb).1)
      have HP : Hid (∀ b, sameS l[k].var nm = b → (l[k].var.toList == nm.toList) = b) := fun b h => h
      have HS : Hid (sameS l[k].var nm = true → hasP l nm = true) := fun h => by
        have e : patI l nm = k := noB_at HB.out hkl h
        unfold hasP
        rw [e]
        simpa using hkl
      have HT : Hid (sameS l[k].var nm = false → NoB l (fun t => sameS t.var nm) (k + 1)) := fun h => noB_succ HB.out hkl h
      clear hwa u1 HB
      unfold pat18 at HR
      generalize l[k] = p at HR HP HS HT
      cases hsm : sameS p.var nm with
      | true =>
        have hq := HP.out _ hsm
        have HV := Lib.hid (HS.out hsm)
        clear HP HS HT hsm
        go_wp2_with (with_reducible (first | (refine wV M ?_; clear M; intro zx w M) | refine wq M ?_ | (refine wS M ?_; clear M; intro w M) | refine wA (HR.out _ M.new) ?_))
        go_ret
        rw [HV.out]
        exact ⟨rfl, M.new⟩
      | false =>
        have hq := HP.out _ hsm
        have HV := Lib.hid (HT.out hsm)
        clear HP HS HT hsm
        go_wp2_with (with_reducible (first | (refine wV M ?_; clear M; intro zx w M) | refine wq M ?_ | (refine wS M ?_; clear M; intro w M) | refine wA (HR.out _ M.new) ?_))
        go_roundg (n - (k + 1))
        case measure => omega
        case rel => exact ⟨k + 1, by omega, by go_num, M.drop, HV⟩
    · have HV : Hid (hasP l nm = false) := by
        have e : k = l.length := by have := NL.out; omega
        have h : patI l nm = l.length := noB_none (e ▸ HB.out)
        show _ = _
        unfold hasP
        rw [h]
        simp
      go_wp2_with (with_reducible (first | refine wq M ?_ | (refine wS M ?_; clear M; intro w M) | (refine wV M ?_; clear M; intro z w M) | (refine wR M ?_; clear M; intro q w M)))
      go_ret
      rw [HV.out]
      exact ⟨rfl, M.new⟩
/-- Variables of whens and nots are apart. -/
def Apart (x : Rul) : Prop := ∀ nm, hasP x.whens nm = true → hasP x.nots nm = false
set_option maxRecDepth 8000 in
set_option maxHeartbeats 8000000 in
theorem link_any (hg : g < w0.heap.size) (x : Rul) (row : List Value) (h : rulF F w0 row x) (k : Lnk) (oo : Option Addr) (on ocap : Nat) (hO : SlF G w0 3 (plainF optC) oo on ocap k.opts) (hap : Apart x) :
    Calls Tryd.prog 37 #[.agg row.toArray, .agg (lnkC k oo on ocap).toArray] w0 fun e w' => e = .returned (.int .i64 (linkE x k)) ∧ Below w0.heap.size w0 w' := by
  obtain ⟨a1, n1, c1, a2, n2, c2, a3, n3, c3, a4, n4, c4, a6, n6, c6, rfl, X1, X2, X3, X4, X6⟩ := h
  have M := Mem.begin hg ⟨0, 0⟩
  have HA := Lib.hid (fun wx (hb : Below w0.heap.size w0 wx) => linkIn_any (Nat.lt_of_lt_of_le hg hb.size) (X1.below patF_firm hb) k.left)
  have HB := Lib.hid (fun wx (hb : Below w0.heap.size w0 wx) => linkIn_any (Nat.lt_of_lt_of_le hg hb.size) (X2.below patF_firm hb) k.left)
  have HC := Lib.hid (fun wx (hb : Below w0.heap.size w0 wx) => linkIn_any (Nat.lt_of_lt_of_le hg hb.size) (X1.below patF_firm hb) k.right)
  have HD := Lib.hid (fun wx (hb : Below w0.heap.size w0 wx) => linkIn_any (Nat.lt_of_lt_of_le hg hb.size) (X2.below patF_firm hb) k.right)
  have hST : ∀ b, sameS k.left k.right = b → (k.left.toList == k.right.toList) = b := fun b h => h
  have hab := hap k.left
  have hcd := hap k.right
  have HL := Lib.hid (linkE_eq x k)
  have hleO := hO.le
  have NO := Lib.hid hO.len
  have HOO := Lib.hid hO
  unfold rulC lnkC
  generalize hasP x.whens k.left = A1 at HA hab HL
  generalize hasP x.nots k.left = B at HB hab HL
  generalize hasP x.whens k.right = C at HC hcd HL
  generalize hasP x.nots k.right = D at HD hcd HL
  have i0 : ∀ w, (Instr.index 122 (.agg #[.string k.left, .string k.right]) (.int .i64 0)).run Tryd.prog w = .ok (.string k.left) w := fun _ => by kernel_rfl
  have i1 : ∀ w, (Instr.index 122 (.agg #[.string k.left, .string k.right]) (.int .i64 1)).run Tryd.prog w = .ok (.string k.right) w := fun _ => by kernel_rfl
  clear hg hO X1 X2 X3 X4 X6 hap
  replace hST := Lib.hid hST
  replace hab := Lib.hid hab
  replace hcd := Lib.hid hcd
  go_enter Tryd.func37, Tryd.ntmps37
  go_wp2_with (with_reducible (first | (refine wB (L := []) M ?_; clear M; intro za w1 M) | (refine wB M ?_; clear M; intro zb w2 M) | refine wq M ?_))
  go_loopg [16] 2 (fun f i wr => ∃ j : Nat, j + f = 2 ∧ i = .int .i64 j ∧ Mem (StaysB g w0) g w0 wr ⟨0, 0⟩ (own zb [.string k.left, .slice oo on ocap, .string k.right] 76 :: own za [.string x.name, .slice a1 n1 c1, .slice a2 n2 c2, .slice a3 n3 c3, .slice a4 n4 c4, .string x.etype, .slice a6 n6 c6] 50 :: []) ∧ Hid ((1 ≤ j → (A1 || B) = true) ∧ (2 ≤ j → (C || D) = true)))
  case atStart => exact ⟨0, by omega, rfl, M, fun h => absurd h (by omega), fun h => absurd h (by omega)⟩
  case round =>
    clear M
    obtain ⟨j, hj, rfl, M, HJ⟩ := hrel
    rcases (by omega : j = 0 ∨ j = 1 ∨ j = 2) with rfl | rfl | rfl
    · clear HJ
      cases A1 <;> cases B
      all_goals first
        | (have HV : Hid (linkE x k = 6) := by show _ = _; rw [HL.out]; unfold linkC1; simp
           clear HL hab hcd hST
           go_wp2_with (first | (with_reducible refine wq M ?_) | (go_at_call 60; with_reducible refine (HA.out _ M.new).mono ?_; rintro e w5 ⟨rfl, hb5⟩; replace M := M.below hb5; clear hb5) | (go_at_call 60; with_reducible refine (HB.out _ M.new).mono ?_; rintro e w5 ⟨rfl, hb5⟩; replace M := M.below hb5; clear hb5))
           go_ret
           rw [HV.out]
           exact ⟨rfl, M.new⟩)
        | (go_wp2_with (first | (with_reducible refine wq M ?_) | (go_at_call 60; with_reducible refine (HA.out _ M.new).mono ?_; rintro e w5 ⟨rfl, hb5⟩; replace M := M.below hb5; clear hb5) | (go_at_call 60; with_reducible refine (HB.out _ M.new).mono ?_; rintro e w5 ⟨rfl, hb5⟩; replace M := M.below hb5; clear hb5))
           go_roundg 1
           case measure => omega
           case rel => exact ⟨1, by omega, by go_num, M, fun _ => rfl, fun h => absurd h (by omega)⟩)
    · have HJ1 := Lib.hid (HJ.out.1 (by omega))
      clear HJ
      cases C <;> cases D
      all_goals first
        | (have HV : Hid (linkE x k = 6) := by show _ = _; rw [HL.out]; unfold linkC1; simp
           clear HL hab hcd hST
           go_wp2_with (first | (with_reducible refine wq M ?_) | (go_at_call 60; with_reducible refine (HC.out _ M.new).mono ?_; rintro e w5 ⟨rfl, hb5⟩; replace M := M.below hb5; clear hb5) | (go_at_call 60; with_reducible refine (HD.out _ M.new).mono ?_; rintro e w5 ⟨rfl, hb5⟩; replace M := M.below hb5; clear hb5))
           go_ret
           rw [HV.out]
           exact ⟨rfl, M.new⟩)
        | (go_wp2_with (first | (with_reducible refine wq M ?_) | (go_at_call 60; with_reducible refine (HC.out _ M.new).mono ?_; rintro e w5 ⟨rfl, hb5⟩; replace M := M.below hb5; clear hb5) | (go_at_call 60; with_reducible refine (HD.out _ M.new).mono ?_; rintro e w5 ⟨rfl, hb5⟩; replace M := M.below hb5; clear hb5))
           go_roundg 0
           case measure => omega
           case rel => exact ⟨2, by omega, by go_num, M, fun _ => HJ1.out, fun _ => rfl⟩)
    · have hJ := HJ.out
      have hj1 := hJ.1 (by omega)
      have hj2 := hJ.2 (by omega)
      have hq := hab.out
      have hr := hcd.out
      have hC1 : linkC1 A1 B C D = false := by revert hj1 hj2; cases A1 <;> cases B <;> cases C <;> cases D <;> decide
      have hC2 : linkC2 (sameS k.left k.right) A1 C = (sameS k.left k.right || (B && D)) := by
        unfold linkC2
        revert hj1 hj2 hq hr
        cases A1 <;> cases B <;> cases C <;> cases D <;> simp
      have HL2 : Hid (linkE x k = if (sameS k.left k.right || (B && D)) = true then 4 else if k.opts.length < 1 ∨ 6 < k.opts.length then 1
          else firstN (fun i => optE (k.opts.getD i ⟨0, 0, 0⟩).rel (k.opts.getD i ⟨0, 0, 0⟩).lo (k.opts.getD i ⟨0, 0, 0⟩).hi) k.opts.length) := by
        show _ = _
        rw [HL.out, hC1, hC2, if_neg (by simp)]
      clear HL HJ hJ hj1 hj2 hq hr hC1 hC2 hab hcd
      generalize hS : sameS k.left k.right = S at HL2
      have hs0 := hST.out _ hS
      clear hST hS
      cases S with
      | true =>
        have HV : Hid (linkE x k = 4) := by show _ = _; rw [HL2.out]; rfl
        clear HL2
        go_wp2_with (with_reducible refine wq M ?_)
        go_ret
        rw [HV.out]
        exact ⟨rfl, M.new⟩
      | false =>
        cases hBD : (B && D) with
        | true =>
          have HV : Hid (linkE x k = 4) := by show _ = _; rw [HL2.out, hBD]; rfl
          have hb1 : B = true := by revert hBD; cases B <;> simp
          have hd1 : D = true := by revert hBD; cases D <;> simp
          subst hb1 hd1
          clear HL2 hBD
          go_wp2_with (first | (with_reducible refine wq M ?_) | (go_at_call 60; with_reducible refine (HB.out _ M.new).mono ?_; rintro e w5 ⟨rfl, hb5⟩; replace M := M.below hb5; clear hb5) | (go_at_call 60; with_reducible refine (HD.out _ M.new).mono ?_; rintro e w5 ⟨rfl, hb5⟩; replace M := M.below hb5; clear hb5))
          go_ret
          rw [HV.out]
          exact ⟨rfl, M.new⟩
        | false =>
          have HL3 : Hid (linkE x k = if k.opts.length < 1 ∨ 6 < k.opts.length then 1
              else firstN (fun i => optE (k.opts.getD i ⟨0, 0, 0⟩).rel (k.opts.getD i ⟨0, 0, 0⟩).lo (k.opts.getD i ⟨0, 0, 0⟩).hi) k.opts.length) := by
            show _ = _
            rw [HL2.out, hBD]
            rfl
          clear HL2
          have hBD := Lib.hid hBD
          go_upto_region 8 with (with_reducible (first | refine wq M ?_ | (refine wS M ?_; clear M; intro w M) | (refine wV M ?_; clear M; intro z w M) | (refine wR M ?_; clear M; intro q w M)))
          go_cut [54] (fun v wx => v = .bool false ∧ Mem (StaysB g w0) g w0 wx ⟨0, 0⟩ (own zb [.string k.left, .slice oo on ocap, .string k.right] 76 :: own za [.string x.name, .slice a1 n1 c1, .slice a2 n2 c2, .slice a3 n3 c3, .slice a4 n4 c4, .string x.etype, .slice a6 n6 c6] 50 :: []))
          case first =>
            have hbd := hBD.out
            clear hBD HL3
            cases B <;> cases D
            all_goals first
              | (exfalso; revert hbd; decide)
              | (clear hbd
                 go_wp2_with (first | (with_reducible refine wq M ?_) | (go_at_call 60; with_reducible refine (HB.out _ M.new).mono ?_; rintro e w5 ⟨rfl, hb5⟩; replace M := M.below hb5; clear hb5) | (go_at_call 60; with_reducible refine (HD.out _ M.new).mono ?_; rintro e w5 ⟨rfl, hb5⟩; replace M := M.below hb5; clear hb5))
                 go_meet
                 case rel => exact ⟨rfl, M⟩)
          case rest =>
          clear M
          obtain ⟨rfl, M⟩ := hcut
          by_cases hl : k.opts.length < 1 ∨ 6 < k.opts.length
          · have HV : Hid (linkE x k = 1) := by show _ = _; rw [HL3.out, if_pos hl]
            clear HL3
            by_cases hl1 : on < 1
            · have d1 : decide ((on : Int) < 1) = true := by simp; omega
              clear hl hl1
              go_wp2_with (with_reducible refine wq M ?_)
              go_ret
              rw [HV.out]
              exact ⟨rfl, M.new⟩
            · have d1 : decide ((on : Int) < 1) = false := by simp; omega
              have d2 : decide ((6 : Int) < on) = true := by have := NO.out; simp; omega
              clear hl hl1
              go_wp2_with (with_reducible refine wq M ?_)
              go_ret
              rw [HV.out]
              exact ⟨rfl, M.new⟩
          · have HL4 := Lib.hid (HL3.out.trans (if_neg hl))
            have d1 : decide ((on : Int) < 1) = false := by have := NO.out; simp; omega
            have d2 : decide ((6 : Int) < on) = false := by have := NO.out; simp; omega
            have HF : Hid (∀ i, i < k.opts.length → (fun i => optE (k.opts.getD i ⟨0, 0, 0⟩).rel (k.opts.getD i ⟨0, 0, 0⟩).lo (k.opts.getD i ⟨0, 0, 0⟩).hi) i = optE (k.opts.getD i ⟨0, 0, 0⟩).rel (k.opts.getD i ⟨0, 0, 0⟩).lo (k.opts.getD i ⟨0, 0, 0⟩).hi) := fun i _ => rfl
            generalize (fun i => optE (k.opts.getD i ⟨0, 0, 0⟩).rel (k.opts.getD i ⟨0, 0, 0⟩).lo (k.opts.getD i ⟨0, 0, 0⟩).hi) = f at HF HL4
            clear HL3 hl hBD
            go_wp2_with (with_reducible refine wq M ?_)
            go_loopg [68] on (fun fu i wr => ∃ j : Nat, j + fu = on ∧ i = .int .i64 j ∧ Mem (StaysB g w0) g w0 wr ⟨0, 0⟩ (own zb [.string k.left, .slice oo on ocap, .string k.right] 76 :: own za [.string x.name, .slice a1 n1 c1, .slice a2 n2 c2, .slice a3 n3 c3, .slice a4 n4 c4, .string x.etype, .slice a6 n6 c6] 50 :: []) ∧ Hid (AllZ f j))
            case atStart => exact ⟨0, by omega, rfl, M, allZ_zero _⟩
            case round =>
              clear M
              obtain ⟨j, hj, rfl, M, HZ⟩ := hrel
              by_cases hlt : j < on
              · have hkl : j < k.opts.length := by have := NO.out; omega
                obtain ⟨ca, oa, rowa, hixa, -, hrra, hwa⟩ := SlF.rowAt (P := Tryd.prog) HOO.out (plainF_firm _) Tryd.underlying74 size_opt (i := j) hkl
                have e1 : rowa = optC k.opts[j] := hrra
                subst e1
                have HR := Lib.hid (fun wx hb => (hwa wx hb).1)
                have hfj : f j = optE k.opts[j].rel k.opts[j].lo k.opts[j].hi := by rw [HF.out j hkl, List.getD_eq_getElem?_getD, List.getElem?_eq_getElem hkl]; rfl
                have HO : Hid (∀ wx, Below w0.heap.size w0 wx → Calls Tryd.prog 61 #[.agg #[.int .i64 k.opts[j].rel, .int .i64 k.opts[j].lo, .int .i64 k.opts[j].hi]] wx fun e w' => e = .returned (.int .i64 (f j)) ∧ Below wx.heap.size wx w') := fun wx hb => by rw [hfj]; exact optCheck_any _ _ _ wx
                have HV : Hid (f j ≠ 0 → linkE x k = f j) := fun h => HL4.out.trans (firstN_at HZ.out hkl h)
                have HW : Hid (f j = 0 → AllZ f (j + 1)) := fun h => allZ_succ HZ.out h
                clear hwa hrra hfj HZ
                generalize k.opts[j] = o at HR HO
                unfold optC at HR
                generalize f j = q at HO HV HW
                by_cases hq : q = 0
                · subst hq
                  have HZ2 := Lib.hid (HW.out rfl)
                  clear HV HW
                  go_wp2_with (first | (with_reducible (first | (refine wV M ?_; clear M; intro zx w M) | refine wq M ?_ | (refine wS M ?_; clear M; intro w M) | refine wA (HR.out _ M.new) ?_)) | (go_at_call 61; with_reducible refine (HO.out _ M.new).mono ?_; rintro e w5 ⟨rfl, hb5⟩; replace M := M.below hb5; clear hb5))
                  go_roundg (on - (j + 1))
                  case measure => omega
                  case rel => exact ⟨j + 1, by omega, by go_num, M.drop, HZ2⟩
                · have hqb : (q != 0) = true := by simpa using hq
                  have HE := Lib.hid (HV.out hq)
                  clear HV HW hq
                  go_wp2_with (first | (with_reducible (first | (refine wV M ?_; clear M; intro zx w M) | refine wq M ?_ | (refine wS M ?_; clear M; intro w M) | refine wA (HR.out _ M.new) ?_)) | (go_at_call 61; with_reducible refine (HO.out _ M.new).mono ?_; rintro e w5 ⟨rfl, hb5⟩; replace M := M.below hb5; clear hb5))
                  go_ret
                  rw [HE.out]
                  exact ⟨rfl, M.new⟩
              · have HE : Hid (linkE x k = 0) := by
                  have e : j = k.opts.length := by have := NO.out; omega
                  exact HL4.out.trans (firstN_zero (e ▸ HZ.out))
                go_wp2_with (with_reducible (first | refine wq M ?_ | (refine wS M ?_; clear M; intro w M) | (refine wV M ?_; clear M; intro z w M) | (refine wR M ?_; clear M; intro q w M)))
                go_ret
                rw [HE.out]
                exact ⟨rfl, M.new⟩
set_option maxRecDepth 8000 in
set_option maxHeartbeats 4000000 in
theorem summed_any (hg : g < w0.heap.size) (t : Typ) {oo : Option Addr} {k ocap : Nat} (hO : SlF F w0 2 (plainF fldC) oo k ocap t.fields) (ht : TypGood t) (fd : ByteArray) :
    Calls Tryd.prog 36 #[.agg #[.string t.name, .slice oo k ocap], .string fd] w0 fun e w' => e = .returned (.int .i64 (sumE t fd)) ∧ Below w0.heap.size w0 w' := by
  have M := Mem.begin hg ⟨0, 0⟩
  have HFD : Hid (∀ wx, Below w0.heap.size w0 wx → Calls Tryd.prog 59 #[.agg #[.string t.name, .slice oo k ocap], .string fd] wx fun e w' => e = .returned (.tuple #[.int .i64 (fieldX t.name t.fields fd), .int .i64 (fieldK t.name t.fields fd), .int .i64 (fieldE t.name t.fields fd)]) ∧ Below wx.heap.size wx w') := fun wx hbx =>
    field_any t.name oo k ocap t.fields fd wx ht.1.1 (fld_R (hO.below (plainF_firm _) hbx) ht.1.2)
  have hfe : fieldE t.name t.fields fd = if fldAt t.fields fd < t.fields.length then 0 else 6 := by unfold fieldE; rw [if_pos ht.2]
  generalize fieldX t.name t.fields fd = fx at HFD
  cases hem : emS fd with
  | true =>
    have HV : Hid (sumE t fd = 0) := by show _ = _; unfold sumE; rw [if_pos hem]
    have hf : fd.toList = [] := by simpa [emS] using hem
    clear hg hO ht HFD hem hfe
    go_enter Tryd.func36, Tryd.ntmps36
    go_wp2_with (with_reducible (refine wB (L := []) M ?_; clear M; intro za w1 M))
    go_ret
    rw [HV.out]
    exact ⟨rfl, M.new⟩
  | false =>
    have hf : fd.toList.isEmpty = false := hem
    by_cases hl : fldAt t.fields fd < t.fields.length
    · have hk : fieldK t.name t.fields fd = (t.fields.getD (fldAt t.fields fd) default).kind := by unfold fieldK; rw [hfe, if_pos hl, if_pos rfl]
      have HV : Hid (sumE t fd = if (t.fields.getD (fldAt t.fields fd) default).kind = 1 then 0 else 13) := by show _ = _; unfold sumE; rw [hem, if_neg (by simp), if_pos hl]
      rw [hfe, if_pos hl, hk] at HFD
      generalize (t.fields.getD (fldAt t.fields fd) default).kind = kd at HFD HV
      by_cases h1 : kd = 1
      · have hb : (kd != 1) = false := by simpa using h1
        have HV2 := Lib.hid (HV.out.trans (if_pos h1))
        clear hg hO ht hem hfe hl hk HV h1
        go_enter Tryd.func36, Tryd.ntmps36
        go_wp2_with (first | (with_reducible (first | (refine wB (L := []) M ?_; clear M; intro za w1 M) | refine wq M ?_)) | (go_at_call 59; with_reducible refine (HFD.out _ M.new).mono ?_; rintro e w5 ⟨rfl, hb5⟩; replace M := M.below hb5; clear hb5))
        go_ret
        rw [HV2.out]
        exact ⟨rfl, M.new⟩
      · have hb : (kd != 1) = true := by simpa using h1
        have HV2 := Lib.hid (HV.out.trans (if_neg h1))
        clear hg hO ht hem hfe hl hk HV h1
        go_enter Tryd.func36, Tryd.ntmps36
        go_wp2_with (first | (with_reducible (first | (refine wB (L := []) M ?_; clear M; intro za w1 M) | refine wq M ?_)) | (go_at_call 59; with_reducible refine (HFD.out _ M.new).mono ?_; rintro e w5 ⟨rfl, hb5⟩; replace M := M.below hb5; clear hb5))
        go_ret
        rw [HV2.out]
        exact ⟨rfl, M.new⟩
    · have HV : Hid (sumE t fd = 6) := by show _ = _; unfold sumE; rw [hem, if_neg (by simp), if_neg hl]
      rw [hfe, if_neg hl] at HFD
      generalize fieldK t.name t.fields fd = kd at HFD
      clear hg hO ht hem hfe hl
      go_enter Tryd.func36, Tryd.ntmps36
      go_wp2_with (first | (with_reducible (first | (refine wB (L := []) M ?_; clear M; intro za w1 M) | refine wq M ?_)) | (go_at_call 59; with_reducible refine (HFD.out _ M.new).mono ?_; rintro e w5 ⟨rfl, hb5⟩; replace M := M.below hb5; clear hb5))
      go_ret
      rw [HV.out]
      exact ⟨rfl, M.new⟩
end
end Go.Proofs.YtcebfkdhicbmkaaDoor
