/-
  The walks of join.CheckEvents and of its reference. Printed by jow.py.
-/
import Derived.Test.YtfahleafppfkaaaGreatDoorWf07
import Derived.Test.YtfahleafppfkaaaGreatDoorWf26
namespace Go.Proofs.YtfahleafppfkaaaGreatDoor
open Go.RowKit
set_option linter.unusedVariables false
set_option linter.unusedSimpArgs false
theorem eves_book{b:Bok}{l:List Eve}(h:bookE b≠0):eventsE b l=bookE b:=by unfold eventsE;rw[if_pos h]
theorem eves_size{b:Bok}{l:List Eve}(h:bookE b=0)(h2:120<l.length):eventsE b l=1:=by unfold eventsE;rw[if_neg (by rw[h];simp),if_pos h2]
theorem eves_at{b:Bok}{l:List Eve}(h:bookE b=0)(h2: ¬ 120<l.length){j:Nat}(hz:AllZ (evesE b.types l) j)(hj:j<l.length){e:Int}(he:evesE b.types l j=e)(hn:e≠0):eventsE b l=e:=by
 unfold eventsE;rw[if_neg (by rw[h];simp),if_neg h2,firstN_at hz hj (by rw[he];exact hn),he]
theorem eves_none{b:Bok}{l:List Eve}(h:bookE b=0)(h2: ¬ 120<l.length)(hz:AllZ (evesE b.types l) l.length):eventsE b l=0:=by
 unfold eventsE;rw[if_neg (by rw[h];simp),if_neg h2,firstN_zero hz]
theorem getD_at{α:Type}[Inhabited α]{l:List α}{j:Nat}(h:j<l.length):l.getD j default=l[j]:=by simp[List.getD,List.getElem?_eq_getElem h]
theorem eves_zero{ts:List Typ}{l:List Eve}(h:0<l.length):evesE ts l 0=eventE ts l[0].e l[0].vals:=by
 unfold evesE
 rw[getD_at h]
 split
 ·rfl
 ·rename_i hz
  simp at hz
  simp[hz]
theorem eves_pre{ts:List Typ}{l:List Eve}{j:Nat}(h:j<l.length)(hp:j - 1<l.length)(h0:0<j):evesE ts l j=if eventE ts l[j].e l[j].vals≠0 then eventE ts l[j].e l[j].vals else if l[j].e.number≤l[j - 1].e.number∨l[j].e.stop<l[j - 1].e.stop then 9 else 0:=by
 unfold evesE
 rw[getD_at h,getD_at hp]
 simp[h0]
theorem eves_fault{ts:List Typ}{l:List Eve}{j:Nat}(h:j<l.length)(hn:eventE ts l[j].e l[j].vals≠0):evesE ts l j=eventE ts l[j].e l[j].vals:=by
 unfold evesE
 rw[getD_at h,if_pos hn]
section
variable {g:Nat} {F F3:Nat→Prop} {w0:World}
set_option maxRecDepth 8000 in
set_option maxHeartbeats 16000000 in
theorem checkEvents_any(hg:g<w0.heap.size)(E:Env F w0)(hF: ∀ b,F b→b<w0.heap.size)(b:Bok)(a1:Option Addr)(n1 c1:Nat)(a2:Option Addr)(n2 c2:Nat)(X1:SlF F w0 2 typF a1 n1 c1 b.types)(X2:SlF F w0 7 rulF a2 n2 c2 b.rules)(hts: ∀ t∈b.types,typOk t)(hrs: ∀ x∈b.rules,RulFit x)(hes: ∀ x∈b.rules,x.etype.size≤maxLen)(a3:Option Addr)(n3 c3:Nat)(l:List Eve)(X3:SlF F3 w0 5 eveF a3 n3 c3 l)(hls: ∀ x∈l,eveOk x):Calls Tryz.prog 18 #[.agg #[.slice a1 n1 c1,.slice a2 n2 c2],.slice a3 n3 c3] w0 fun e w' =>e= .returned (.int .i64 (eventsE b l))∧Below w0.heap.size w0 w' :=by
 have M:=Mem.begin hg ⟨0,0⟩
 have N3:=Lib.hid X3.len
 have hle3:=X3.le
 have HC:Hid (∀ wx,Below w0.heap.size w0 wx→Calls Tryz.prog 28 #[.agg #[.slice a1 n1 c1,.slice a2 n2 c2]] wx fun e w' =>e= .returned (.int .i64 (bookE b))∧Below wx.heap.size wx w'):=fun wx hb=>check_any (E.below hb).lt (E.below hb) (fun k hk=>Nat.lt_of_lt_of_le (hF k hk) hb.size) b a1 n1 c1 a2 n2 c2 (X1.below typF_firm hb) (X2.below rulF_firm hb) hts hrs hes
 have HT:=Lib.hid (fun wx (hb:Below w0.heap.size w0 wx)=>typ_R (X1.below typF_firm hb) hts)
 by_cases hb0:bookE b=0
 ·rw[hb0]at HC
  by_cases h120:120<n3
  ·have HV:Hid (eventsE b l=1):=eves_size hb0 (by have:=N3.out;omega)
   have d1:decide ((120:Int)<n3)=true:=by simp;omega
   clear hb0 h120 X1 X2 X3 hts hrs hes hls hg hF E HT
   go_enter Tryz.func18,Tryz.ntmps18
   go_wp2_with (first|(with_reducible (first|(refine wB (L:=[]) M ?_;clear M;intro za w1 M)|refine wq M ?_))|(go_at_call 28;with_reducible refine(HC.out _ M.new).mono ?_;rintro e w5 ⟨rfl,hb5⟩;replace M:=M.below hb5;clear hb5))
   go_ret
   rw[HV.out]
   exact⟨rfl,M.new⟩
  ·have d1:decide ((120:Int)<n3)=false:=by simp;omega
   have HB0:=Lib.hid hb0
   have H12:Hid (¬ 120<l.length):=by have:=N3.out;show ¬ _;omega
   have HLS:=Lib.hid hls
   have HX3:=Lib.hid X3
   clear hb0 X1 X2 X3 hts hrs hes hls hg hF E
   go_enter Tryz.func18,Tryz.ntmps18
   go_wp2_with (first|(with_reducible (first|(refine wB (L:=[]) M ?_;clear M;intro za w1 M)|refine wq M ?_))|(go_at_call 28;with_reducible refine(HC.out _ M.new).mono ?_;rintro e w5 ⟨rfl,hb5⟩;replace M:=M.below hb5;clear hb5))
   go_loopg [19] n3 (fun f i wr=> ∃ (j:Nat),j+f=n3∧i= .int .i64 j∧Mem (StaysB g w0) g w0 wr ⟨0,0⟩ (own za [.slice a1 n1 c1,.slice a2 n2 c2] 25::[])∧Hid (AllZ (evesE b.types l) j))
   case atStart=>exact⟨0,by omega,rfl,M,allZ_zero _⟩
   case round=>
    clear M
    obtain⟨j,hj,rfl,M,HZ⟩:=hrel
    by_cases hlt:j<n3
    ·have hkl:j<l.length:=by have:=N3.out;omega
     obtain⟨ct,ot,rowt,hixt, -,hrrt,hwt⟩:=SlF.rowAt (P:=Tryz.prog) HX3.out eveF_firm Tryz.underlying26 size_eve (i:=j) hkl
     obtain⟨p1,q1,s1,et,ut⟩:=hrrt
     subst et
     have HR:=Lib.hid (fun wx hb=>(hwt wx hb).1)
     have hto:=HLS.out _ (List.getElem_mem hkl)
     have HEV:Hid (∀ wx,Below w0.heap.size w0 wx→Calls Tryz.prog 23 #[.slice a1 n1 c1,.agg #[.int .i64 l[j].e.number,.int .i64 l[j].e.type,.int .i64 l[j].e.start,.int .i64 l[j].e.stop,.slice p1 q1 s1]] wx fun e w' =>e= .returned (.int .i64 (eventE b.types l[j].e l[j].vals))∧Below wx.heap.size wx w'):=fun wx hb=>event_any a1 n1 c1 b.types l[j].e p1 q1 s1 l[j].vals wx (HT.out wx hb) (val_R (ut.below (plainF_firm _) hb) hto)
     clear hwt hto ut
     by_cases hq:eventE b.types l[j].e l[j].vals=0
     ·rw[hq]at HEV
      have HS0:Hid (j=0→AllZ (evesE b.types l) (j+1)):=fun h=>allZ_succ HZ.out (by subst h;rw[eves_zero hkl];exact hq)
      have HS1:Hid (∀ hp:j - 1<l.length,0<j→evesE b.types l j=if l[j].e.number≤l[j - 1].e.number∨l[j].e.stop<l[j - 1].e.stop then 9 else 0):=fun hp h0=>by rw[eves_pre hkl hp h0,if_neg (by rw[hq];simp)]
      have HZ2:Hid (evesE b.types l j=0→AllZ (evesE b.types l) (j+1)):=fun h=>allZ_succ HZ.out h
      have HE2:Hid (∀ e,evesE b.types l j=e→e≠0→eventsE b l=e):=fun e he hn=>eves_at HB0.out H12.out HZ.out hkl he hn
      have HKL:=Lib.hid hkl
      generalize l[j]=x at HR HEV HS1
      clear HZ hq hkl
      go_wp2_with (first|(with_reducible (first|(refine wV M ?_;clear M;intro zt w M)|refine wq M ?_|(refine wS M ?_;clear M;intro w M)|refine wA (HR.out _ M.new) ?_))|(go_at_call 23;with_reducible refine(HEV.out _ M.new).mono ?_;rintro e w5 ⟨rfl,hb5⟩;replace M:=M.below hb5;clear hb5))
      by_cases hj0:j=0
      ·have HZ3:=Lib.hid (HS0.out hj0)
       have dk0:decide (0<j)=false:=by simp;omega
       clear HS0 HS1 HZ2 HE2 hj0
       ((refine wp_region_still_lit (by kernel_rfl) (by kernel_rfl) ?_);(change wpStill _ _ (World.drew _) _ _ _);replace M:=M.drew;(repeat(first|(with_reducible refine s_skipT ?_)|(with_reducible refine s_skipU ?_)|((with_reducible refine s_list rfl fun K hK=>?_);refine s_pure ?_;go_simp;with_reducible refine hK _ ?_;clear hK K)));(with_reducible refine wpStill_nil ?_))
       go_wp2_with (with_reducible (first|refine wq M ?_|(refine wS M ?_;clear M;intro w M)|(refine wV M ?_;clear M;intro z w M)|(refine wR M ?_;clear M;intro q w M)))
       go_roundg (n3 - (j+1))
       case measure=>omega
       case rel=>exact⟨j+1,by omega,by go_num,M.drop,HZ3⟩
      ·have hpl:j - 1<l.length:=by have:=HKL.out;omega
       obtain⟨cs,os,rows,hixs, -,hrrs,hws⟩:=SlF.rowAt (P:=Tryz.prog) HX3.out eveF_firm Tryz.underlying26 size_eve (i:=j - 1) hpl
       have hjm:(((j - 1:Nat):Int))=(j:Int) - 1:=by omega
       have hw:IntKind.i64.wrap ((j:Int) - 1)=(j:Int) - 1:=IntWalk.i64_in _ (by omega)
       rw[hjm,←hw]at hixs
       obtain⟨p2,q2,s2,es, -⟩:=hrrs
       subst es
       have HY0:Hid (∀ wx,Below w0.heap.size w0 wx→wx.cell? ⟨cs,os,none⟩=some (.int .i64 l[j - 1].e.number)):=fun wx hb=>(hws wx hb).1 0 _ rfl
       have HY3:Hid (∀ wx,Below w0.heap.size w0 wx→wx.cell? ⟨cs,os+2+1,none⟩=some (.int .i64 l[j - 1].e.stop)):=fun wx hb=>(hws wx hb).1 3 _ rfl
       have HS:=Lib.hid (HS1.out hpl (by omega))
       have hj1:0<j:=by omega
       clear hws HS0 HS1 hj0 hjm hw
       generalize l[j - 1]=y at HY0 HY3 HS
       clear hpl
       by_cases hc1:x.e.number≤y.e.number
       ·have HV:Hid (eventsE b l=9):=HE2.out 9 (by rw[HS.out,if_pos (Or.inl hc1)]) (by decide)
        have k1:decide (x.e.number≤y.e.number)=true:=by simpa using hc1
        clear HS HE2 HZ2 hc1
        ((refine wp_region_still_lit (by kernel_rfl) (by kernel_rfl) ?_);(change wpStill _ _ (World.drew _) _ _ _);replace M:=M.drew;(repeat(first|((with_reducible refine s_listg fun K hK=>?_);refine s_load ?_;(first|(refine q_cellat (HY0.out _ M.new) ?_)|refine q_get M (by exact rfl) ?_);refine⟨rfl,hK _ ?_⟩;clear hK K)|(with_reducible refine s_skipF ?_)|((first|(with_reducible refine s_list rfl fun K hK=>?_)|(with_reducible refine s_listg fun K hK=>?_));refine s_pure ?_;go_simp;with_reducible refine hK _ ?_;clear hK K)));(with_reducible refine wpStill_nil ?_))
        go_wp2_with (with_reducible (first|refine wq M ?_|(refine wS M ?_;clear M;intro w M)|(refine wV M ?_;clear M;intro z w M)|(refine wR M ?_;clear M;intro q w M)))
        go_ret
        rw[HV.out]
        exact⟨rfl,M.new⟩
       ·have k1:decide (x.e.number≤y.e.number)=false:=by simpa using hc1
        by_cases hc2:x.e.stop<y.e.stop
        ·have HV:Hid (eventsE b l=9):=HE2.out 9 (by rw[HS.out,if_pos (Or.inr hc2)]) (by decide)
         have k2:decide (x.e.stop<y.e.stop)=true:=by simpa using hc2
         clear HS HE2 HZ2 hc1 hc2
         ((refine wp_region_still_lit (by kernel_rfl) (by kernel_rfl) ?_);(change wpStill _ _ (World.drew _) _ _ _);replace M:=M.drew;(repeat(first|((with_reducible refine s_listg fun K hK=>?_);refine s_load ?_;(first|(refine q_cellat (HY0.out _ M.new) ?_)|(refine q_cellat (HY3.out _ M.new) ?_)|refine q_get M (by exact rfl) ?_);refine⟨rfl,hK _ ?_⟩;clear hK K)|((first|(with_reducible refine s_list rfl fun K hK=>?_)|(with_reducible refine s_listg fun K hK=>?_));refine s_pure ?_;go_simp;with_reducible refine hK _ ?_;clear hK K)));(with_reducible refine wpStill_nil ?_))
         go_wp2_with (with_reducible (first|refine wq M ?_|(refine wS M ?_;clear M;intro w M)|(refine wV M ?_;clear M;intro z w M)|(refine wR M ?_;clear M;intro q w M)))
         go_ret
         rw[HV.out]
         exact⟨rfl,M.new⟩
        ·have HZ3:=Lib.hid (HZ2.out (by rw[HS.out,if_neg (fun h=>h.elim hc1 hc2)]))
         have k2:decide (x.e.stop<y.e.stop)=false:=by simpa using hc2
         clear HS HE2 HZ2 hc1 hc2
         ((refine wp_region_still_lit (by kernel_rfl) (by kernel_rfl) ?_);(change wpStill _ _ (World.drew _) _ _ _);replace M:=M.drew;(repeat(first|((with_reducible refine s_listg fun K hK=>?_);refine s_load ?_;(first|(refine q_cellat (HY0.out _ M.new) ?_)|(refine q_cellat (HY3.out _ M.new) ?_)|refine q_get M (by exact rfl) ?_);refine⟨rfl,hK _ ?_⟩;clear hK K)|((first|(with_reducible refine s_list rfl fun K hK=>?_)|(with_reducible refine s_listg fun K hK=>?_));refine s_pure ?_;go_simp;with_reducible refine hK _ ?_;clear hK K)));(with_reducible refine wpStill_nil ?_))
         go_wp2_with (with_reducible (first|refine wq M ?_|(refine wS M ?_;clear M;intro w M)|(refine wV M ?_;clear M;intro z w M)|(refine wR M ?_;clear M;intro q w M)))
         go_roundg (n3 - (j+1))
         case measure=>omega
         case rel=>exact⟨j+1,by omega,by go_num,M.drop,HZ3⟩
     ·have HV:Hid (eventsE b l=eventE b.types l[j].e l[j].vals):=eves_at HB0.out H12.out HZ.out hkl (eves_fault hkl hq) hq
      have hqb:(eventE b.types l[j].e l[j].vals !=0)=true:=by simpa using hq
      generalize eventE b.types l[j].e l[j].vals=te at HEV HV hqb
      generalize l[j]=x at HR HEV
      clear HZ hq hkl
      go_wp2_with (first|(with_reducible (first|(refine wV M ?_;clear M;intro zt w M)|refine wq M ?_|(refine wS M ?_;clear M;intro w M)|refine wA (HR.out _ M.new) ?_))|(go_at_call 23;with_reducible refine(HEV.out _ M.new).mono ?_;rintro e w5 ⟨rfl,hb5⟩;replace M:=M.below hb5;clear hb5))
      go_ret
      rw[HV.out]
      exact⟨rfl,M.new⟩
    ·have HV:Hid (eventsE b l=0):=eves_none HB0.out H12.out (by have e:j=l.length:=(by have:=N3.out;omega);rw[←e];exact HZ.out)
     clear HZ
     go_wp2_with (with_reducible (first|refine wq M ?_|(refine wS M ?_;clear M;intro w M)|(refine wV M ?_;clear M;intro z w M)|(refine wR M ?_;clear M;intro q w M)))
     go_ret
     rw[HV.out]
     exact⟨rfl,M.new⟩
 ·have HV:Hid (eventsE b l=bookE b):=eves_book hb0
  have hqb:(bookE b !=0)=true:=by simpa using hb0
  generalize bookE b=q at HC HV hqb
  clear hb0 X1 X2 X3 hts hrs hes hls hg hF E HT
  go_enter Tryz.func18,Tryz.ntmps18
  go_wp2_with (first|(with_reducible (first|(refine wB (L:=[]) M ?_;clear M;intro za w1 M)|refine wq M ?_))|(go_at_call 28;with_reducible refine(HC.out _ M.new).mono ?_;rintro e w5 ⟨rfl,hb5⟩;replace M:=M.below hb5;clear hb5))
  go_ret
  rw[HV.out]
  exact⟨rfl,M.new⟩
set_option maxRecDepth 8000 in
set_option maxHeartbeats 16000000 in
theorem eventsFault_any(hg:g<w0.heap.size)(E:Env F w0)(hF: ∀ b,F b→b<w0.heap.size)(b:Bok)(a1:Option Addr)(n1 c1:Nat)(a2:Option Addr)(n2 c2:Nat)(X1:SlF F w0 2 typF a1 n1 c1 b.types)(X2:SlF F w0 7 rulF a2 n2 c2 b.rules)(hts: ∀ t∈b.types,typOk t)(hrs: ∀ x∈b.rules,RulFit x)(hes: ∀ x∈b.rules,x.etype.size≤maxLen)(a3:Option Addr)(n3 c3:Nat)(l:List Eve)(X3:SlF F3 w0 5 eveF a3 n3 c3 l)(hls: ∀ x∈l,eveOk x):Calls Tryz.prog 20 #[.agg #[.slice a1 n1 c1,.slice a2 n2 c2],.slice a3 n3 c3] w0 fun e w' =>e= .returned (.int .i64 (eventsE b l))∧Below w0.heap.size w0 w' :=by
 have M:=Mem.begin hg ⟨0,0⟩
 have N3:=Lib.hid X3.len
 have hle3:=X3.le
 have HC:Hid (∀ wx,Below w0.heap.size w0 wx→Calls Tryz.prog 30 #[.agg #[.slice a1 n1 c1,.slice a2 n2 c2]] wx fun e w' =>e= .returned (.int .i64 (bookE b))∧Below wx.heap.size wx w'):=fun wx hb=>bookFault_any (E.below hb).lt b a1 n1 c1 a2 n2 c2 (X1.below typF_firm hb) (X2.below rulF_firm hb) hts (fun x hx=>(hrs x hx).ok)
 have HT:=Lib.hid (fun wx (hb:Below w0.heap.size w0 wx)=>typ_R (X1.below typF_firm hb) hts)
 by_cases hb0:bookE b=0
 ·rw[hb0]at HC
  by_cases h120:120<n3
  ·have HV:Hid (eventsE b l=1):=eves_size hb0 (by have:=N3.out;omega)
   have d1:decide ((120:Int)<n3)=true:=by simp;omega
   clear hb0 h120 X1 X2 X3 hts hrs hes hls hg hF E HT
   go_enter Tryz.func20,Tryz.ntmps20
   go_wp2_with (first|(with_reducible (first|(refine wB (L:=[]) M ?_;clear M;intro za w1 M)|refine wq M ?_))|(go_at_call 30;with_reducible refine(HC.out _ M.new).mono ?_;rintro e w5 ⟨rfl,hb5⟩;replace M:=M.below hb5;clear hb5))
   go_loopg [5,6] 1 (fun f v i wr=>f=1∧v= .int .i64 1∧i= .int .i64 0∧Mem (StaysB g w0) g w0 wr ⟨0,0⟩ (own za [.slice a1 n1 c1,.slice a2 n2 c2] 25::[]))
   case atStart=>exact⟨rfl,rfl,rfl,M⟩
   case round=>
    clear M
    obtain⟨-,rfl,rfl,M⟩:=hrel
    by_cases hlt:0<n3
    ·go_wp2_with (with_reducible (first|refine wq M ?_|(refine wS M ?_;clear M;intro w M)|(refine wV M ?_;clear M;intro z w M)|(refine wR M ?_;clear M;intro q w M)))
     go_ret
     rw[HV.out]
     exact⟨rfl,M.new⟩
    ·go_wp2_with (with_reducible (first|refine wq M ?_|(refine wS M ?_;clear M;intro w M)|(refine wV M ?_;clear M;intro z w M)|(refine wR M ?_;clear M;intro q w M)))
     go_ret
     rw[HV.out]
     exact⟨rfl,M.new⟩
  ·have d1:decide ((120:Int)<n3)=false:=by simp;omega
   have HB0:=Lib.hid hb0
   have H12:Hid (¬ 120<l.length):=by have:=N3.out;show ¬ _;omega
   have HLS:=Lib.hid hls
   have HX3:=Lib.hid X3
   clear hb0 X1 X2 X3 hts hrs hes hls hg hF E
   go_enter Tryz.func20,Tryz.ntmps20
   go_wp2_with (first|(with_reducible (first|(refine wB (L:=[]) M ?_;clear M;intro za w1 M)|refine wq M ?_))|(go_at_call 30;with_reducible refine(HC.out _ M.new).mono ?_;rintro e w5 ⟨rfl,hb5⟩;replace M:=M.below hb5;clear hb5))
   go_loopg [5,6] (n3+1) (fun f v i wr=> ∃ (j:Nat) (ev:Int),j+f=n3+1∧j≤n3∧v= .int .i64 ev∧i= .int .i64 j∧Mem (StaysB g w0) g w0 wr ⟨0,0⟩ (own za [.slice a1 n1 c1,.slice a2 n2 c2] 25::[])∧Hid ((ev=0→AllZ (evesE b.types l) j)∧(ev≠0→eventsE b l=ev)))
   case atStart=>exact⟨0,0,by omega,by omega,rfl,rfl,M,fun _=>allZ_zero _,fun h=>absurd rfl h⟩
   case round=>
    clear M
    obtain⟨j,ev,hj,hj3,rfl,rfl,M,HZE⟩:=hrel
    by_cases hev:ev=0
    ·subst hev
     have HZ:=Lib.hid (HZE.out.1 rfl)
     clear HZE
     by_cases hlt:j<n3
     ·have hkl:j<l.length:=by have:=N3.out;omega
      obtain⟨ct,ot,rowt,hixt, -,hrrt,hwt⟩:=SlF.rowAt (P:=Tryz.prog) HX3.out eveF_firm Tryz.underlying26 size_eve (i:=j) hkl
      obtain⟨p1,q1,s1,et,ut⟩:=hrrt
      subst et
      have HR:=Lib.hid (fun wx hb=>(hwt wx hb).1)
      have HX0:Hid (∀ wx,Below w0.heap.size w0 wx→wx.cell? ⟨ct,ot,none⟩=some (.int .i64 l[j].e.number)):=fun wx hb=>(hwt wx hb).1 0 _ rfl
      have HX3c:Hid (∀ wx,Below w0.heap.size w0 wx→wx.cell? ⟨ct,ot+2+1,none⟩=some (.int .i64 l[j].e.stop)):=fun wx hb=>(hwt wx hb).1 3 _ rfl
      have hto:=HLS.out _ (List.getElem_mem hkl)
      have HEV:Hid (∀ wx,Below w0.heap.size w0 wx→Calls Tryz.prog 26 #[.slice a1 n1 c1,.agg #[.int .i64 l[j].e.number,.int .i64 l[j].e.type,.int .i64 l[j].e.start,.int .i64 l[j].e.stop,.slice p1 q1 s1]] wx fun e w' =>e= .returned (.int .i64 (eventE b.types l[j].e l[j].vals))∧Below wx.heap.size wx w'):=fun wx hb=>eventFault_any a1 n1 c1 b.types l[j].e p1 q1 s1 l[j].vals wx (HT.out wx hb) (val_R (ut.below (plainF_firm _) hb) hto)
      clear hwt hto ut
      by_cases hq:eventE b.types l[j].e l[j].vals=0
      ·rw[hq]at HEV
       have HS0:Hid (j=0→AllZ (evesE b.types l) (j+1)):=fun h=>allZ_succ HZ.out (by subst h;rw[eves_zero hkl];exact hq)
       have HS1:Hid (∀ hp:j - 1<l.length,0<j→evesE b.types l j=if l[j].e.number≤l[j - 1].e.number∨l[j].e.stop<l[j - 1].e.stop then 9 else 0):=fun hp h0=>by rw[eves_pre hkl hp h0,if_neg (by rw[hq];simp)]
       have HZ2:Hid (evesE b.types l j=0→AllZ (evesE b.types l) (j+1)):=fun h=>allZ_succ HZ.out h
       have HE2:Hid (∀ e,evesE b.types l j=e→e≠0→eventsE b l=e):=fun e he hn=>eves_at HB0.out H12.out HZ.out hkl he hn
       have HKL:=Lib.hid hkl
       generalize l[j]=x at HR HEV HS1 HX0 HX3c
       clear HZ hq hkl
       go_wp2_with (with_reducible (first|refine wq M ?_|(refine wS M ?_;clear M;intro w M)|(refine wV M ?_;clear M;intro z w M)|(refine wR M ?_;clear M;intro q w M)))
       ((refine wp_region_still_tail 6 (by kernel_rfl) (by kernel_rfl) ?_);(simp only[List.take_succ_cons,List.take_zero,List.drop_succ_cons,List.drop_zero]);(change wpStill _ _ (World.drew _) (fun a' =>wpList _ _ _ _ a' (World.drew _)) _ _);replace M:=M.drew;generalize World.drew _=wd at M ⊢;(repeat(first|((with_reducible refine s_list rfl fun K hK=>?_);refine s_load ?_;(first|(refine q_at (HR.out _ M.new) (by rfl) ?_)|refine q_get M (by exact rfl) ?_);refine⟨rfl,hK _ ?_⟩;clear hK K)|((with_reducible refine s_list rfl fun K hK=>?_);refine s_pure ?_;go_simp;refine hK _ ?_;clear hK K)));(refine wpStill_nil ?_))
       go_wp2_with (go_at_call 26;with_reducible refine(HEV.out _ M.new).mono ?_;rintro e w5 ⟨rfl,hb5⟩;replace M:=M.below hb5;clear hb5)
       by_cases hj0:j=0
       ·have HZ3:=Lib.hid (HS0.out hj0)
        have dk0:decide (0<j)=false:=by simp;omega
        clear HS0 HS1 HZ2 HE2 hj0
        ((refine wp_region_still_lit (by kernel_rfl) (by kernel_rfl) ?_);(change wpStill _ _ (World.drew _) _ _ _);replace M:=M.drew;(repeat(first|(with_reducible refine s_skipT ?_)|(with_reducible refine s_skipU ?_)|((first|(with_reducible refine s_list rfl fun K hK=>?_)|(with_reducible refine s_listg fun K hK=>?_));refine s_pure ?_;go_simp;with_reducible refine hK _ ?_;clear hK K)));(with_reducible refine wpStill_nil ?_))
        go_wp2_with (with_reducible (first|refine wq M ?_|(refine wS M ?_;clear M;intro w M)|(refine wV M ?_;clear M;intro z w M)|(refine wR M ?_;clear M;intro q w M)))
        go_roundg (n3+1 - (j+1))
        case measure=>omega
        case rel=>exact⟨j+1,0,by omega,by omega,rfl,by go_num,M,fun _=>HZ3.out,fun h=>absurd rfl h⟩
       ·have hpl:j - 1<l.length:=by have:=HKL.out;omega
        obtain⟨cs,os,rows,hixs, -,hrrs,hws⟩:=SlF.rowAt (P:=Tryz.prog) HX3.out eveF_firm Tryz.underlying26 size_eve (i:=j - 1) hpl
        have hjm:(((j - 1:Nat):Int))=(j:Int) - 1:=by omega
        have hw:IntKind.i64.wrap ((j:Int) - 1)=(j:Int) - 1:=IntWalk.i64_in _ (by omega)
        rw[hjm,←hw]at hixs
        obtain⟨p2,q2,s2,es, -⟩:=hrrs
        subst es
        have HY0:Hid (∀ wx,Below w0.heap.size w0 wx→wx.cell? ⟨cs,os,none⟩=some (.int .i64 l[j - 1].e.number)):=fun wx hb=>(hws wx hb).1 0 _ rfl
        have HY3:Hid (∀ wx,Below w0.heap.size w0 wx→wx.cell? ⟨cs,os+2+1,none⟩=some (.int .i64 l[j - 1].e.stop)):=fun wx hb=>(hws wx hb).1 3 _ rfl
        have HS:=Lib.hid (HS1.out hpl (by omega))
        have hj1:0<j:=by omega
        clear hws HS0 HS1 hj0 hjm hw
        generalize l[j - 1]=y at HY0 HY3 HS
        clear hpl
        by_cases hc1:x.e.number≤y.e.number
        ·have HV:Hid (eventsE b l=9):=HE2.out 9 (by rw[HS.out,if_pos (Or.inl hc1)]) (by decide)
         have k1:decide (x.e.number≤y.e.number)=true:=by simpa using hc1
         clear HS HE2 HZ2 hc1
         ((refine wp_region_still_lit (by kernel_rfl) (by kernel_rfl) ?_);(change wpStill _ _ (World.drew _) _ _ _);replace M:=M.drew;(repeat(first|((with_reducible refine s_listg fun K hK=>?_);refine s_load ?_;(first|(refine q_cellat (HX0.out _ M.new) ?_)|(refine q_cellat (HY0.out _ M.new) ?_));refine⟨rfl,hK _ ?_⟩;clear hK K)|(with_reducible refine s_skipF ?_)|((first|(with_reducible refine s_list rfl fun K hK=>?_)|(with_reducible refine s_listg fun K hK=>?_));refine s_pure ?_;go_simp;with_reducible refine hK _ ?_;clear hK K)));(with_reducible refine wpStill_nil ?_))
         go_wp2_with (with_reducible (first|refine wq M ?_|(refine wS M ?_;clear M;intro w M)|(refine wV M ?_;clear M;intro z w M)|(refine wR M ?_;clear M;intro q w M)))
         go_roundg (n3+1 - (j+1))
         case measure=>omega
         case rel=>exact⟨j+1,9,by omega,by omega,rfl,by go_num,M,fun h=>absurd h (by decide),fun _=>HV.out⟩
        ·have k1:decide (x.e.number≤y.e.number)=false:=by simpa using hc1
         by_cases hc2:x.e.stop<y.e.stop
         ·have HV:Hid (eventsE b l=9):=HE2.out 9 (by rw[HS.out,if_pos (Or.inr hc2)]) (by decide)
          have k2:decide (x.e.stop<y.e.stop)=true:=by simpa using hc2
          clear HS HE2 HZ2 hc1 hc2
          ((refine wp_region_still_lit (by kernel_rfl) (by kernel_rfl) ?_);(change wpStill _ _ (World.drew _) _ _ _);replace M:=M.drew;(repeat(first|((with_reducible refine s_listg fun K hK=>?_);refine s_load ?_;(first|(refine q_cellat (HX0.out _ M.new) ?_)|(refine q_cellat (HX3c.out _ M.new) ?_)|(refine q_cellat (HY0.out _ M.new) ?_)|(refine q_cellat (HY3.out _ M.new) ?_));refine⟨rfl,hK _ ?_⟩;clear hK K)|((first|(with_reducible refine s_list rfl fun K hK=>?_)|(with_reducible refine s_listg fun K hK=>?_));refine s_pure ?_;go_simp;with_reducible refine hK _ ?_;clear hK K)));(with_reducible refine wpStill_nil ?_))
          go_wp2_with (with_reducible (first|refine wq M ?_|(refine wS M ?_;clear M;intro w M)|(refine wV M ?_;clear M;intro z w M)|(refine wR M ?_;clear M;intro q w M)))
          go_roundg (n3+1 - (j+1))
          case measure=>omega
          case rel=>exact⟨j+1,9,by omega,by omega,rfl,by go_num,M,fun h=>absurd h (by decide),fun _=>HV.out⟩
         ·have HZ3:=Lib.hid (HZ2.out (by rw[HS.out,if_neg (fun h=>h.elim hc1 hc2)]))
          have k2:decide (x.e.stop<y.e.stop)=false:=by simpa using hc2
          clear HS HE2 HZ2 hc1 hc2
          ((refine wp_region_still_lit (by kernel_rfl) (by kernel_rfl) ?_);(change wpStill _ _ (World.drew _) _ _ _);replace M:=M.drew;(repeat(first|((with_reducible refine s_listg fun K hK=>?_);refine s_load ?_;(first|(refine q_cellat (HX0.out _ M.new) ?_)|(refine q_cellat (HX3c.out _ M.new) ?_)|(refine q_cellat (HY0.out _ M.new) ?_)|(refine q_cellat (HY3.out _ M.new) ?_));refine⟨rfl,hK _ ?_⟩;clear hK K)|((first|(with_reducible refine s_list rfl fun K hK=>?_)|(with_reducible refine s_listg fun K hK=>?_));refine s_pure ?_;go_simp;with_reducible refine hK _ ?_;clear hK K)));(with_reducible refine wpStill_nil ?_))
          go_wp2_with (with_reducible (first|refine wq M ?_|(refine wS M ?_;clear M;intro w M)|(refine wV M ?_;clear M;intro z w M)|(refine wR M ?_;clear M;intro q w M)))
          go_roundg (n3+1 - (j+1))
          case measure=>omega
          case rel=>exact⟨j+1,0,by omega,by omega,rfl,by go_num,M,fun _=>HZ3.out,fun h=>absurd rfl h⟩
      ·have HV:Hid (eventsE b l=eventE b.types l[j].e l[j].vals):=eves_at HB0.out H12.out HZ.out hkl (eves_fault hkl hq) hq
       have hqb:(eventE b.types l[j].e l[j].vals==0)=false:=by simpa using hq
       generalize eventE b.types l[j].e l[j].vals=te at HEV HV hqb hq
       generalize l[j]=x at HR HEV HX0 HX3c
       clear HZ hkl
       go_wp2_with (with_reducible (first|refine wq M ?_|(refine wS M ?_;clear M;intro w M)|(refine wV M ?_;clear M;intro z w M)|(refine wR M ?_;clear M;intro q w M)))
       ((refine wp_region_still_tail 6 (by kernel_rfl) (by kernel_rfl) ?_);(simp only[List.take_succ_cons,List.take_zero,List.drop_succ_cons,List.drop_zero]);(change wpStill _ _ (World.drew _) (fun a' =>wpList _ _ _ _ a' (World.drew _)) _ _);replace M:=M.drew;generalize World.drew _=wd at M ⊢;(repeat(first|((with_reducible refine s_list rfl fun K hK=>?_);refine s_load ?_;(first|(refine q_at (HR.out _ M.new) (by rfl) ?_)|refine q_get M (by exact rfl) ?_);refine⟨rfl,hK _ ?_⟩;clear hK K)|((with_reducible refine s_list rfl fun K hK=>?_);refine s_pure ?_;go_simp;refine hK _ ?_;clear hK K)));(refine wpStill_nil ?_))
       go_wp2_with (go_at_call 26;with_reducible refine(HEV.out _ M.new).mono ?_;rintro e w5 ⟨rfl,hb5⟩;replace M:=M.below hb5;clear hb5)
       ((refine wp_region_still_lit (by kernel_rfl) (by kernel_rfl) ?_);(change wpStill _ _ (World.drew _) _ _ _);replace M:=M.drew;(repeat(first|(with_reducible refine s_skipT ?_)|(with_reducible refine s_skipU ?_)|((with_reducible refine s_list rfl fun K hK=>?_);refine s_pure ?_;go_simp;with_reducible refine hK _ ?_;clear hK K)));(with_reducible refine wpStill_nil ?_))
       go_wp2_with (with_reducible (first|refine wq M ?_|(refine wS M ?_;clear M;intro w M)|(refine wV M ?_;clear M;intro z w M)|(refine wR M ?_;clear M;intro q w M)))
       go_roundg (n3+1 - (j+1))
       case measure=>omega
       case rel=>exact⟨j+1,te,by omega,by omega,rfl,by go_num,M,fun h=>absurd h (by exact hq),fun _=>HV.out⟩
     ·have HV:Hid (eventsE b l=0):=eves_none HB0.out H12.out (by have e:j=l.length:=(by have:=N3.out;omega);rw[←e];exact HZ.out)
      clear HZ
      go_wp2_with (with_reducible (first|refine wq M ?_|(refine wS M ?_;clear M;intro w M)|(refine wV M ?_;clear M;intro z w M)|(refine wR M ?_;clear M;intro q w M)))
      go_ret
      rw[HV.out]
      exact⟨rfl,M.new⟩
    ·have HV:=Lib.hid (HZE.out.2 hev)
     have hevb:(ev==0)=false:=by simpa using hev
     clear HZE hev
     by_cases hlt:j<n3
     ·go_wp2_with (with_reducible (first|refine wq M ?_|(refine wS M ?_;clear M;intro w M)|(refine wV M ?_;clear M;intro z w M)|(refine wR M ?_;clear M;intro q w M)))
      go_ret
      rw[HV.out]
      exact⟨rfl,M.new⟩
     ·go_wp2_with (with_reducible (first|refine wq M ?_|(refine wS M ?_;clear M;intro w M)|(refine wV M ?_;clear M;intro z w M)|(refine wR M ?_;clear M;intro q w M)))
      go_ret
      rw[HV.out]
      exact⟨rfl,M.new⟩
 ·have HV:Hid (eventsE b l=bookE b):=eves_book hb0
  have hqb:(bookE b==0)=false:=by simpa using hb0
  generalize bookE b=q at HC HV hqb
  clear hb0 X1 X2 X3 hts hrs hes hls hg hF E HT
  go_enter Tryz.func20,Tryz.ntmps20
  go_wp2_with (first|(with_reducible (first|(refine wB (L:=[]) M ?_;clear M;intro za w1 M)|refine wq M ?_))|(go_at_call 30;with_reducible refine(HC.out _ M.new).mono ?_;rintro e w5 ⟨rfl,hb5⟩;replace M:=M.below hb5;clear hb5))
  go_loopg [5,6] 1 (fun f v i wr=>f=1∧v= .int .i64 q∧i= .int .i64 0∧Mem (StaysB g w0) g w0 wr ⟨0,0⟩ (own za [.slice a1 n1 c1,.slice a2 n2 c2] 25::[]))
  case atStart=>exact⟨rfl,rfl,rfl,M⟩
  case round=>
   clear M
   obtain⟨-,rfl,rfl,M⟩:=hrel
   by_cases hlt:0<n3
   ·go_wp2_with (with_reducible (first|refine wq M ?_|(refine wS M ?_;clear M;intro w M)|(refine wV M ?_;clear M;intro z w M)|(refine wR M ?_;clear M;intro q w M)))
    go_ret
    rw[HV.out]
    exact⟨rfl,M.new⟩
   ·go_wp2_with (with_reducible (first|refine wq M ?_|(refine wS M ?_;clear M;intro w M)|(refine wV M ?_;clear M;intro z w M)|(refine wR M ?_;clear M;intro q w M)))
    go_ret
    rw[HV.out]
    exact⟨rfl,M.new⟩
end
end Go.Proofs.YtfahleafppfkaaaGreatDoor
