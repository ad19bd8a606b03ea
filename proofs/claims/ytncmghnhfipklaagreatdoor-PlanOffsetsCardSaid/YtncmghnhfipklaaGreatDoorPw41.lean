/-
  plan.Offsets and the reference's OffsetsOf; the law PlanOffsets. Printed by poz.py.
-/
import Derived.Test.YtncmghnhfipklaaGreatDoorPw40
namespace Go.Proofs.YtncmghnhfipklaaGreatDoor
open Go.RowKit
set_option linter.unusedVariables false
set_option linter.unusedSimpArgs false
set_option maxHeartbeats 1000000 in
theorem sameIntsJ(F G:Nat→Prop)(ao:Option Addr)(n cap:Nat)(bo:Option Addr)(m bcap:Nat)(xs:List Int)(w:World)(hX:SlF F w 1 intF ao n cap xs)(hY:SlF G w 1 intF bo m bcap xs):
  Calls Tryz.prog 10 #[.slice ao n cap,.slice bo m bcap] w fun e w' =>e= .returned (.bool true)∧Below w.heap.size w w' :=by
 obtain rfl:m=n:=by rw[hX.len,hY.len]
 have NL:Hid (m=xs.length):=hX.len
 have hle:=hX.le
 go_enter Tryz.func10,Tryz.ntmps10
 go_wp2_with fail
 go_loopw [5] (fun i wr=> ∃ k:Nat,k≤m∧i= .int .i64 k∧Below w.heap.size w wr) (fun i _=>m - (intOf i).toNat)
 case atStart=>exact⟨0,by omega,rfl,Below.refl _ _⟩
 case round=>
  obtain⟨k,hk,rfl,hbr⟩:=hrel
  by_cases hlt:k<m
  ·have hkl:k<xs.length:=by have:=NL.out;omega
   obtain⟨b,off,row,hix,hblt,hrow,hrr⟩:=(hX.below (plainF_firm _) hbr).toR.index (P:=Tryz.prog) Tryz.underlying26 size_int (i:=k) hkl
   obtain rfl:=(show row=_ from hrr)
   obtain⟨b2,off2,row2,hix2,hblt2,hrow2,hrr2⟩:=(hY.below (plainF_firm _) hbr).toR.index (P:=Tryz.prog) Tryz.underlying26 size_int (i:=k) hkl
   obtain rfl:=(show row2=_ from hrr2)
   have d0:=hrow.one
   have d1:=hrow2.one
   simp only[Nat.mul_one]at hix d0 hix2 d1
   go_wp2_with fail
   go_quiet (fail)
   go_wp2
   go_roundw
   case rel=>exact⟨k+1,by omega,by go_num,(by repeat(first|assumption|refine below_step ?_ (Joins.below_draws _ _ _)))⟩
   case measure=>simp[intOf];omega
  ·go_wp2
   go_ret
   exact⟨rfl,hbr⟩
theorem offD_firm(v:List Int)(a:Option Addr)(n c:Nat):FirmD (fun F w=>SlF F w 1 intF a n c v):=fun F F' w w' hs h=>h.same (plainF_firm _) hs
section
variable {g:Nat} {F:Nat→Prop} {w0:World}
theorem offsets_any(hg:g<w0.heap.size)(E:Env F w0)(hF: ∀ b,F b→b<w0.heap.size)(b:Bok)(a1:Option Addr)(n1 c1:Nat)(a2:Option Addr)(n2 c2:Nat)(X1:SlF F w0 2 typF a1 n1 c1 b.types)(X2:SlF F w0 7 rulF a2 n2 c2 b.rules)(hts: ∀ t∈b.types,typOk t)(hrs: ∀ x∈b.rules,RulFit x)(hes: ∀ x∈b.rules,x.etype.size≤maxLen):Calls Tryz.prog 8 #[.agg #[.slice a1 n1 c1,.slice a2 n2 c2]] w0 (OffP (offR b) w0):=by
 by_cases h0:bookE b=0
 ·exact offsets_main hg E hF b a1 n1 c1 a2 n2 c2 X1 X2 hts hrs hes h0
 ·exact offsets_bad hg E hF b a1 n1 c1 a2 n2 c2 X1 X2 hts hrs hes h0
set_option maxRecDepth 8000 in
set_option maxHeartbeats 8000000 in
theorem offsetsOf_any(hg:g<w0.heap.size)(E:Env F w0)(hF: ∀ b,F b→b<w0.heap.size)(b:Bok)(a1:Option Addr)(n1 c1:Nat)(a2:Option Addr)(n2 c2:Nat)(X1:SlF F w0 2 typF a1 n1 c1 b.types)(X2:SlF F w0 7 rulF a2 n2 c2 b.rules)(hts: ∀ t∈b.types,typOk t)(hrs: ∀ x∈b.rules,RulFit x)(hes: ∀ x∈b.rules,x.etype.size≤maxLen):Calls Tryz.prog 9 #[.agg #[.slice a1 n1 c1,.slice a2 n2 c2]] w0 (OffP (offR b) w0):=by
 have M:=Mem.begin hg ⟨0,0⟩
 have HC:Hid (∀ wx,Below w0.heap.size w0 wx→Calls Tryz.prog 13 #[.agg #[.slice a1 n1 c1,.slice a2 n2 c2]] wx fun e w' =>e= .returned (.int .i64 (bookE b))∧Below wx.heap.size wx w'):=fun wx hb=>bookFault_any (Nat.lt_of_lt_of_le hg hb.size) b a1 n1 c1 a2 n2 c2 (X1.below typF_firm hb) (X2.below rulF_firm hb) hts (fun x hx=>(hrs x hx).ok)
 by_cases h0:bookE b=0
 ·have HO:Hid (∀ wx,g<wx.heap.size→Below w0.heap.size w0 wx→Calls Tryz.prog 17 #[.agg #[.slice a1 n1 c1,.slice a2 n2 c2]] wx (OffP (offR b) wx)):=fun wx h1 hb=>roffsets_any h1 b a1 n1 c1 a2 n2 c2 (X1.below typF_firm hb) (X2.below rulF_firm hb) h0
  rw[h0]at HC
  generalize offR b=v at HO ⊢
  obtain⟨v,c⟩:=v
  unfold OffP at HO
  simp only at HO
  clear h0 X1 X2 hts hrs hes hg hF E
  go_enter Tryz.func9,Tryz.ntmps9
  go_wp2_with (first|(go_at_call 13;with_reducible refine(HC.out _ M.new).mono ?_;rintro e w5 ⟨rfl,hb5⟩;replace M:=M.below hb5;clear hb5)|(go_at_call 17;have hq:=HO.out _ (Nat.lt_of_lt_of_le M.lt M.but.size) M.new;with_reducible refine hq.mono ?_;clear hq;go_loud (rintro e w5 ⟨r1,l1,u1,rfl,hb5,hS1⟩;replace M:=M.dpush (offD_firm v r1 l1 u1) hb5 hS1;clear hb5 hS1))|(with_reducible (first|(refine wB M ?_;clear M;intro zb w1 M)|refine wq M ?_)))
  go_ret2
  exact⟨_,_,_,rfl,M.new,SlF.same (M.dat_ (i:=0) rfl) (plainF_firm _) (Same.wide fun k hk _=>hk.1)⟩
 ·have HV:Hid (offR b=([],bookE b)):=offR_bad h0
  have hqb:(bookE b==0)=false:=by simpa using h0
  have hqc:(bookE b !=0)=true:=by simpa using h0
  generalize bookE b=q at HC HV hqb hqc
  clear h0 X1 X2 hts hrs hes hg hF E
  go_enter Tryz.func9,Tryz.ntmps9
  go_wp2_with (first|(go_at_call 13;with_reducible refine(HC.out _ M.new).mono ?_;rintro e w5 ⟨rfl,hb5⟩;replace M:=M.below hb5;clear hb5)|(with_reducible (first|(refine wB M ?_;clear M;intro zb w1 M)|refine wq M ?_)))
  go_ret2
  rw[HV.out]
  exact⟨_,_,_,rfl,M.new,SlF.nil⟩
end
section
set_option maxRecDepth 8000 in
set_option maxHeartbeats 8000000 in
theorem planOffsets_walk(b:Bok)(a1:Option Addr)(n1 c1:Nat)(a2:Option Addr)(n2 c2:Nat)(w0:World)(X1:SlF (under w0.heap.size) w0 2 typF a1 n1 c1 b.types)(X2:SlF (under w0.heap.size) w0 7 rulF a2 n2 c2 b.rules)(hts: ∀ t∈b.types,typOk t)(hrs: ∀ x∈b.rules,RulFit x)(hes: ∀ x∈b.rules,x.etype.size≤maxLen)
  (hK:SlF (under w0.heap.size) w0 1 wordF (some ⟨0,0,none⟩) 17 17 keptL)(hR:SlF (under w0.heap.size) w0 1 wordF (some ⟨1,0,none⟩) 14 14 relsL):
  Calls Tryz.prog 4 #[.agg #[.slice a1 n1 c1,.slice a2 n2 c2]] w0 fun e w' =>e= .returned (.bool true)∧Below w0.heap.size w0 w' :=by
 have E:Env (under w0.heap.size) w0:=⟨hK,hR⟩
 have M:=Mem.begin E.lt ⟨0,0⟩
 have HA:Hid (∀ wx,Below w0.heap.size w0 wx→Calls Tryz.prog 8 #[.agg #[.slice a1 n1 c1,.slice a2 n2 c2]] wx (OffP (offR b) wx)):=fun wx hb=>
  offsets_any (E.below hb).lt (E.below hb) (fun k hk=>Nat.lt_of_lt_of_le hk hb.size) b a1 n1 c1 a2 n2 c2 (X1.below typF_firm hb) (X2.below rulF_firm hb) hts hrs hes
 have HB:Hid (∀ wx,Below w0.heap.size w0 wx→Calls Tryz.prog 9 #[.agg #[.slice a1 n1 c1,.slice a2 n2 c2]] wx (OffP (offR b) wx)):=fun wx hb=>
  offsetsOf_any (E.below hb).lt (E.below hb) (fun k hk=>Nat.lt_of_lt_of_le hk hb.size) b a1 n1 c1 a2 n2 c2 (X1.below typF_firm hb) (X2.below rulF_firm hb) hts hrs hes
 generalize offR b=v at HA HB
 obtain⟨v,c⟩:=v
 unfold OffP at HA HB
 simp only at HA HB
 clear X1 X2 hts hrs hes hK hR E
 go_enter Tryz.func4,Tryz.ntmps4
 go_wp2_with (first|(go_at_call 8;have hq:=HA.out _ M.new;with_reducible refine hq.mono ?_;clear hq;go_loud (rintro e w5 ⟨r1,l1,u1,rfl,hb5,hS1⟩;replace M:=M.dpush (offD_firm v r1 l1 u1) hb5 hS1;clear hb5 hS1))|(go_at_call 9;have hq:=HB.out _ M.new;with_reducible refine hq.mono ?_;clear hq;go_loud (rintro e w5 ⟨r1,l1,u1,rfl,hb5,hS1⟩;replace M:=M.dpush (offD_firm v r1 l1 u1) hb5 hS1;clear hb5 hS1))|(go_at_call 10;have hd1:=M.dat_ (i:=1) rfl;have hd2:=M.dat_ (i:=0) rfl;have hq:=sameIntsJ _ _ _ _ _ _ _ _ _ _ hd1 hd2;with_reducible refine hq.mono ?_;clear hq hd1 hd2;rintro e w5 ⟨rfl,hb5⟩;replace M:=M.below hb5;clear hb5)|(with_reducible (first|(refine wB M ?_;clear M;intro zb w1 M)|refine wq M ?_)))
 go_ret
 exact⟨ret_bool (by simp),M.new⟩
end
end Go.Proofs.YtncmghnhfipklaaGreatDoor
