/-
  Two matrices merged, the greater bounds: bound.Either, the reference's merged. (Blocks of BndQ, BndR, BndU, where they are reached here.)
-/
import Derived.Test.YtncmghnhfipklaaGreatDoorPu02
import Derived.IntWalk
namespace Go.Proofs.YtncmghnhfipklaaGreatDoor
open Go.RowKit
set_option linter.unusedVariables false
set_option linter.unusedSimpArgs false
def pairE(a b:List (List Int)):Int:=if matE a=0 then(if matE b=0 then(if a.length=b.length then 0 else 4)else matE b)else matE a
set_option maxHeartbeats 1000000 in
theorem pair_any(F G:Nat→Prop)(ao:Option Addr)(n cap:Nat)(a:List (List Int))(bo:Option Addr)(m bcap:Nat)(b:List (List Int))(w:World)(hA:SlF F w 1 lineF ao n cap a)(hB:SlF G w 1 lineF bo m bcap b):
  Calls Tryz.prog 114 #[.slice ao n cap,.slice bo m bcap] w fun e w' =>e= .returned (.int .i64 (pairE a b))∧Below w.heap.size w w' :=by
 have i0: ∀ wx,(Instr.index 172 (.agg #[.slice ao n cap,.slice bo m bcap]) (.int .i64 0)).run Tryz.prog wx= .ok (.slice ao n cap) wx:=fun _=>by kernel_rfl
 have i1: ∀ wx,(Instr.index 172 (.agg #[.slice ao n cap,.slice bo m bcap]) (.int .i64 1)).run Tryz.prog wx= .ok (.slice bo m bcap) wx:=fun _=>by kernel_rfl
 have HA:Hid (∀ wx,Below w.heap.size w wx→Calls Tryz.prog 79 #[.slice ao n cap] wx fun e w' =>e= .returned (.int .i64 (matE a))∧Below wx.heap.size wx w'):=fun wx hb=>matCheck_any ao n cap a wx (mat_old (hA.below lineF_firm hb))
 have HB:Hid (∀ wx,Below w.heap.size w wx→Calls Tryz.prog 79 #[.slice bo m bcap] wx fun e w' =>e= .returned (.int .i64 (matE b))∧Below wx.heap.size wx w'):=fun wx hb=>matCheck_any bo m bcap b wx (mat_old (hB.below lineF_firm hb))
 have NA:Hid (n=a.length):=hA.len
 have NB:Hid (m=b.length):=hB.len
 by_cases ha:matE a=0
 ·by_cases hb:matE b=0
  ·have EA:=Lib.hid ha
   have EB:=Lib.hid hb
   have HA0:Hid (∀ wx,Below w.heap.size w wx→Calls Tryz.prog 79 #[.slice ao n cap] wx fun e w' =>e= .returned (.int .i64 0)∧Below wx.heap.size wx w'):=by rw[←ha];exact HA
   have HB0:Hid (∀ wx,Below w.heap.size w wx→Calls Tryz.prog 79 #[.slice bo m bcap] wx fun e w' =>e= .returned (.int .i64 0)∧Below wx.heap.size wx w'):=by rw[←hb];exact HB
   clear ha hb HA HB
   by_cases hnm:n=m
   ·have hq:((n:Int)!=(m:Int))=false:=by simp[hnm]
    have NM:=Lib.hid hnm
    clear hnm
    go_enter Tryz.func114,Tryz.ntmps114
    go_wp2_with fail
    refine wp_loop_rounds 3 ?_
    rw[rounds_succ]
    go_wp2_with fail
    refine(HA0.out _ (by repeat(exact Below.refl _ _))).mono ?_
    rintro e w1 ⟨rfl,hb1⟩
    go_wp2_with fail
    rw[rounds_succ]
    go_wp2_with fail
    refine(HB0.out _ (by repeat(assumption))).mono ?_
    rintro e w2 ⟨rfl,hb2⟩
    go_wp2_with fail
    rw[rounds_succ]
    go_wp2
    go_ret
    exact⟨ret_int (by simp[pairE,EA.out,EB.out,←NA.out,←NB.out,NM.out]),(by repeat(first|assumption|refine below_step ?_ (by assumption)))⟩
   ·have hq:((n:Int)!=(m:Int))=true:=by simp;omega
    have NM:=Lib.hid hnm
    clear hnm
    go_enter Tryz.func114,Tryz.ntmps114
    go_wp2_with fail
    refine wp_loop_rounds 3 ?_
    rw[rounds_succ]
    go_wp2_with fail
    refine(HA0.out _ (by repeat(exact Below.refl _ _))).mono ?_
    rintro e w1 ⟨rfl,hb1⟩
    go_wp2_with fail
    rw[rounds_succ]
    go_wp2_with fail
    refine(HB0.out _ (by repeat(assumption))).mono ?_
    rintro e w2 ⟨rfl,hb2⟩
    go_wp2_with fail
    rw[rounds_succ]
    go_wp2
    go_ret
    exact⟨ret_int (by simp[pairE,EA.out,EB.out,←NA.out,←NB.out,NM.out]),(by repeat(first|assumption|refine below_step ?_ (by assumption)))⟩
  ·have EA:=Lib.hid ha
   have EB:=Lib.hid hb
   have HA0:Hid (∀ wx,Below w.heap.size w wx→Calls Tryz.prog 79 #[.slice ao n cap] wx fun e w' =>e= .returned (.int .i64 0)∧Below wx.heap.size wx w'):=by rw[←ha];exact HA
   have hq:(matE b !=0)=true:=by simpa using hb
   clear ha hb HA
   go_enter Tryz.func114,Tryz.ntmps114
   go_wp2_with fail
   refine wp_loop_rounds 3 ?_
   rw[rounds_succ]
   go_wp2_with fail
   refine(HA0.out _ (by repeat(exact Below.refl _ _))).mono ?_
   rintro e w1 ⟨rfl,hb1⟩
   go_wp2_with fail
   rw[rounds_succ]
   go_wp2_with fail
   refine(HB.out _ (by repeat(assumption))).mono ?_
   rintro e w2 ⟨rfl,hb2⟩
   go_wp2
   go_ret
   exact⟨ret_int (by simp[pairE,EA.out,EB.out]),(by repeat(first|assumption|refine below_step ?_ (by assumption)))⟩
 ·have EA:=Lib.hid ha
  have hq:(matE a !=0)=true:=by simpa using ha
  clear ha
  go_enter Tryz.func114,Tryz.ntmps114
  go_wp2_with fail
  refine wp_loop_rounds 3 ?_
  rw[rounds_succ]
  go_wp2_with fail
  refine(HA.out _ (by repeat(exact Below.refl _ _))).mono ?_
  rintro e w1 ⟨rfl,hb1⟩
  go_wp2
  go_ret
  exact⟨ret_int (by simp[pairE,EA.out]),(by repeat(assumption))⟩
theorem max_any(x y:Int)(w:World):Calls Tryz.prog 110 #[.int .i64 x,.int .i64 y] w fun e w' =>e= .returned (.int .i64 (max x y))∧w=w' :=by
 go_enter Tryz.func110,Tryz.ntmps110
 go_wp2
 all_goals(go_ret;exact⟨ret_int (by omega),rfl⟩)
def mix2(op:Int→Int→Int)(a b:List (List Int))(i j:Nat):Nat→Nat→Int:=fun r c=>if r<i∨(r=i∧c<j)then op (at2 a r c) (at2 b r c)else at2 a r c
theorem mix2_put(op:Int→Int→Int)(a b:List (List Int))(i j:Nat):put2 (mix2 op a b i j) i j (op (at2 a i j) (at2 b i j))=mix2 op a b i (j+1):=by
 funext r c
 unfold put2 mix2
 by_cases h:r=i∧c=j
 ·obtain⟨rfl,rfl⟩:=h
  rw[if_pos ⟨rfl,rfl⟩,if_pos (by omega)]
 ·rw[if_neg h]
  by_cases h2:r<i∨(r=i∧c<j)
  ·rw[if_pos h2,if_pos (by omega)]
  ·rw[if_neg h2,if_neg (by omega)]
theorem mix2_keep(op:Int→Int→Int)(a b:List (List Int))(i j:Nat)(h:op (at2 a i j) (at2 b i j)=at2 a i j):mix2 op a b i j=mix2 op a b i (j+1):=by
 funext r c
 unfold mix2
 by_cases h1:r=i∧c=j
 ·obtain⟨rfl,rfl⟩:=h1
  rw[if_neg (by omega),if_pos (by omega),h]
 ·by_cases h2:r<i∨(r=i∧c<j)
  ·rw[if_pos h2,if_pos (by omega)]
  ·rw[if_neg h2,if_neg (by omega)]
theorem mix2_row(op:Int→Int→Int)(a b:List (List Int))(n i:Nat): ∀ r c,r<n→c<n→mix2 op a b i n r c=mix2 op a b (i+1) 0 r c:=by
 intro r c _ hc
 unfold mix2
 by_cases h2:r<i∨(r=i∧c<n)
 ·rw[if_pos h2,if_pos (by omega)]
 ·rw[if_neg h2,if_neg (by omega)]
theorem mix2_start(op:Int→Int→Int)(a b:List (List Int)):mix2 op a b 0 0=at2 a:=by
 funext r c;unfold mix2;rw[if_neg (by omega)]
theorem mix2_end(op:Int→Int→Int)(a b:List (List Int))(n:Nat): ∀ r c,r<n→c<n→mix2 op a b n 0 r c=op (at2 a r c) (at2 b r c):=by
 intro r c hr _;unfold mix2;rw[if_pos (by omega)]
theorem line_at{F:Nat→Prop}{w:World}{ao:Option Addr}{n cap:Nat}{m:List (List Int)}(h:SlF F w 1 lineF ao n cap m)(hsq: ∀ i,i<m.length→(m.getD i []).length=m.length){i:Nat}(hi:i<n):
  ∃ A off ra rc,A<w.heap.size∧(∀ wx,(Instr.indexAt 78 (.slice ao n cap) (.int .i64 i)).run Tryz.prog wx= .ok (.pointer (some ⟨A,off+i,none⟩)) wx)∧
   w.cell? ⟨A,off+i,none⟩=some (.slice ra n rc)∧ ∀ j,j<n→ ∃ B o,B<w.heap.size∧w.cell? ⟨B,o+j,none⟩=some (.int .i64 (at2 m i j))∧
    ∀ wx,(Instr.indexAt 26 (.slice ra n rc) (.int .i64 j)).run Tryz.prog wx= .ok (.pointer (some ⟨B,o+j,none⟩)) wx:=by
 have hil:i<m.length:=by have:=h.len;omega
 obtain⟨b,off,row,hix,hblt,hrow,ra,n2,rc,rfl,hR,h8⟩:=h.toR.index (P:=Tryz.prog) Tryz.underlying78 size_ints (i:=i) hil
 have c0:=hrow.one
 simp only[Nat.mul_one]at hix c0
 have hn2:n2=n:=by
  have h1:=hR.len
  have h2:=hsq i hil
  rw[line_getD m i hil]at h2
  have:=h.len
  omega
 subst hn2
 refine⟨b,off,ra,rc,hblt,hix,c0,fun j hj=>?_⟩
 have hjl:j<m[i].length:=by have:=hR.len;omega
 obtain⟨b2,off2,row2,hix2,hblt2,hrow2,hrr2⟩:=hR.toR.index (P:=Tryz.prog) Tryz.underlying26 size_int (i:=j) hjl
 obtain rfl:=intF_one hrr2
 have d0:=hrow2.one
 simp only[Nat.mul_one]at hix2 d0
 refine⟨b2,off2,hblt2,?_,hix2⟩
 rw[d0]
 simp[at2,List.getElem?_eq_getElem hil,List.getElem?_eq_getElem hjl]
set_option maxHeartbeats 4000000 in
set_option maxRecDepth 100000 in
theorem joinMax_good(F G:Nat→Prop)(ao:Option Addr)(n cap:Nat)(a:List (List Int))(bo:Option Addr)(m bcap:Nat)(b:List (List Int))(w:World)(hA:SlF F w 1 lineF ao n cap a)(hB:SlF G w 1 lineF bo m bcap b)(hE:pairE a b=0)(hsa: ∀ i,i<a.length→(a.getD i []).length=a.length)(hsb: ∀ i,i<b.length→(b.getD i []).length=b.length)(h12:n≤12)(hnm:m=n):
  Calls Tryz.prog 109 #[.slice ao n cap,.slice bo m bcap,.func (.func 110) #[] #[]] w fun e w' => ∃ ao' cap' gs,e= .returned (.tuple #[.slice ao' n cap',.int .i64 0])∧Below w.heap.size w w' ∧Grid (from_ w.heap.size) w' ao' n cap' gs (mix2 max a b n 0):=by
 subst hnm
 have HP:Hid (∀ wx,Below w.heap.size w wx→Calls Tryz.prog 114 #[.slice ao m cap,.slice bo m bcap] wx fun e w' =>e= .returned (.int .i64 0)∧Below wx.heap.size wx w'):=fun wx hb=>by
  rw[←hE];exact pair_any F G ao m cap a bo m bcap b wx (hA.below lineF_firm hb) (hB.below lineF_firm hb)
 have SA:=Lib.hid hsa
 have SB:=Lib.hid hsb
 have hn' :(m:Int)≤12:=by omega
 clear hE hsa hsb
 go_enter Tryz.func109,Tryz.ntmps109
 go_wp2_with fail
 refine(HP.out _ (by repeat(exact Below.refl _ _))).mono ?_
 rintro e w1 ⟨rfl,hb1⟩
 go_wp2_with fail
 refine(own_any F ao m cap a _ (hA.below lineF_firm hb1) h12 SA.out).mono ?_
 rintro e w2 ⟨ao2,cap2,gs,rfl,hb2,hG0⟩
 have hw2:Below w.heap.size w w2:=(by repeat(first|assumption|refine below_step ?_ (by assumption)))
 have G0:Hid (Grid (from_ w.heap.size) w2 ao2 m cap2 gs (mix2 max a b 0 0)):=by
  rw[mix2_start]
  exact hG0.same (Same.wide fun b hb _=>Nat.le_trans hb1.size hb)
 clear hG0
 go_wp2_with fail
 go_loopw [22] (fun i wr=> ∃ k:Nat,k≤m∧i= .int .i64 k∧Below w.heap.size w wr∧Hid (Grid (from_ w.heap.size) wr ao2 m cap2 gs (mix2 max a b k 0))) (fun i _=>m - (intOf i).toNat)
 case atStart=>exact⟨0,by omega,rfl,hw2,G0⟩
 case round=>
  obtain⟨k,hk,rfl,hbr,GR⟩:=hrel
  clear G0 hw2
  by_cases hlt:k<m
  ·have hk1:(k:Int)<m:=by omega
   obtain⟨A,rc,hAlt,hglt,hF,hne,h1,h2,hix,hcell,hent⟩:=GR.out.at hlt
   obtain⟨wo,rfl⟩: ∃ wo:World,wo=wr:=⟨_,rfl⟩
   go_wp2_with fail
   clear hcell hent hix
   go_loopw [30] (fun j wr=> ∃ q:Nat,q≤m∧j= .int .i64 q∧Below w.heap.size w wr∧Hid (Grid (from_ w.heap.size) wr ao2 m cap2 gs (mix2 max a b k q))) (fun j _=>m - (intOf j).toNat)
   case atStart=>exact⟨0,by omega,rfl,hbr,GR⟩
   case round=>
    obtain⟨q,hq,rfl,hbi,GI⟩:=hrel
    clear GR hbr
    by_cases hqm:q<m
    ·have hq1:(q:Int)<m:=by omega
     obtain⟨A,rc,hAlt,hglt,hF,hne,h1,h2,hix,hcell,hent⟩:=GI.out.at hlt
     obtain⟨he1,he2,he3⟩:=hent q hqm
     obtain⟨Aa,oa,ra,rca,hAa,hixa,hca,hra⟩:=line_at (hA.below lineF_firm hbi) SA.out hlt
     obtain⟨Ba,pa,hBa,hea,hixa2⟩:=hra q hqm
     obtain⟨Ab,ob,rb,rcb,hAb,hixb,hcb,hrb⟩:=line_at (hB.below lineF_firm hbi) SB.out hlt
     obtain⟨Bb,pb,hBb,heb,hixb2⟩:=hrb q hqm
     have GS:=Lib.hid ((GI.out.same (Same.drew)).store hlt hqm (max (at2 a k q) (at2 b k q)))
     rw[mix2_put]at GS
     have hbS:Below w.heap.size w ((wr.drew).setCell ⟨gs k,q,none⟩ (.int .i64 (max (at2 a k q) (at2 b k q)))):=hbi.drew.setCell (p:=⟨gs k,q,none⟩) hF _
     clear hent hra hrb
     go_wp2_with fail
     go_still_tail 22,(by kernel_rfl)
     still_call ((max_any _ _ _).mono fun e w' h=>⟨h.1,h.2.symm⟩)
     repeat still_step
     refine wpStill_nil ?_
     change wpList _ _ _ _ _ wr.drew
     go_wp2
     go_roundw
     case rel=>exact⟨q+1,by omega,by go_num,hbS,GS⟩
     case measure=>simp[intOf];omega
    ·obtain rfl:q=m:=by omega
     have GN:Hid (Grid (from_ w.heap.size) wr ao2 q cap2 gs (mix2 max a b (k+1) 0)):=GI.out.congr (mix2_row _ _ _ _ _)
     clear GI
     go_wp2
     go_roundw
     case rel=>exact⟨k+1,by omega,by go_num,hbi,GN⟩
     case measure=>simp[intOf];omega
  ·obtain rfl:k=m:=by omega
   go_wp2
   go_ret2
   exact⟨ao2,cap2,gs,rfl,hbr,GR.out⟩
set_option maxHeartbeats 1000000 in
theorem join_bad(F G:Nat→Prop)(ao:Option Addr)(n cap:Nat)(a:List (List Int))(bo:Option Addr)(m bcap:Nat)(b:List (List Int))(f:Value)(w:World)(hA:SlF F w 1 lineF ao n cap a)(hB:SlF G w 1 lineF bo m bcap b)(hE:pairE a b≠0):
  Calls Tryz.prog 109 #[.slice ao n cap,.slice bo m bcap,f] w fun e w' =>e= .returned (.tuple #[.slice none 0 0,.int .i64 (pairE a b)])∧Below w.heap.size w w' :=by
 have hq:(pairE a b !=0)=true:=by simpa using hE
 have HP:Hid (∀ wx,Below w.heap.size w wx→Calls Tryz.prog 114 #[.slice ao n cap,.slice bo m bcap] wx fun e w' =>e= .returned (.int .i64 (pairE a b))∧Below wx.heap.size wx w'):=fun wx hb=>pair_any F G ao n cap a bo m bcap b wx (hA.below lineF_firm hb) (hB.below lineF_firm hb)
 clear hE
 go_enter Tryz.func109,Tryz.ntmps109
 go_wp2_with fail
 refine(HP.out _ (by repeat(exact Below.refl _ _))).mono ?_
 rintro e w1 ⟨rfl,hb1⟩
 go_wp2
 go_ret2
 exact⟨rfl,(by repeat(assumption))⟩
theorem pairE_good{a b:List (List Int)}(h:pairE a b=0):a.length≤12∧(∀ i,i<a.length→(a.getD i []).length=a.length)∧(∀ i,i<b.length→(b.getD i []).length=b.length)∧a.length=b.length:=by
 unfold pairE at h
 by_cases h1:matE a=0
 ·by_cases h2:matE b=0
  ·by_cases h3:a.length=b.length
   ·exact⟨(matE_square h1).1,(matE_square h1).2,(matE_square h2).2,h3⟩
   ·simp[h1,h2,h3]at h
  ·simp[h1,h2]at h
 ·simp[h1]at h
def joinM(op:Int→Int→Int)(a b:List (List Int)):List (List Int):=if pairE a b=0 then gridL a.length (fun r c=>op (at2 a r c) (at2 b r c))else []
set_option maxHeartbeats 1000000 in
theorem either_any(F G:Nat→Prop)(ao:Option Addr)(n cap:Nat)(a:List (List Int))(bo:Option Addr)(m bcap:Nat)(b:List (List Int))(w:World)(hA:SlF F w 1 lineF ao n cap a)(hB:SlF G w 1 lineF bo m bcap b):
  Calls Tryz.prog 98 #[.slice ao n cap,.slice bo m bcap] w fun e w' => ∃ ao' n' cap',e= .returned (.tuple #[.slice ao' n' cap',.int .i64 (pairE a b)])∧Below w.heap.size w w' ∧SlF (from_ w.heap.size) w' 1 lineF ao' n' cap' (joinM max a b):=by
 by_cases h:pairE a b=0
 ·obtain⟨h1,h2,h3,h4⟩:=pairE_good h
  have hn:=hA.len
  have hm:=hB.len
  have HJ:=Lib.hid (joinMax_good F G ao n cap a bo m bcap b w hA hB h h2 h3 (by omega) (by omega))
  have H:=Lib.hid h
  have N:=Lib.hid hn
  clear h h2 h3 h4 hn hm
  go_enter Tryz.func98,Tryz.ntmps98
  go_wp2_with (go_at_call 109;refine HJ.out.mono ?_;rintro e w1 ⟨ao1,cap1,gs,rfl,hb1,hG⟩)
  go_ret2
  have hS:=hG.toF (by have:=N.out;omega)
  rw[gridL_congr (mix2_end max a b n)]at hS
  refine⟨ao1,n,cap1,by rw[H.out];rfl,hb1,?_⟩
  unfold joinM
  rw[if_pos H.out,←N.out]
  exact hS
 ·have HJ:=Lib.hid (join_bad F G ao n cap a bo m bcap b (.func (.func 110) #[] #[]) w hA hB h)
  have H:=Lib.hid h
  clear h
  go_enter Tryz.func98,Tryz.ntmps98
  go_wp2_with (go_at_call 109;refine HJ.out.mono ?_;rintro e w1 ⟨rfl,hb1⟩)
  go_ret2
  refine⟨none,0,0,rfl,hb1,?_⟩
  unfold joinM
  rw[if_neg H.out]
  exact SlF.nil
set_option maxHeartbeats 4000000 in
set_option maxRecDepth 100000 in
theorem mergedMax_good(F G:Nat→Prop)(ao:Option Addr)(n cap:Nat)(a:List (List Int))(bo:Option Addr)(m bcap:Nat)(b:List (List Int))(w:World)(hA:SlF F w 1 lineF ao n cap a)(hB:SlF G w 1 lineF bo m bcap b)(hE:pairE a b=0)(hsa: ∀ i,i<a.length→(a.getD i []).length=a.length)(hsb: ∀ i,i<b.length→(b.getD i []).length=b.length)(h12:n≤12)(hnm:m=n):
  Calls Tryz.prog 89 #[.slice ao n cap,.slice bo m bcap,.bool false] w fun e w' => ∃ ao' cap' gs,e= .returned (.tuple #[.slice ao' n cap',.int .i64 0])∧Below w.heap.size w w' ∧Grid (from_ w.heap.size) w' ao' n cap' gs (mix2 max a b n 0):=by
 subst hnm
 have hea:matE a=0:=by unfold pairE at hE;by_cases h:matE a=0;exact h;simp[h]at hE
 have heb:matE b=0:=by unfold pairE at hE;by_cases h:matE b=0;exact h;simp[hea,h]at hE
 have HP:Hid (∀ wx,Below w.heap.size w wx→Calls Tryz.prog 103 #[.slice ao m cap] wx fun e w' =>e= .returned (.int .i64 0)∧Below wx.heap.size wx w'):=fun wx hb=>by
  rw[←hea];exact matFault_any ao m cap a wx (mat_old (hA.below lineF_firm hb))
 have HQ:Hid (∀ wx,Below w.heap.size w wx→Calls Tryz.prog 103 #[.slice bo m bcap] wx fun e w' =>e= .returned (.int .i64 0)∧Below wx.heap.size wx w'):=fun wx hb=>by
  rw[←heb];exact matFault_any bo m bcap b wx (mat_old (hB.below lineF_firm hb))
 have SA:=Lib.hid hsa
 have SB:=Lib.hid hsb
 have hn' :(m:Int)≤12:=by omega
 clear hE hsa hsb hea heb
 go_enter Tryz.func89,Tryz.ntmps89
 go_wp2_with fail
 refine(HP.out _ (by repeat(exact Below.refl _ _))).mono ?_
 rintro e w1 ⟨rfl,hb1⟩
 go_wp2_with fail
 refine(HQ.out _ (by repeat(assumption))).mono ?_
 rintro e w1' ⟨rfl,hb1'⟩
 go_wp2_with fail
 refine(matGrid_any F ao m cap a _ (hA.below lineF_firm (by repeat(first|assumption|refine below_step ?_ (by assumption)))) h12 SA.out).mono ?_
 rintro e w2 ⟨ao2,cap2,gs,rfl,hb2,hG0⟩
 have hw2:Below w.heap.size w w2:=(by repeat(first|assumption|refine below_step ?_ (by assumption)))
 have hs1:=hb1.size
 have hs1' :=hb1'.size
 have G0:Hid (Grid (from_ w.heap.size) w2 ao2 m cap2 gs (mix2 max a b 0 0)):=by
  rw[mix2_start]
  exact hG0.same (Same.wide fun b hb _=>Nat.le_trans (Nat.le_trans hs1 hs1') hb)
 clear hG0
 go_wp2_with fail
 go_loopw [10,11] (fun i _ wr=> ∃ k:Nat,k≤m∧i= .int .i64 k∧Below w.heap.size w wr∧Hid (Grid (from_ w.heap.size) wr ao2 m cap2 gs (mix2 max a b k 0))) (fun i _ _=>m - (intOf i).toNat)
 case atStart=>exact⟨0,by omega,rfl,hw2,G0⟩
 case round=>
  obtain⟨k,hk,rfl,hbr,GR⟩:=hrel
  clear G0 hw2
  by_cases hlt:k<m
  ·have hk1:(k:Int)<m:=by omega
   obtain⟨wo,rfl⟩: ∃ wo:World,wo=wr:=⟨_,rfl⟩
   go_wp2_with fail
   go_loopw [11] (fun j wr=> ∃ q:Nat,q≤m∧j= .int .i64 q∧Below w.heap.size w wr∧Hid (Grid (from_ w.heap.size) wr ao2 m cap2 gs (mix2 max a b k q))) (fun j _=>m - (intOf j).toNat)
   case atStart=>exact⟨0,by omega,rfl,hbr,GR⟩
   case round=>
    obtain⟨q,hq,rfl,hbi,GI⟩:=hrel
    clear GR hbr
    by_cases hqm:q<m
    ·have hq1:(q:Int)<m:=by omega
     obtain⟨A,rc,hAlt,hglt,hF,hne,h1,h2,hix,hcell,hent⟩:=GI.out.at hlt
     obtain⟨he1,he2,he3⟩:=hent q hqm
     obtain⟨Aa,oa,ra,rca,hAa,hixa,hca,hra⟩:=line_at (hA.below lineF_firm hbi) SA.out hlt
     obtain⟨Ba,pa,hBa,hea,hixa2⟩:=hra q hqm
     obtain⟨Ab,ob,rb,rcb,hAb,hixb,hcb,hrb⟩:=line_at (hB.below lineF_firm hbi) SB.out hlt
     obtain⟨Bb,pb,hBb,heb,hixb2⟩:=hrb q hqm
     by_cases hba:at2 b k q<at2 a k q
     ·have hd:decide (at2 b k q<at2 a k q)=true:=by simpa using hba
      have hop:max (at2 a k q) (at2 b k q)=at2 a k q:=by omega
      have GS: ∀ nq,Grid (from_ w.heap.size) (wr.drewN nq) ao2 m cap2 gs (mix2 max a b k (q+1)):=fun nq=>by
       rw[←mix2_keep _ _ _ _ _ hop]
       exact GI.out.below (Joins.below_draws _ _ _)
      have HS:=Lib.hid GS
      clear hent hra hrb hop GS
      go_wp2_with fail
      go_quiet (fail)
      go_wp2
      go_roundw
      case rel=>exact⟨q+1,by omega,by go_num,hbi.trans (Joins.below_draws _ _ _),HS.out _⟩
      case measure=>simp[intOf];omega
     ·have hd:decide (at2 b k q<at2 a k q)=false:=by simpa using hba
      clear hent hra hrb
      go_wp2_with fail
      go_quiet (fail)
      have hbx:Below w.heap.size w (wr.drewN nq):=hbi.trans (Joins.below_draws _ _ _)
      have GX:Hid (Grid (from_ w.heap.size) (wr.drewN nq) ao2 m cap2 gs (mix2 max a b k q)):=GI.out.below (Joins.below_draws _ _ _)
      clear he1 he2 he3 hix hcell hixa hca hea hixa2 hixb hcb heb hixb2 GI hbi hAa hBa hAb hBb hAlt hglt hF hne h1 h2
      generalize wr.drewN nq=wx at hbx GX ⊢
      obtain⟨A,rc,hAlt,hglt,hF,hne,h1,h2,hix,hcell,hent⟩:=GX.out.at hlt
      obtain⟨he1,he2,he3⟩:=hent q hqm
      obtain⟨Ab,ob,rb,rcb,hAb,hixb,hcb,hrb⟩:=line_at (hB.below lineF_firm hbx) SB.out hlt
      obtain⟨Bb,pb,hBb,heb,hixb2⟩:=hrb q hqm
      have GS:=Lib.hid ((GX.out.same Same.drew).store hlt hqm (at2 b k q))
      have hop:at2 b k q=max (at2 a k q) (at2 b k q):=by omega
      rw[hop,mix2_put,←hop]at GS
      have hbS:Below w.heap.size w ((wx.drew).setCell ⟨gs k,q,none⟩ (.int .i64 (at2 b k q))):=hbx.drew.setCell (p:=⟨gs k,q,none⟩) hF _
      clear hent hrb hop
      go_wp2_with fail
      go_still_tail 13,(by kernel_rfl)
      change wpList _ _ _ _ _ wx.drew
      go_wp2
      go_roundw
      case rel=>exact⟨q+1,by omega,by go_num,hbS,GS⟩
      case measure=>simp[intOf];omega
    ·obtain rfl:q=m:=by omega
     have GN:Hid (Grid (from_ w.heap.size) wr ao2 q cap2 gs (mix2 max a b (k+1) 0)):=GI.out.congr (mix2_row _ _ _ _ _)
     clear GI
     go_wp2
     go_roundw
     case rel=>exact⟨k+1,by omega,by go_num,hbi,GN⟩
     case measure=>simp[intOf];omega
  ·obtain rfl:k=m:=by omega
   go_wp2
   go_ret2
   exact⟨ao2,cap2,gs,rfl,hbr,GR.out⟩
set_option maxHeartbeats 1000000 in
theorem merged_bad(F G:Nat→Prop)(ao:Option Addr)(n cap:Nat)(a:List (List Int))(bo:Option Addr)(m bcap:Nat)(b:List (List Int))(l:Bool)(w:World)(hA:SlF F w 1 lineF ao n cap a)(hB:SlF G w 1 lineF bo m bcap b)(hE:pairE a b≠0):
  Calls Tryz.prog 89 #[.slice ao n cap,.slice bo m bcap,.bool l] w fun e w' =>e= .returned (.tuple #[.slice none 0 0,.int .i64 (pairE a b)])∧Below w.heap.size w w' :=by
 have HA:Hid (∀ wx,Below w.heap.size w wx→Calls Tryz.prog 103 #[.slice ao n cap] wx fun e w' =>e= .returned (.int .i64 (matE a))∧Below wx.heap.size wx w'):=fun wx hb=>matFault_any ao n cap a wx (mat_old (hA.below lineF_firm hb))
 have HB:Hid (∀ wx,Below w.heap.size w wx→Calls Tryz.prog 103 #[.slice bo m bcap] wx fun e w' =>e= .returned (.int .i64 (matE b))∧Below wx.heap.size wx w'):=fun wx hb=>matFault_any bo m bcap b wx (mat_old (hB.below lineF_firm hb))
 have NA:Hid (n=a.length):=hA.len
 have NB:Hid (m=b.length):=hB.len
 by_cases ha:matE a=0
 ·have HA0:Hid (∀ wx,Below w.heap.size w wx→Calls Tryz.prog 103 #[.slice ao n cap] wx fun e w' =>e= .returned (.int .i64 0)∧Below wx.heap.size wx w'):=by rw[←ha];exact HA
  by_cases hb:matE b=0
  ·have HB0:Hid (∀ wx,Below w.heap.size w wx→Calls Tryz.prog 103 #[.slice bo m bcap] wx fun e w' =>e= .returned (.int .i64 0)∧Below wx.heap.size wx w'):=by rw[←hb];exact HB
   have hl: ¬ a.length=b.length:=fun e=>hE (by simp[pairE,ha,hb,e])
   have hP:Hid (pairE a b=4):=by show _=_;simp[pairE,ha,hb,hl]
   have hq:((n:Int)!=(m:Int))=true:=by have:=NA.out;have:=NB.out;simp;omega
   clear hE ha hb hl HA HB
   go_enter Tryz.func89,Tryz.ntmps89
   go_wp2_with fail
   refine(HA0.out _ (by repeat(exact Below.refl _ _))).mono ?_
   rintro e w1 ⟨rfl,hb1⟩
   go_wp2_with fail
   refine(HB0.out _ (by repeat(assumption))).mono ?_
   rintro e w2 ⟨rfl,hb2⟩
   go_wp2
   go_ret2
   exact⟨by rw[hP.out];rfl,(by repeat(first|assumption|refine below_step ?_ (by assumption)))⟩
  ·have hP:Hid (pairE a b=matE b):=by show _=_;simp[pairE,ha,hb]
   have hq:(matE b !=0)=true:=by simpa using hb
   have hq2:(matE b==0)=false:=by simpa using hb
   clear hE ha hb HA
   go_enter Tryz.func89,Tryz.ntmps89
   go_wp2_with fail
   refine(HA0.out _ (by repeat(exact Below.refl _ _))).mono ?_
   rintro e w1 ⟨rfl,hb1⟩
   go_wp2_with fail
   refine(HB.out _ (by repeat(assumption))).mono ?_
   rintro e w2 ⟨rfl,hb2⟩
   go_wp2
   go_ret2
   exact⟨by rw[hP.out];rfl,(by repeat(first|assumption|refine below_step ?_ (by assumption)))⟩
 ·have hP:Hid (pairE a b=matE a):=by show _=_;simp[pairE,ha]
  have hq:(matE a !=0)=true:=by simpa using ha
  have hq2:(matE a==0)=false:=by simpa using ha
  clear hE ha
  go_enter Tryz.func89,Tryz.ntmps89
  go_wp2_with fail
  refine(HA.out _ (by repeat(exact Below.refl _ _))).mono ?_
  rintro e w1 ⟨rfl,hb1⟩
  go_wp2
  go_ret2
  exact⟨by rw[hP.out];rfl,(by repeat(assumption))⟩
end Go.Proofs.YtncmghnhfipklaaGreatDoor
/-
  The least bounds that come of a matrix's own, in plain Lean: a matrix that is tightened in place, point by point.
-/
namespace Go.Proofs.YtncmghnhfipklaaGreatDoor
open Go Go.RowKit
set_option linter.unusedVariables false
set_option linter.unusedSimpArgs false
theorem fold_inv{σ:Type}(f:σ→Nat→σ)(P:Nat→σ→Prop)(n:Nat)(s:σ)(h0:P 0 s)(hs: ∀ k t,k<n→P k t→P (k+1) (f t k)):P n ((List.range n).foldl f s):=by
 induction n with
 |zero=>exact h0
 |succ n ih=>
  rw[List.range_succ,List.foldl_append]
  exact hs n _ (Nat.lt_succ_self n) (ih (fun k t hk=>hs k t (by omega)))
def NOB:Int:=1152921504606846976
def stB(a b:Int):Int:=if a=NOB∨b=NOB then NOB else wrap64 (a+b)
def smB(a b:Int):Int:=if a=NOB∨b=NOB then NOB else a+b
abbrev Mx:=Nat→Nat→Int
def setB(g:Mx)(i j:Nat)(v:Int):Mx:=fun r c=>if r=i∧c=j then v else g r c
def cellF(k i:Nat)(g:Mx)(j:Nat):Mx:=setB g i j (min (g i j) (stB (g i k) (g k j)))
def rowF(n k:Nat)(g:Mx)(i:Nat):Mx:=(List.range n).foldl (cellF k i) g
def layF(n:Nat)(g:Mx)(k:Nat):Mx:=(List.range n).foldl (rowF n k) g
def shutF(n:Nat)(g:Mx):Mx:=(List.range n).foldl (layF n) g
def okM(n:Nat)(g:Mx):Prop:= ∀ i,i<n→0≤g i i
def LeM(a b:Mx):Prop:= ∀ r c,a r c≤b r c
theorem LeM.refl(a:Mx):LeM a a:=fun _ _=>Int.le_refl _
theorem LeM.trans{a b c:Mx}(h:LeM a b)(k:LeM b c):LeM a c:=fun r s=>Int.le_trans (h r s) (k r s)
theorem setB_le{g:Mx}{i j:Nat}{v:Int}(h:v≤g i j):LeM (setB g i j v) g:=fun r c=>by
 unfold setB
 split
 ·rename_i e;obtain⟨rfl,rfl⟩:=e;exact h
 ·exact Int.le_refl _
theorem cellF_le(k i:Nat)(g:Mx)(j:Nat):LeM (cellF k i g j) g:=setB_le (Int.min_le_left _ _)
theorem rowF_le(n k:Nat)(g:Mx)(i:Nat):LeM (rowF n k g i) g:=fold_inv _ (fun _ t=>LeM t g) n g (LeM.refl _) fun j t _ h=>(cellF_le k i t j).trans h
theorem layF_le(n:Nat)(g:Mx)(k:Nat):LeM (layF n g k) g:=fold_inv _ (fun _ t=>LeM t g) n g (LeM.refl _) fun i t _ h=>(rowF_le n k t i).trans h
theorem shut_le(n:Nat)(g:Mx): ∀ k,k≤n→LeM (shutF n g) ((List.range k).foldl (layF n) g):=by
 have key: ∀ m k,k≤m→LeM ((List.range m).foldl (layF n) g) ((List.range k).foldl (layF n) g):=fun m=>by
  induction m with
  |zero=>intro k hk;obtain rfl:k=0:=(by omega);exact LeM.refl _
  |succ m ih=>
   intro k hk
   rcases Nat.eq_or_lt_of_le hk with e|e
   ·rw[e];exact LeM.refl _
   ·rw[List.range_succ,List.foldl_append]
    exact(layF_le n _ m).trans (ih k (by omega))
 exact key n
theorem smB_zero(x:Int):smB x 0=x:=by
 unfold smB NOB
 split
 ·rename_i h;rcases h with h|h
  ·exact h.symm
  ·exact absurd h (by decide)
 ·omega
theorem zero_smB(x:Int):smB 0 x=x:=by
 unfold smB NOB
 split
 ·rename_i h;rcases h with h|h
  ·exact absurd h (by decide)
  ·exact h.symm
 ·omega
def lyr(g:Mx)(k:Nat):Mx:=fun a b=>min (g a b) (smB (g a k) (g k b))
theorem lyr_le(g:Mx)(k:Nat):LeM (lyr g k) g:=fun _ _=>Int.min_le_left _ _
theorem lyr_col{g:Mx}{k:Nat}(h:g k k=0)(a:Nat):lyr g k a k=g a k:=by unfold lyr;rw[h,smB_zero];exact Int.min_self _
theorem lyr_row{g:Mx}{k:Nat}(h:g k k=0)(b:Nat):lyr g k k b=g k b:=by unfold lyr;rw[h,zero_smB];exact Int.min_self _
def Rg(n:Nat)(g:Mx):Prop:= ∀ a b,a<n→b<n→ -4611686018427387904≤g a b∧g a b≤NOB
theorem stB_eq{a b:Int}(ha: -4611686018427387904≤a∧a≤NOB)(hb: -4611686018427387904≤b∧b≤NOB):stB a b=smB a b:=by
 unfold stB smB
 split
 ·rfl
 ·unfold NOB at *;exact IntWalk.wrap64_in _ (by omega)
theorem layF_eq{n k:Nat}{g:Mx}(hk:k<n)(h0:g k k=0)(hg:Rg n g): ∀ a b,a<n→b<n→layF n g k a b=lyr g k a b:=by
 have H:=fold_inv (rowF n k) (fun i s=> ∀ a b,a<n→b<n→s a b=if a<i then lyr g k a b else g a b) n g (fun a b _ _=>by rw[if_neg (by omega)]) (fun i s hi hs=>by
  have Q:=fold_inv (cellF k i) (fun j t=> ∀ a b,a<n→b<n→t a b=if a<i∨(a=i∧b<j)then lyr g k a b else g a b) n s (fun a b ha hb=>by
   rw[hs a b ha hb]
   by_cases e:a<i
   ·rw[if_pos e,if_pos (Or.inl e)]
   ·rw[if_neg e,if_neg (by omega)]) (fun j t hj ht=>by
   intro a b ha hb
   have e1:t i k=g i k:=by
    rw[ht i k hi hk]
    split
    ·exact lyr_col h0 i
    ·rfl
   have e2:t k j=g k j:=by
    rw[ht k j hk hj]
    split
    ·exact lyr_row h0 j
    ·rfl
   have e3:t i j=g i j:=by rw[ht i j hi hj,if_neg (by omega)]
   unfold cellF setB
   by_cases e:a=i∧b=j
   ·obtain⟨rfl,rfl⟩:=e
    rw[if_pos ⟨rfl,rfl⟩,if_pos (by omega),e1,e2,e3,stB_eq (hg a k ha hk) (hg k b hk hb)]
    rfl
   ·rw[if_neg e,ht a b ha hb]
    by_cases c:a<i∨(a=i∧b<j)
    ·rw[if_pos c,if_pos (by omega)]
    ·rw[if_neg c,if_neg (by omega)])
  intro a b ha hb
  show(List.range n).foldl (cellF k i) s a b=_
  rw[Q a b ha hb]
  by_cases e:a<i+1
  ·rw[if_pos e,if_pos (by omega)]
  ·rw[if_neg e,if_neg (by omega)])
 intro a b ha hb
 show(List.range n).foldl (rowF n k) g a b=_
 rw[H a b ha hb,if_pos ha]
def Fs(g:Mx):Nat→Mx
 |0=>g
 |k+1=>lyr (Fs g k) k
def RB(n k:Nat)(g:Mx):Prop:= ∀ a b,a<n→b<n→g a b=NOB∨(-(2147483648*2^k)≤g a b∧g a b≤2147483648*2^k)
theorem pow_le12{k:Nat}(hk:k≤12):(2:Int)^k≤4096:=by
 match k,hk with
 |0,_|1,_|2,_|3,_|4,_|5,_|6,_|7,_|8,_|9,_|10,_|11,_|12,_=>decide
theorem RB.rg{n k:Nat}{g:Mx}(h:RB n k g)(hk:k≤12):Rg n g:=fun a b ha hb=>by
 have hp:=pow_le12 hk
 rcases h a b ha hb with e|e
 ·rw[e];unfold NOB;omega
 ·unfold NOB;omega
theorem Fs_bound{n:Nat}{g:Mx}(hg:RB n 0 g): ∀ k,k≤n→RB n k (Fs g k)
 |0,_=>hg
 |k+1,hk=>fun a b ha hb=>by
  have ih:=Fs_bound hg k (by omega)
  have e2:(2:Int)^(k+1)=2^k*2:=Int.pow_succ ..
  have hpos:(0:Int)<2^k:=Int.pow_pos (by decide)
  have h1:=ih a b ha hb
  have h2:=ih a k ha (by omega)
  have h3:=ih k b (by omega) hb
  show min (Fs g k a b) (smB (Fs g k a k) (Fs g k k b))=NOB∨_≤min (Fs g k a b) (smB (Fs g k a k) (Fs g k k b))∧min (Fs g k a b) (smB (Fs g k a k) (Fs g k k b))≤_
  rw[e2]
  generalize (2:Int)^k=P at *
  unfold smB
  generalize Fs g k a b=x at *
  generalize Fs g k a k=y at *
  generalize Fs g k k b=z at *
  split
  ·rcases h1 with rfl|h1
   ·left;exact Int.min_self _
   ·rcases Int.le_total x NOB with e|e
    ·rw[Int.min_eq_left e];right;omega
    ·rw[Int.min_eq_right e];left;rfl
  ·rename_i hn
   have h2:=h2.resolve_left (fun e=>hn (Or.inl e))
   have h3:=h3.resolve_left (fun e=>hn (Or.inr e))
   rcases Int.le_total x (y+z)with e|e
   ·rw[Int.min_eq_left e]
    rcases h1 with rfl|h1
    ·left;rfl
    ·right;omega
   ·rw[Int.min_eq_right e];right;omega
def Good(g:Mx)(k:Nat):Prop:= ∀ x,x<k→Fs g x x x=0
theorem shut_eq{n:Nat}{g:Mx}(hn:n≤12)(hg:RB n 0 g): ∀ k,k≤n→Good g k→ ∀ a b,a<n→b<n→((List.range k).foldl (layF n) g) a b=Fs g k a b
 |0,_,_=>fun _ _ _ _=>rfl
 |k+1,hk,hG=>fun a b ha hb=>by
  have ih:=shut_eq hn hg k (by omega) (fun x hx=>hG x (by omega))
  have hRB:=(Fs_bound hg k (by omega)).rg (by omega)
  rw[List.range_succ,List.foldl_append]
  show layF n _ k a b=_
  rw[layF_eq (by omega) (by rw[ih k k (by omega) (by omega)];exact hG k (by omega)) (fun a b ha hb=>by rw[ih a b ha hb];exact hRB a b ha hb) a b ha hb]
  unfold lyr
  rw[ih a b ha hb,ih a k ha (by omega),ih k b (by omega) hb]
  rfl
def Tri(n k:Nat)(D:Mx):Prop:= ∀ m,m<k→ ∀ a b,a<n→b<n→D a b≤smB (D a m) (D m b)
theorem lyr_cases{g:Mx}{k a b:Nat}(hN:g a b≤NOB):lyr g k a b=g a b∨(g a k≠NOB∧g k b≠NOB∧lyr g k a b=g a k+g k b):=by
 unfold lyr smB
 split
 ·left;exact Int.min_eq_left hN
 ·rename_i hn
  rcases Int.le_total (g a b) (g a k+g k b)with e|e
  ·left;exact Int.min_eq_left e
  ·right;exact⟨fun h=>hn (Or.inl h),fun h=>hn (Or.inr h),Int.min_eq_right e⟩
theorem lyr_sum{g:Mx}{k a b:Nat}(h1:g a k≠NOB)(h2:g k b≠NOB):lyr g k a b≤g a k+g k b:=by
 unfold lyr smB
 rw[if_neg (by intro h;rcases h with h|h;exact h1 h;exact h2 h)]
 exact Int.min_le_right _ _
theorem smB_le{x a b:Int}(h:x≤smB a b)(ha:a≠NOB)(hb:b≠NOB):x≤a+b:=by
 unfold smB at h
 rwa[if_neg (by intro h;rcases h with h|h;exact ha h;exact hb h)]at h
theorem Fs_tri{n:Nat}{g:Mx}(hn:n≤12)(hg:RB n 0 g): ∀ k,k≤n→Good g k→Tri n k (Fs g k)
 |0,_,_=>fun m hm=>absurd hm (Nat.not_lt_zero m)
 |k+1,hk,hG=>fun m hm a b ha hb=>by
  have ih:=Fs_tri hn hg k (by omega) (fun x hx=>hG x (by omega))
  have hB:=Fs_bound hg k (by omega)
  have hp:=pow_le12 (k:=k) (by omega)
  have hR:=hB.rg (by omega)
  have hk0:Fs g k k k=0:=hG k (by omega)
  have hkn:k<n:=by omega
  have hmn:m<n:=by omega
  show lyr (Fs g k) k a b≤smB (lyr (Fs g k) k a m) (lyr (Fs g k) k m b)
  generalize Fs g k=D at *
  have hN:=(hR a b ha hb).2
  have hD' :lyr D k a b≤D a b:=lyr_le D k a b
  by_cases hmk:m=k
  ·subst hmk
   rw[lyr_col hk0,lyr_row hk0]
   exact Int.min_le_right _ _
  ·have hmk:m<k:=by omega
   unfold smB
   split
   ·exact Int.le_trans hD' hN
   ·rename_i hnn
    have ne1:lyr D k a m≠NOB:=fun h=>hnn (Or.inl h)
    have ne2:lyr D k m b≠NOB:=fun h=>hnn (Or.inr h)
    have fin: ∀ {x y:Nat},x<n→y<n→D x y≠NOB→D x y≤2147483648*4096:=fun hx hy h=>by
     have:=(hB _ _ hx hy).resolve_left h
     omega
    rcases lyr_cases (k:=k) (hR a m ha hmn).2 with e1|⟨f1,f2,e1⟩
    ·rcases lyr_cases (k:=k) (hR m b hmn hb).2 with e2|⟨f3,f4,e2⟩
     ·rw[e1]at ne1 ⊢
      rw[e2]at ne2 ⊢
      exact Int.le_trans hD' (smB_le (ih m hmk a b ha hb) ne1 ne2)
     ·rw[e1]at ne1 ⊢
      rw[e2]
      have h1:=smB_le (ih m hmk a k ha hkn) ne1 f3
      have h2:=fin ha hmn ne1
      have h3:=fin hmn hkn f3
      have h4:D a k≠NOB:=fun h=>by rw[h]at h1;unfold NOB at h1;omega
      have h5:=lyr_sum h4 f4
      omega
    ·rcases lyr_cases (k:=k) (hR m b hmn hb).2 with e2|⟨f3,f4,e2⟩
     ·rw[e2]at ne2 ⊢
      rw[e1]
      have h1:=smB_le (ih m hmk k b hkn hb) f2 ne2
      have h2:=fin hkn hmn f2
      have h3:=fin hmn hb ne2
      have h4:D k b≠NOB:=fun h=>by rw[h]at h1;unfold NOB at h1;omega
      have h5:=lyr_sum f1 h4
      omega
     ·rw[e1,e2]
      have h1:=smB_le (ih m hmk k k hkn hkn) f2 f3
      rw[hk0]at h1
      have h5:=lyr_sum f1 f4
      omega
theorem Fs_diag{n:Nat}{g:Mx}(hn:n≤12)(hg:RB n 0 g): ∀ k,k≤n→Good g k→ ∀ i,i<k→Fs g k i i=0
 |0,_,_=>fun i hi=>absurd hi (Nat.not_lt_zero i)
 |k+1,hk,hG=>fun i hi=>by
  have hk0:Fs g k k k=0:=hG k (by omega)
  show lyr (Fs g k) k i i=0
  by_cases e:i=k
  ·subst e;rw[lyr_col hk0];exact hk0
  ·have hik:i<k:=by omega
   have ih:=Fs_diag hn hg k (by omega) (fun x hx=>hG x (by omega)) i hik
   have tr:=Fs_tri hn hg k (by omega) (fun x hx=>hG x (by omega)) i hik k k (by omega) (by omega)
   unfold lyr smB
   rw[ih]
   split
   ·unfold NOB;decide
   ·rename_i hnn
    have h:=smB_le tr (fun h=>hnn (Or.inr h)) (fun h=>hnn (Or.inl h))
    rw[hk0]at h
    exact Int.min_eq_left (by omega)
theorem Fs_anti(g:Mx): ∀ k m,k≤m→LeM (Fs g m) (Fs g k):=fun k m h=>by
 induction m with
 |zero=>obtain rfl:k=0:=(by omega);exact LeM.refl _
 |succ m ih=>
  rcases Nat.eq_or_lt_of_le h with e|e
  ·rw[e];exact LeM.refl _
  ·exact(lyr_le _ m).trans (ih (by omega))
theorem shut_good{n:Nat}{g:Mx}(hn:n≤12)(hg:RB n 0 g)(hG:Good g n):okM n (shutF n g)∧ ∀ a b,a<n→b<n→shutF n g a b=Fs g n a b:=by
 have h:=shut_eq hn hg n (Nat.le_refl _) hG
 exact⟨fun i hi=>by show 0≤(List.range n).foldl (layF n) g i i;rw[h i i hi hi,Fs_diag hn hg n (Nat.le_refl _) hG i hi];exact Int.le_refl _,h⟩
theorem good_or{n:Nat}{g:Mx}(hd: ∀ i,i<n→g i i=0):Good g n∨ ∃ k,k<n∧Good g k∧Fs g k k k<0:=by
 have key: ∀ m,m≤n→Good g m∨ ∃ k,k<n∧Good g k∧Fs g k k k<0:=fun m=>by
  induction m with
  |zero=>intro _;left;intro x hx;exact absurd hx (Nat.not_lt_zero x)
  |succ m ih=>
   intro hm
   rcases ih (by omega)with h|h
   ·by_cases e:Fs g m m m=0
    ·left;intro x hx
     by_cases ex:x=m
     ·rw[ex];exact e
     ·exact h x (by omega)
    ·right
     have h1:=Fs_anti g 0 m (Nat.zero_le _) m m
     have h2:Fs g 0 m m=0:=hd m (by omega)
     exact⟨m,by omega,h,by omega⟩
   ·right;exact h
 exact key n (Nat.le_refl _)
theorem shut_bad{n k:Nat}{g:Mx}(hn:n≤12)(hg:RB n 0 g)(hk:k<n)(hG:Good g k)(hb:Fs g k k k<0): ¬ okM n (shutF n g):=fun h=>by
 have h1:=shut_le n g k (by omega) k k
 rw[shut_eq hn hg k (by omega) hG k k hk hk]at h1
 have:=h k hk
 omega
end Go.Proofs.YtncmghnhfipklaaGreatDoor
