/-
  The walk of the reference's optionBounds, relation by relation. Printed by oby.py.
-/
import Derived.Test.YtncmghnhfipklaaGreatDoorPu07
namespace Go.Proofs.YtncmghnhfipklaaGreatDoor
open Go.RowKit
set_option linter.unusedVariables false
set_option linter.unusedSimpArgs false
theorem bounds_end{r lo hi:Int}{w wz:World}{ao:Option Addr}{cap:Nat}{gs:Nat→Nat}{G:Mx}(hb:Below w.heap.size w wz)(hs:w.heap.size+1≤wz.heap.size)(hG:Grid (from_ (w.heap.size+1)) wz ao 4 cap gs G)
  (hT:(tight 4 5 (at2 (gridL 4 G))=none∧optL r lo hi=none)∨(∃ d,tight 4 5 (at2 (gridL 4 G))=some d∧optL r lo hi=some (gridL 4 d))):
  Calls Tryz.prog 61 #[.slice ao 4 cap] wz (OnePost (optL r lo hi) w):=by
 refine(tightened_any _ ao 4 cap (gridL 4 G) wz (hG.toF (by omega)) (by omega) (fun i hi=>?_)).mono ?_
 ·have:i<4:=by simpa[gridL]using hi
  simp[gridL,List.getD,List.getElem?_eq_getElem,this]
 ·intro e w' h
  rcases hT with⟨t1,t2⟩|⟨d,t1,t2⟩
  ·rcases h with⟨_,h2,h3⟩|⟨d,ao',cap',gs',h1,_⟩
   ·exact Or.inl ⟨t2,h2,hb.trans (h3.mono (by omega))⟩
   ·rw[show(4+1)=5 from rfl,t1]at h1;cases h1
  ·rcases h with⟨h1,_,_⟩|⟨d',ao',cap',gs',h1,h2,h3,h4⟩
   ·rw[show(4+1)=5 from rfl,t1]at h1;cases h1
   ·rw[show(4+1)=5 from rfl,t1]at h1
    obtain rfl:d=d' :=by injection h1
    exact Or.inr ⟨gridL 4 d,ao',cap',t2,by simp[gridL],h2,hb.trans (h3.mono (by omega)),(h4.same (Same.wide fun b hb _=>by unfold from_ at *;omega)).toF (by omega)⟩
theorem mid_1(lo hi:Int):midG 1 lo hi=farG (lessG (lessG (lessG freeG 0 1 0) 2 3 0) 1 2 1) 1 2 lo hi:=by
 have hb:backR 1=false:=by decide
 have ho:oddR 1=1:=by unfold oddR;rw[hb];rfl
 unfold midG
 rw[ho]
 rfl
theorem tight_1(lo hi:Int)(hl:0≤lo∧lo≤1073741824)(hh: -1≤hi∧hi≤1073741824):
  (tight 4 5 (at2 (gridL 4 (farG (lessG (lessG (lessG freeG 0 1 0) 2 3 0) 1 2 1) 1 2 lo hi)))=none∧optL 1 lo hi=none)∨(∃ d,tight 4 5 (at2 (gridL 4 (farG (lessG (lessG (lessG freeG 0 1 0) 2 3 0) 1 2 1) 1 2 lo hi)))=some d∧optL 1 lo hi=some (gridL 4 d)):=by
 refine opt_tight hl hh id (fun a _=>?_) ?_
 ·unfold sgR
  rw[show backR 1=false from by decide]
  rfl
 ·rw[mid_1]
  exact(((straight_free.less (x:=0) (y:=1) (by decide) (by decide) 0).less (x:=2) (y:=3) (by decide) (by decide) 0).less (x:=1) (y:=2) (by decide) (by decide) 1).far (x:=1) (y:=2) (by decide) (by decide) lo hi
set_option maxHeartbeats 4000000 in
set_option maxRecDepth 100000 in
theorem bounds_1(lo hi:Int)(w:World)(hl:0≤lo∧lo≤1073741824)(hh: -1≤hi∧hi≤1073741824):
  Calls Tryz.prog 88 #[.agg #[.int .i64 1,.int .i64 lo,.int .i64 hi]] w (OnePost (optL 1 lo hi) w):=by
 have HT:=Lib.hid (tight_1 lo hi hl hh)
 go_enter Tryz.func88,Tryz.ntmps88
 go_wp2_with fail
 refine(freeMatrix_grid 4 (by omega) _).mono ?_
 rintro e w1 ⟨ao1,cap1,gs,rfl,hb1,hG1⟩
 have k0:=hb1.cell (p:=⟨w.heap.size,0,none⟩) (by simp)
 have k1:=hb1.cell (p:=⟨w.heap.size,1,none⟩) (by simp)
 have k2:=hb1.cell (p:=⟨w.heap.size,2,none⟩) (by simp)
 simp at k0 k1 k2
 have hs1:=hb1.size
 have hbw:Below w.heap.size w w1:=(Joins.below_alloc1 w _).trans (hb1.mono (by simp))
 simp only[World.size_alloc]at hs1 hG1
 have G1:=Lib.hid hG1
 clear hb1 hG1
 go_wp2_with fail
 refine(ahead_any (w.heap.size+1) ao1 4 cap1 gs freeG 0 1 0 w1 (by omega) G1.out (by omega) (by omega) (by omega)).mono ?_
 rintro e w2 ⟨rfl,hb2,hG2⟩
 have hs2:=hb2.size
 replace k1:=(hb2.cell (p:=⟨w.heap.size,1,none⟩) (by simp)).trans k1
 replace k2:=(hb2.cell (p:=⟨w.heap.size,2,none⟩) (by simp)).trans k2
 replace hbw:=hbw.trans (hb2.mono (by omega))
 have G2:=Lib.hid hG2
 clear hG2 hb2 G1
 go_wp2_with fail
 refine(ahead_any (w.heap.size+1) ao1 4 cap1 gs (lessG freeG 0 1 0) 2 3 0 w2 (by omega) G2.out (by omega) (by omega) (by omega)).mono ?_
 rintro e w3 ⟨rfl,hb3,hG3⟩
 have hs3:=hb3.size
 replace k1:=(hb3.cell (p:=⟨w.heap.size,1,none⟩) (by simp)).trans k1
 replace k2:=(hb3.cell (p:=⟨w.heap.size,2,none⟩) (by simp)).trans k2
 replace hbw:=hbw.trans (hb3.mono (by omega))
 have G3:=Lib.hid hG3
 clear hG3 hb3 G2
 go_wp2_with fail
 refine(ahead_any (w.heap.size+1) ao1 4 cap1 gs (lessG (lessG freeG 0 1 0) 2 3 0) 1 2 1 w3 (by omega) G3.out (by omega) (by omega) (by omega)).mono ?_
 rintro e w4 ⟨rfl,hb4,hG4⟩
 have hs4:=hb4.size
 replace k1:=(hb4.cell (p:=⟨w.heap.size,1,none⟩) (by simp)).trans k1
 replace k2:=(hb4.cell (p:=⟨w.heap.size,2,none⟩) (by simp)).trans k2
 replace hbw:=hbw.trans (hb4.mono (by omega))
 have G4:=Lib.hid hG4
 clear hG4 hb4 G3
 obtain⟨gp,hgp⟩: ∃ gp,Hid (gp=(lessG (lessG (lessG freeG 0 1 0) 2 3 0) 1 2 1)):=⟨_,rfl⟩
 rw[←hgp.out]at G4 HT
 go_wp2_with fail
 refine(ahead_any (w.heap.size+1) ao1 4 cap1 gs gp 1 2 lo w4 (by omega) G4.out (by omega) (by omega) (by omega)).mono ?_
 rintro e wf ⟨rfl,hbf,hGf⟩
 have hsf:=hbf.size
 replace k1:=(hbf.cell (p:=⟨w.heap.size,1,none⟩) (by simp)).trans k1
 replace k2:=(hbf.cell (p:=⟨w.heap.size,2,none⟩) (by simp)).trans k2
 replace hbw:=hbw.trans (hbf.mono (by omega))
 clear hbf G4 hgp
 have hxy:Hid (1<4∧2<4):=⟨by omega,by omega⟩
 obtain⟨gf,hgf⟩: ∃ gf,Hid (gf=lessG gp 1 2 lo):=⟨_,rfl⟩
 rw[←hgf.out]at hGf
 have GF:=Lib.hid hGf
 have hmx:=hGf.max
 unfold maxLen at hmx
 obtain⟨hh1,hh2⟩:=hh
 obtain⟨Ai,rci,hAlt,hglt,hF,hne,h1,h2,hix,hcell,hent⟩:=hGf.at hxy.out.2
 obtain⟨e1,e2,e3⟩:=hent 1 hxy.out.1
 replace hix: ∀ wx,(Instr.indexAt 78 (.slice ao1 4 cap1) (.int .i64 2)).run Tryz.prog wx= .ok (.pointer (some ⟨Ai,2,none⟩)) wx:=hix
 replace e3: ∀ wx,(Instr.indexAt 26 (.slice (some ⟨gs 2,0,none⟩) 4 rci) (.int .i64 1)).run Tryz.prog wx= .ok (.pointer (some ⟨gs 2,1,none⟩)) wx:=e3
 clear hent hGf
 by_cases h0:0≤hi
 ·by_cases hst:hi<gf 2 1
  ·go_wp2_with fail
   go_quiet (fail)
   have hbx:Below w.heap.size w (wf.drewN nq):=hbw.trans (Joins.below_draws _ _ _)
   have GX:Hid (Grid (from_ (w.heap.size+1)) (wf.drewN nq) ao1 4 cap1 gs gf):=GF.out.below (Joins.below_draws _ _ _)
   have k3:(wf.drewN nq).cell? ⟨w.heap.size,2,none⟩=some (.int .i64 hi):=by simpa using k2
   clear hix hcell e1 e2 e3 GF hbw hAlt hglt hF hne h1 h2 k1 k2
   have hsx:w.heap.size+1≤(wf.drewN nq).heap.size:=by simp;omega
   generalize wf.drewN nq=wx at *
   obtain⟨Ai,rci,hAlt,hglt,hF,hne,h1,h2,hix,hcell,hent⟩:=GX.out.at hxy.out.2
   obtain⟨e1,e2,e3⟩:=hent 1 hxy.out.1
   replace hix: ∀ wx,(Instr.indexAt 78 (.slice ao1 4 cap1) (.int .i64 2)).run Tryz.prog wx= .ok (.pointer (some ⟨Ai,2,none⟩)) wx:=hix
   replace e3: ∀ wx,(Instr.indexAt 26 (.slice (some ⟨gs 2,0,none⟩) 4 rci) (.int .i64 1)).run Tryz.prog wx= .ok (.pointer (some ⟨gs 2,1,none⟩)) wx:=e3
   have GS:Hid (Grid (from_ (w.heap.size+1)) (wx.setCell ⟨gs 2,1,none⟩ (.int .i64 hi)).drew ao1 4 cap1 gs (farG gp 1 2 lo hi)):=by
    show Grid _ _ _ _ _ _ _
    have:=(GX.out.store hxy.out.2 hxy.out.1 hi).same (G:=from_ (w.heap.size+1)) Same.drew
    unfold farG
    rw[if_pos h0,←hgf.out,Int.min_eq_right (by omega)]
    exact this
   have hbS:Below w.heap.size w (wx.setCell ⟨gs 2,1,none⟩ (.int .i64 hi)).drew:=(hbx.setCell (p:=⟨gs 2,1,none⟩) (Nat.le_of_succ_le hF) _).drew
   have hsS:w.heap.size+1≤(wx.setCell ⟨gs 2,1,none⟩ (.int .i64 hi)).drew.heap.size:=by simp;omega
   clear hent hbx
   go_wp2_with fail
   go_still_tail 8,(by kernel_rfl)
   change wpList _ _ _ _ _ wx.drew
   go_wp2_with fail
   have hend: ∀ wz,Hid (wz=(wx.setCell ⟨gs 2,1,none⟩ (.int .i64 hi)).drew)→Calls Tryz.prog 61 #[.slice ao1 4 cap1] wz fun e w' =>(OnePost (optL 1 lo hi) w) e w' :=fun wz hz=>by
    have h:=hz.out
    subst h
    exact bounds_end hbS hsS GS.out HT.out
   refine(hend _ rfl).mono ?_
   rintro e wz (⟨hn,rfl,hbz⟩|⟨l,ao,cap,hn,hl4,rfl,hbz,hS⟩)
   ·have HN:=Lib.hid hn
    clear hn
    go_wp2
    go_ret2
    exact Or.inl ⟨HN.out,rfl,hbz⟩
   ·have HN:=Lib.hid hn
    have HL:=Lib.hid hl4
    have HS:=Lib.hid hS
    clear hn hl4 hS
    go_wp2
    go_ret2
    exact Or.inr ⟨l,ao,cap,HN.out,HL.out,rfl,hbz,HS.out⟩
  ·go_wp2_with fail
   go_quiet (fail)
   have hbx:Below w.heap.size w (wf.drewN nq):=hbw.trans (Joins.below_draws _ _ _)
   have GS:Hid (Grid (from_ (w.heap.size+1)) (wf.drewN nq) ao1 4 cap1 gs (farG gp 1 2 lo hi)):=by
    show Grid _ _ _ _ _ _ _
    refine(GF.out.below (Joins.below_draws _ _ _)).congr fun a b _ _=>?_
    unfold farG setB
    rw[if_pos h0,←hgf.out,Int.min_eq_left (by omega)]
    split
    ·rename_i e;rw[e.1,e.2]
    ·rfl
   have hsx:w.heap.size+1≤(wf.drewN nq).heap.size:=by simp;omega
   clear hix hcell e1 e2 e3 GF hbw hAlt hglt hF hne h1 h2 k1 k2
   generalize wf.drewN nq=wx at *
   go_wp2_with fail
   refine(bounds_end hbx hsx GS.out HT.out).mono ?_
   rintro e wz (⟨hn,rfl,hbz⟩|⟨l,ao,cap,hn,hl4,rfl,hbz,hS⟩)
   ·have HN:=Lib.hid hn
    clear hn
    go_wp2
    go_ret2
    exact Or.inl ⟨HN.out,rfl,hbz⟩
   ·have HN:=Lib.hid hn
    have HL:=Lib.hid hl4
    have HS:=Lib.hid hS
    clear hn hl4 hS
    go_wp2
    go_ret2
    exact Or.inr ⟨l,ao,cap,HN.out,HL.out,rfl,hbz,HS.out⟩
 ·have hm1:hi= -1:=by omega
  subst hm1
  go_wp2_with fail
  go_quiet (fail)
  have hbx:Below w.heap.size w (wf.drewN nq):=hbw.trans (Joins.below_draws _ _ _)
  have GS:Hid (Grid (from_ (w.heap.size+1)) (wf.drewN nq) ao1 4 cap1 gs (farG gp 1 2 lo (-1))):=by
   show Grid _ _ _ _ _ _ _
   unfold farG
   rw[if_neg (by decide),←hgf.out]
   exact GF.out.below (Joins.below_draws _ _ _)
  have hsx:w.heap.size+1≤(wf.drewN nq).heap.size:=by simp;omega
  clear hix hcell e1 e2 e3 GF hbw hAlt hglt hF hne h1 h2 k1 k2
  generalize wf.drewN nq=wx at *
  go_wp2_with fail
  refine(bounds_end hbx hsx GS.out HT.out).mono ?_
  rintro e wz (⟨hn,rfl,hbz⟩|⟨l,ao,cap,hn,hl4,rfl,hbz,hS⟩)
  ·have HN:=Lib.hid hn
   clear hn
   go_wp2
   go_ret2
   exact Or.inl ⟨HN.out,rfl,hbz⟩
  ·have HN:=Lib.hid hn
   have HL:=Lib.hid hl4
   have HS:=Lib.hid hS
   clear hn hl4 hS
   go_wp2
   go_ret2
   exact Or.inr ⟨l,ao,cap,HN.out,HL.out,rfl,hbz,HS.out⟩
theorem mid_2(lo hi:Int):midG 2 lo hi=farG (lessG (lessG (lessG freeG 0 1 0) 2 3 0) 1 2 1) 1 2 lo hi:=by
 have hb:backR 2=true:=by decide
 have ho:oddR 2=1:=by unfold oddR;rw[hb];rfl
 unfold midG
 rw[ho]
 rfl
theorem tight_2(lo hi:Int)(hl:0≤lo∧lo≤1073741824)(hh: -1≤hi∧hi≤1073741824):
  (tight 4 5 (at2 (gridL 4 (farG (lessG (lessG (lessG freeG 2 3 0) 0 1 0) 3 0 1) 3 0 lo hi)))=none∧optL 2 lo hi=none)∨(∃ d,tight 4 5 (at2 (gridL 4 (farG (lessG (lessG (lessG freeG 2 3 0) 0 1 0) 3 0 1) 3 0 lo hi)))=some d∧optL 2 lo hi=some (gridL 4 d)):=by
 refine opt_tight hl hh sw (fun a _=>?_) ?_
 ·unfold sgR
  rw[show backR 2=true from by decide]
  rfl
 ·rw[mid_2]
  exact(((turned_free.less (x:=0) (y:=1) (by decide) (by decide) 0).less (x:=2) (y:=3) (by decide) (by decide) 0).less (x:=1) (y:=2) (by decide) (by decide) 1).far (x:=1) (y:=2) (by decide) (by decide) lo hi
set_option maxHeartbeats 4000000 in
set_option maxRecDepth 100000 in
theorem bounds_2(lo hi:Int)(w:World)(hl:0≤lo∧lo≤1073741824)(hh: -1≤hi∧hi≤1073741824):
  Calls Tryz.prog 88 #[.agg #[.int .i64 2,.int .i64 lo,.int .i64 hi]] w (OnePost (optL 2 lo hi) w):=by
 have HT:=Lib.hid (tight_2 lo hi hl hh)
 go_enter Tryz.func88,Tryz.ntmps88
 go_wp2_with fail
 refine(freeMatrix_grid 4 (by omega) _).mono ?_
 rintro e w1 ⟨ao1,cap1,gs,rfl,hb1,hG1⟩
 have k0:=hb1.cell (p:=⟨w.heap.size,0,none⟩) (by simp)
 have k1:=hb1.cell (p:=⟨w.heap.size,1,none⟩) (by simp)
 have k2:=hb1.cell (p:=⟨w.heap.size,2,none⟩) (by simp)
 simp at k0 k1 k2
 have hs1:=hb1.size
 have hbw:Below w.heap.size w w1:=(Joins.below_alloc1 w _).trans (hb1.mono (by simp))
 simp only[World.size_alloc]at hs1 hG1
 have G1:=Lib.hid hG1
 clear hb1 hG1
 go_wp2_with fail
 refine(ahead_any (w.heap.size+1) ao1 4 cap1 gs freeG 2 3 0 w1 (by omega) G1.out (by omega) (by omega) (by omega)).mono ?_
 rintro e w2 ⟨rfl,hb2,hG2⟩
 have hs2:=hb2.size
 replace k1:=(hb2.cell (p:=⟨w.heap.size,1,none⟩) (by simp)).trans k1
 replace k2:=(hb2.cell (p:=⟨w.heap.size,2,none⟩) (by simp)).trans k2
 replace hbw:=hbw.trans (hb2.mono (by omega))
 have G2:=Lib.hid hG2
 clear hG2 hb2 G1
 go_wp2_with fail
 refine(ahead_any (w.heap.size+1) ao1 4 cap1 gs (lessG freeG 2 3 0) 0 1 0 w2 (by omega) G2.out (by omega) (by omega) (by omega)).mono ?_
 rintro e w3 ⟨rfl,hb3,hG3⟩
 have hs3:=hb3.size
 replace k1:=(hb3.cell (p:=⟨w.heap.size,1,none⟩) (by simp)).trans k1
 replace k2:=(hb3.cell (p:=⟨w.heap.size,2,none⟩) (by simp)).trans k2
 replace hbw:=hbw.trans (hb3.mono (by omega))
 have G3:=Lib.hid hG3
 clear hG3 hb3 G2
 go_wp2_with fail
 refine(ahead_any (w.heap.size+1) ao1 4 cap1 gs (lessG (lessG freeG 2 3 0) 0 1 0) 3 0 1 w3 (by omega) G3.out (by omega) (by omega) (by omega)).mono ?_
 rintro e w4 ⟨rfl,hb4,hG4⟩
 have hs4:=hb4.size
 replace k1:=(hb4.cell (p:=⟨w.heap.size,1,none⟩) (by simp)).trans k1
 replace k2:=(hb4.cell (p:=⟨w.heap.size,2,none⟩) (by simp)).trans k2
 replace hbw:=hbw.trans (hb4.mono (by omega))
 have G4:=Lib.hid hG4
 clear hG4 hb4 G3
 obtain⟨gp,hgp⟩: ∃ gp,Hid (gp=(lessG (lessG (lessG freeG 2 3 0) 0 1 0) 3 0 1)):=⟨_,rfl⟩
 rw[←hgp.out]at G4 HT
 go_wp2_with fail
 refine(ahead_any (w.heap.size+1) ao1 4 cap1 gs gp 3 0 lo w4 (by omega) G4.out (by omega) (by omega) (by omega)).mono ?_
 rintro e wf ⟨rfl,hbf,hGf⟩
 have hsf:=hbf.size
 replace k1:=(hbf.cell (p:=⟨w.heap.size,1,none⟩) (by simp)).trans k1
 replace k2:=(hbf.cell (p:=⟨w.heap.size,2,none⟩) (by simp)).trans k2
 replace hbw:=hbw.trans (hbf.mono (by omega))
 clear hbf G4 hgp
 have hxy:Hid (3<4∧0<4):=⟨by omega,by omega⟩
 obtain⟨gf,hgf⟩: ∃ gf,Hid (gf=lessG gp 3 0 lo):=⟨_,rfl⟩
 rw[←hgf.out]at hGf
 have GF:=Lib.hid hGf
 have hmx:=hGf.max
 unfold maxLen at hmx
 obtain⟨hh1,hh2⟩:=hh
 obtain⟨Ai,rci,hAlt,hglt,hF,hne,h1,h2,hix,hcell,hent⟩:=hGf.at hxy.out.2
 obtain⟨e1,e2,e3⟩:=hent 3 hxy.out.1
 replace hix: ∀ wx,(Instr.indexAt 78 (.slice ao1 4 cap1) (.int .i64 0)).run Tryz.prog wx= .ok (.pointer (some ⟨Ai,0,none⟩)) wx:=hix
 replace e3: ∀ wx,(Instr.indexAt 26 (.slice (some ⟨gs 0,0,none⟩) 4 rci) (.int .i64 3)).run Tryz.prog wx= .ok (.pointer (some ⟨gs 0,3,none⟩)) wx:=e3
 clear hent hGf
 by_cases h0:0≤hi
 ·by_cases hst:hi<gf 0 3
  ·go_wp2_with fail
   go_quiet (fail)
   have hbx:Below w.heap.size w (wf.drewN nq):=hbw.trans (Joins.below_draws _ _ _)
   have GX:Hid (Grid (from_ (w.heap.size+1)) (wf.drewN nq) ao1 4 cap1 gs gf):=GF.out.below (Joins.below_draws _ _ _)
   have k3:(wf.drewN nq).cell? ⟨w.heap.size,2,none⟩=some (.int .i64 hi):=by simpa using k2
   clear hix hcell e1 e2 e3 GF hbw hAlt hglt hF hne h1 h2 k1 k2
   have hsx:w.heap.size+1≤(wf.drewN nq).heap.size:=by simp;omega
   generalize wf.drewN nq=wx at *
   obtain⟨Ai,rci,hAlt,hglt,hF,hne,h1,h2,hix,hcell,hent⟩:=GX.out.at hxy.out.2
   obtain⟨e1,e2,e3⟩:=hent 3 hxy.out.1
   replace hix: ∀ wx,(Instr.indexAt 78 (.slice ao1 4 cap1) (.int .i64 0)).run Tryz.prog wx= .ok (.pointer (some ⟨Ai,0,none⟩)) wx:=hix
   replace e3: ∀ wx,(Instr.indexAt 26 (.slice (some ⟨gs 0,0,none⟩) 4 rci) (.int .i64 3)).run Tryz.prog wx= .ok (.pointer (some ⟨gs 0,3,none⟩)) wx:=e3
   have GS:Hid (Grid (from_ (w.heap.size+1)) (wx.setCell ⟨gs 0,3,none⟩ (.int .i64 hi)).drew ao1 4 cap1 gs (farG gp 3 0 lo hi)):=by
    show Grid _ _ _ _ _ _ _
    have:=(GX.out.store hxy.out.2 hxy.out.1 hi).same (G:=from_ (w.heap.size+1)) Same.drew
    unfold farG
    rw[if_pos h0,←hgf.out,Int.min_eq_right (by omega)]
    exact this
   have hbS:Below w.heap.size w (wx.setCell ⟨gs 0,3,none⟩ (.int .i64 hi)).drew:=(hbx.setCell (p:=⟨gs 0,3,none⟩) (Nat.le_of_succ_le hF) _).drew
   have hsS:w.heap.size+1≤(wx.setCell ⟨gs 0,3,none⟩ (.int .i64 hi)).drew.heap.size:=by simp;omega
   clear hent hbx
   go_wp2_with fail
   go_still_tail 8,(by kernel_rfl)
   change wpList _ _ _ _ _ wx.drew
   go_wp2_with fail
   have hend: ∀ wz,Hid (wz=(wx.setCell ⟨gs 0,3,none⟩ (.int .i64 hi)).drew)→Calls Tryz.prog 61 #[.slice ao1 4 cap1] wz fun e w' =>(OnePost (optL 2 lo hi) w) e w' :=fun wz hz=>by
    have h:=hz.out
    subst h
    exact bounds_end hbS hsS GS.out HT.out
   refine(hend _ rfl).mono ?_
   rintro e wz (⟨hn,rfl,hbz⟩|⟨l,ao,cap,hn,hl4,rfl,hbz,hS⟩)
   ·have HN:=Lib.hid hn
    clear hn
    go_wp2
    go_ret2
    exact Or.inl ⟨HN.out,rfl,hbz⟩
   ·have HN:=Lib.hid hn
    have HL:=Lib.hid hl4
    have HS:=Lib.hid hS
    clear hn hl4 hS
    go_wp2
    go_ret2
    exact Or.inr ⟨l,ao,cap,HN.out,HL.out,rfl,hbz,HS.out⟩
  ·go_wp2_with fail
   go_quiet (fail)
   have hbx:Below w.heap.size w (wf.drewN nq):=hbw.trans (Joins.below_draws _ _ _)
   have GS:Hid (Grid (from_ (w.heap.size+1)) (wf.drewN nq) ao1 4 cap1 gs (farG gp 3 0 lo hi)):=by
    show Grid _ _ _ _ _ _ _
    refine(GF.out.below (Joins.below_draws _ _ _)).congr fun a b _ _=>?_
    unfold farG setB
    rw[if_pos h0,←hgf.out,Int.min_eq_left (by omega)]
    split
    ·rename_i e;rw[e.1,e.2]
    ·rfl
   have hsx:w.heap.size+1≤(wf.drewN nq).heap.size:=by simp;omega
   clear hix hcell e1 e2 e3 GF hbw hAlt hglt hF hne h1 h2 k1 k2
   generalize wf.drewN nq=wx at *
   go_wp2_with fail
   refine(bounds_end hbx hsx GS.out HT.out).mono ?_
   rintro e wz (⟨hn,rfl,hbz⟩|⟨l,ao,cap,hn,hl4,rfl,hbz,hS⟩)
   ·have HN:=Lib.hid hn
    clear hn
    go_wp2
    go_ret2
    exact Or.inl ⟨HN.out,rfl,hbz⟩
   ·have HN:=Lib.hid hn
    have HL:=Lib.hid hl4
    have HS:=Lib.hid hS
    clear hn hl4 hS
    go_wp2
    go_ret2
    exact Or.inr ⟨l,ao,cap,HN.out,HL.out,rfl,hbz,HS.out⟩
 ·have hm1:hi= -1:=by omega
  subst hm1
  go_wp2_with fail
  go_quiet (fail)
  have hbx:Below w.heap.size w (wf.drewN nq):=hbw.trans (Joins.below_draws _ _ _)
  have GS:Hid (Grid (from_ (w.heap.size+1)) (wf.drewN nq) ao1 4 cap1 gs (farG gp 3 0 lo (-1))):=by
   show Grid _ _ _ _ _ _ _
   unfold farG
   rw[if_neg (by decide),←hgf.out]
   exact GF.out.below (Joins.below_draws _ _ _)
  have hsx:w.heap.size+1≤(wf.drewN nq).heap.size:=by simp;omega
  clear hix hcell e1 e2 e3 GF hbw hAlt hglt hF hne h1 h2 k1 k2
  generalize wf.drewN nq=wx at *
  go_wp2_with fail
  refine(bounds_end hbx hsx GS.out HT.out).mono ?_
  rintro e wz (⟨hn,rfl,hbz⟩|⟨l,ao,cap,hn,hl4,rfl,hbz,hS⟩)
  ·have HN:=Lib.hid hn
   clear hn
   go_wp2
   go_ret2
   exact Or.inl ⟨HN.out,rfl,hbz⟩
  ·have HN:=Lib.hid hn
   have HL:=Lib.hid hl4
   have HS:=Lib.hid hS
   clear hn hl4 hS
   go_wp2
   go_ret2
   exact Or.inr ⟨l,ao,cap,HN.out,HL.out,rfl,hbz,HS.out⟩
theorem mid_3(lo hi:Int):midG 3 lo hi=farG (lessG (lessG (lessG (lessG (lessG (lessG freeG 0 1 0) 2 3 0) 1 2 0) 2 1 0) 0 2 1) 1 3 1) 1 2 lo hi:=by
 have hb:backR 3=false:=by decide
 have ho:oddR 3=3:=by unfold oddR;rw[hb];rfl
 unfold midG
 rw[ho]
 rfl
theorem tight_3(lo hi:Int)(hl:0≤lo∧lo≤1073741824)(hh: -1≤hi∧hi≤1073741824):
  (tight 4 5 (at2 (gridL 4 (farG (lessG (lessG (lessG (lessG (lessG (lessG freeG 0 1 0) 2 3 0) 1 2 0) 2 1 0) 0 2 1) 1 3 1) 1 2 lo hi)))=none∧optL 3 lo hi=none)∨(∃ d,tight 4 5 (at2 (gridL 4 (farG (lessG (lessG (lessG (lessG (lessG (lessG freeG 0 1 0) 2 3 0) 1 2 0) 2 1 0) 0 2 1) 1 3 1) 1 2 lo hi)))=some d∧optL 3 lo hi=some (gridL 4 d)):=by
 refine opt_tight hl hh id (fun a _=>?_) ?_
 ·unfold sgR
  rw[show backR 3=false from by decide]
  rfl
 ·rw[mid_3]
  exact((((((straight_free.less (x:=0) (y:=1) (by decide) (by decide) 0).less (x:=2) (y:=3) (by decide) (by decide) 0).less (x:=1) (y:=2) (by decide) (by decide) 0).less (x:=2) (y:=1) (by decide) (by decide) 0).less (x:=0) (y:=2) (by decide) (by decide) 1).less (x:=1) (y:=3) (by decide) (by decide) 1).far (x:=1) (y:=2) (by decide) (by decide) lo hi
set_option maxHeartbeats 4000000 in
set_option maxRecDepth 100000 in
theorem bounds_3(lo hi:Int)(w:World)(hl:0≤lo∧lo≤1073741824)(hh: -1≤hi∧hi≤1073741824):
  Calls Tryz.prog 88 #[.agg #[.int .i64 3,.int .i64 lo,.int .i64 hi]] w (OnePost (optL 3 lo hi) w):=by
 have HT:=Lib.hid (tight_3 lo hi hl hh)
 go_enter Tryz.func88,Tryz.ntmps88
 go_wp2_with fail
 refine(freeMatrix_grid 4 (by omega) _).mono ?_
 rintro e w1 ⟨ao1,cap1,gs,rfl,hb1,hG1⟩
 have k0:=hb1.cell (p:=⟨w.heap.size,0,none⟩) (by simp)
 have k1:=hb1.cell (p:=⟨w.heap.size,1,none⟩) (by simp)
 have k2:=hb1.cell (p:=⟨w.heap.size,2,none⟩) (by simp)
 simp at k0 k1 k2
 have hs1:=hb1.size
 have hbw:Below w.heap.size w w1:=(Joins.below_alloc1 w _).trans (hb1.mono (by simp))
 simp only[World.size_alloc]at hs1 hG1
 have G1:=Lib.hid hG1
 clear hb1 hG1
 go_wp2_with fail
 refine(ahead_any (w.heap.size+1) ao1 4 cap1 gs freeG 0 1 0 w1 (by omega) G1.out (by omega) (by omega) (by omega)).mono ?_
 rintro e w2 ⟨rfl,hb2,hG2⟩
 have hs2:=hb2.size
 replace k1:=(hb2.cell (p:=⟨w.heap.size,1,none⟩) (by simp)).trans k1
 replace k2:=(hb2.cell (p:=⟨w.heap.size,2,none⟩) (by simp)).trans k2
 replace hbw:=hbw.trans (hb2.mono (by omega))
 have G2:=Lib.hid hG2
 clear hG2 hb2 G1
 go_wp2_with fail
 refine(ahead_any (w.heap.size+1) ao1 4 cap1 gs (lessG freeG 0 1 0) 2 3 0 w2 (by omega) G2.out (by omega) (by omega) (by omega)).mono ?_
 rintro e w3 ⟨rfl,hb3,hG3⟩
 have hs3:=hb3.size
 replace k1:=(hb3.cell (p:=⟨w.heap.size,1,none⟩) (by simp)).trans k1
 replace k2:=(hb3.cell (p:=⟨w.heap.size,2,none⟩) (by simp)).trans k2
 replace hbw:=hbw.trans (hb3.mono (by omega))
 have G3:=Lib.hid hG3
 clear hG3 hb3 G2
 go_wp2_with fail
 refine(ahead_any (w.heap.size+1) ao1 4 cap1 gs (lessG (lessG freeG 0 1 0) 2 3 0) 1 2 0 w3 (by omega) G3.out (by omega) (by omega) (by omega)).mono ?_
 rintro e w4 ⟨rfl,hb4,hG4⟩
 have hs4:=hb4.size
 replace k1:=(hb4.cell (p:=⟨w.heap.size,1,none⟩) (by simp)).trans k1
 replace k2:=(hb4.cell (p:=⟨w.heap.size,2,none⟩) (by simp)).trans k2
 replace hbw:=hbw.trans (hb4.mono (by omega))
 have G4:=Lib.hid hG4
 clear hG4 hb4 G3
 go_wp2_with fail
 refine(ahead_any (w.heap.size+1) ao1 4 cap1 gs (lessG (lessG (lessG freeG 0 1 0) 2 3 0) 1 2 0) 2 1 0 w4 (by omega) G4.out (by omega) (by omega) (by omega)).mono ?_
 rintro e w5 ⟨rfl,hb5,hG5⟩
 have hs5:=hb5.size
 replace k1:=(hb5.cell (p:=⟨w.heap.size,1,none⟩) (by simp)).trans k1
 replace k2:=(hb5.cell (p:=⟨w.heap.size,2,none⟩) (by simp)).trans k2
 replace hbw:=hbw.trans (hb5.mono (by omega))
 have G5:=Lib.hid hG5
 clear hG5 hb5 G4
 go_wp2_with fail
 refine(ahead_any (w.heap.size+1) ao1 4 cap1 gs (lessG (lessG (lessG (lessG freeG 0 1 0) 2 3 0) 1 2 0) 2 1 0) 0 2 1 w5 (by omega) G5.out (by omega) (by omega) (by omega)).mono ?_
 rintro e w6 ⟨rfl,hb6,hG6⟩
 have hs6:=hb6.size
 replace k1:=(hb6.cell (p:=⟨w.heap.size,1,none⟩) (by simp)).trans k1
 replace k2:=(hb6.cell (p:=⟨w.heap.size,2,none⟩) (by simp)).trans k2
 replace hbw:=hbw.trans (hb6.mono (by omega))
 have G6:=Lib.hid hG6
 clear hG6 hb6 G5
 go_wp2_with fail
 refine(ahead_any (w.heap.size+1) ao1 4 cap1 gs (lessG (lessG (lessG (lessG (lessG freeG 0 1 0) 2 3 0) 1 2 0) 2 1 0) 0 2 1) 1 3 1 w6 (by omega) G6.out (by omega) (by omega) (by omega)).mono ?_
 rintro e w7 ⟨rfl,hb7,hG7⟩
 have hs7:=hb7.size
 replace k1:=(hb7.cell (p:=⟨w.heap.size,1,none⟩) (by simp)).trans k1
 replace k2:=(hb7.cell (p:=⟨w.heap.size,2,none⟩) (by simp)).trans k2
 replace hbw:=hbw.trans (hb7.mono (by omega))
 have G7:=Lib.hid hG7
 clear hG7 hb7 G6
 obtain⟨gp,hgp⟩: ∃ gp,Hid (gp=(lessG (lessG (lessG (lessG (lessG (lessG freeG 0 1 0) 2 3 0) 1 2 0) 2 1 0) 0 2 1) 1 3 1)):=⟨_,rfl⟩
 rw[←hgp.out]at G7 HT
 go_wp2_with fail
 refine(ahead_any (w.heap.size+1) ao1 4 cap1 gs gp 1 2 lo w7 (by omega) G7.out (by omega) (by omega) (by omega)).mono ?_
 rintro e wf ⟨rfl,hbf,hGf⟩
 have hsf:=hbf.size
 replace k1:=(hbf.cell (p:=⟨w.heap.size,1,none⟩) (by simp)).trans k1
 replace k2:=(hbf.cell (p:=⟨w.heap.size,2,none⟩) (by simp)).trans k2
 replace hbw:=hbw.trans (hbf.mono (by omega))
 clear hbf G7 hgp
 have hxy:Hid (1<4∧2<4):=⟨by omega,by omega⟩
 obtain⟨gf,hgf⟩: ∃ gf,Hid (gf=lessG gp 1 2 lo):=⟨_,rfl⟩
 rw[←hgf.out]at hGf
 have GF:=Lib.hid hGf
 have hmx:=hGf.max
 unfold maxLen at hmx
 obtain⟨hh1,hh2⟩:=hh
 obtain⟨Ai,rci,hAlt,hglt,hF,hne,h1,h2,hix,hcell,hent⟩:=hGf.at hxy.out.2
 obtain⟨e1,e2,e3⟩:=hent 1 hxy.out.1
 replace hix: ∀ wx,(Instr.indexAt 78 (.slice ao1 4 cap1) (.int .i64 2)).run Tryz.prog wx= .ok (.pointer (some ⟨Ai,2,none⟩)) wx:=hix
 replace e3: ∀ wx,(Instr.indexAt 26 (.slice (some ⟨gs 2,0,none⟩) 4 rci) (.int .i64 1)).run Tryz.prog wx= .ok (.pointer (some ⟨gs 2,1,none⟩)) wx:=e3
 clear hent hGf
 by_cases h0:0≤hi
 ·by_cases hst:hi<gf 2 1
  ·go_wp2_with fail
   go_quiet (fail)
   have hbx:Below w.heap.size w (wf.drewN nq):=hbw.trans (Joins.below_draws _ _ _)
   have GX:Hid (Grid (from_ (w.heap.size+1)) (wf.drewN nq) ao1 4 cap1 gs gf):=GF.out.below (Joins.below_draws _ _ _)
   have k3:(wf.drewN nq).cell? ⟨w.heap.size,2,none⟩=some (.int .i64 hi):=by simpa using k2
   clear hix hcell e1 e2 e3 GF hbw hAlt hglt hF hne h1 h2 k1 k2
   have hsx:w.heap.size+1≤(wf.drewN nq).heap.size:=by simp;omega
   generalize wf.drewN nq=wx at *
   obtain⟨Ai,rci,hAlt,hglt,hF,hne,h1,h2,hix,hcell,hent⟩:=GX.out.at hxy.out.2
   obtain⟨e1,e2,e3⟩:=hent 1 hxy.out.1
   replace hix: ∀ wx,(Instr.indexAt 78 (.slice ao1 4 cap1) (.int .i64 2)).run Tryz.prog wx= .ok (.pointer (some ⟨Ai,2,none⟩)) wx:=hix
   replace e3: ∀ wx,(Instr.indexAt 26 (.slice (some ⟨gs 2,0,none⟩) 4 rci) (.int .i64 1)).run Tryz.prog wx= .ok (.pointer (some ⟨gs 2,1,none⟩)) wx:=e3
   have GS:Hid (Grid (from_ (w.heap.size+1)) (wx.setCell ⟨gs 2,1,none⟩ (.int .i64 hi)).drew ao1 4 cap1 gs (farG gp 1 2 lo hi)):=by
    show Grid _ _ _ _ _ _ _
    have:=(GX.out.store hxy.out.2 hxy.out.1 hi).same (G:=from_ (w.heap.size+1)) Same.drew
    unfold farG
    rw[if_pos h0,←hgf.out,Int.min_eq_right (by omega)]
    exact this
   have hbS:Below w.heap.size w (wx.setCell ⟨gs 2,1,none⟩ (.int .i64 hi)).drew:=(hbx.setCell (p:=⟨gs 2,1,none⟩) (Nat.le_of_succ_le hF) _).drew
   have hsS:w.heap.size+1≤(wx.setCell ⟨gs 2,1,none⟩ (.int .i64 hi)).drew.heap.size:=by simp;omega
   clear hent hbx
   go_wp2_with fail
   go_still_tail 8,(by kernel_rfl)
   change wpList _ _ _ _ _ wx.drew
   go_wp2_with fail
   have hend: ∀ wz,Hid (wz=(wx.setCell ⟨gs 2,1,none⟩ (.int .i64 hi)).drew)→Calls Tryz.prog 61 #[.slice ao1 4 cap1] wz fun e w' =>(OnePost (optL 3 lo hi) w) e w' :=fun wz hz=>by
    have h:=hz.out
    subst h
    exact bounds_end hbS hsS GS.out HT.out
   refine(hend _ rfl).mono ?_
   rintro e wz (⟨hn,rfl,hbz⟩|⟨l,ao,cap,hn,hl4,rfl,hbz,hS⟩)
   ·have HN:=Lib.hid hn
    clear hn
    go_wp2
    go_ret2
    exact Or.inl ⟨HN.out,rfl,hbz⟩
   ·have HN:=Lib.hid hn
    have HL:=Lib.hid hl4
    have HS:=Lib.hid hS
    clear hn hl4 hS
    go_wp2
    go_ret2
    exact Or.inr ⟨l,ao,cap,HN.out,HL.out,rfl,hbz,HS.out⟩
  ·go_wp2_with fail
   go_quiet (fail)
   have hbx:Below w.heap.size w (wf.drewN nq):=hbw.trans (Joins.below_draws _ _ _)
   have GS:Hid (Grid (from_ (w.heap.size+1)) (wf.drewN nq) ao1 4 cap1 gs (farG gp 1 2 lo hi)):=by
    show Grid _ _ _ _ _ _ _
    refine(GF.out.below (Joins.below_draws _ _ _)).congr fun a b _ _=>?_
    unfold farG setB
    rw[if_pos h0,←hgf.out,Int.min_eq_left (by omega)]
    split
    ·rename_i e;rw[e.1,e.2]
    ·rfl
   have hsx:w.heap.size+1≤(wf.drewN nq).heap.size:=by simp;omega
   clear hix hcell e1 e2 e3 GF hbw hAlt hglt hF hne h1 h2 k1 k2
   generalize wf.drewN nq=wx at *
   go_wp2_with fail
   refine(bounds_end hbx hsx GS.out HT.out).mono ?_
   rintro e wz (⟨hn,rfl,hbz⟩|⟨l,ao,cap,hn,hl4,rfl,hbz,hS⟩)
   ·have HN:=Lib.hid hn
    clear hn
    go_wp2
    go_ret2
    exact Or.inl ⟨HN.out,rfl,hbz⟩
   ·have HN:=Lib.hid hn
    have HL:=Lib.hid hl4
    have HS:=Lib.hid hS
    clear hn hl4 hS
    go_wp2
    go_ret2
    exact Or.inr ⟨l,ao,cap,HN.out,HL.out,rfl,hbz,HS.out⟩
 ·have hm1:hi= -1:=by omega
  subst hm1
  go_wp2_with fail
  go_quiet (fail)
  have hbx:Below w.heap.size w (wf.drewN nq):=hbw.trans (Joins.below_draws _ _ _)
  have GS:Hid (Grid (from_ (w.heap.size+1)) (wf.drewN nq) ao1 4 cap1 gs (farG gp 1 2 lo (-1))):=by
   show Grid _ _ _ _ _ _ _
   unfold farG
   rw[if_neg (by decide),←hgf.out]
   exact GF.out.below (Joins.below_draws _ _ _)
  have hsx:w.heap.size+1≤(wf.drewN nq).heap.size:=by simp;omega
  clear hix hcell e1 e2 e3 GF hbw hAlt hglt hF hne h1 h2 k1 k2
  generalize wf.drewN nq=wx at *
  go_wp2_with fail
  refine(bounds_end hbx hsx GS.out HT.out).mono ?_
  rintro e wz (⟨hn,rfl,hbz⟩|⟨l,ao,cap,hn,hl4,rfl,hbz,hS⟩)
  ·have HN:=Lib.hid hn
   clear hn
   go_wp2
   go_ret2
   exact Or.inl ⟨HN.out,rfl,hbz⟩
  ·have HN:=Lib.hid hn
   have HL:=Lib.hid hl4
   have HS:=Lib.hid hS
   clear hn hl4 hS
   go_wp2
   go_ret2
   exact Or.inr ⟨l,ao,cap,HN.out,HL.out,rfl,hbz,HS.out⟩
theorem mid_4(lo hi:Int):midG 4 lo hi=farG (lessG (lessG (lessG (lessG (lessG (lessG freeG 0 1 0) 2 3 0) 1 2 0) 2 1 0) 0 2 1) 1 3 1) 1 2 lo hi:=by
 have hb:backR 4=true:=by decide
 have ho:oddR 4=3:=by unfold oddR;rw[hb];rfl
 unfold midG
 rw[ho]
 rfl
theorem tight_4(lo hi:Int)(hl:0≤lo∧lo≤1073741824)(hh: -1≤hi∧hi≤1073741824):
  (tight 4 5 (at2 (gridL 4 (farG (lessG (lessG (lessG (lessG (lessG (lessG freeG 2 3 0) 0 1 0) 3 0 0) 0 3 0) 2 0 1) 3 1 1) 3 0 lo hi)))=none∧optL 4 lo hi=none)∨(∃ d,tight 4 5 (at2 (gridL 4 (farG (lessG (lessG (lessG (lessG (lessG (lessG freeG 2 3 0) 0 1 0) 3 0 0) 0 3 0) 2 0 1) 3 1 1) 3 0 lo hi)))=some d∧optL 4 lo hi=some (gridL 4 d)):=by
 refine opt_tight hl hh sw (fun a _=>?_) ?_
 ·unfold sgR
  rw[show backR 4=true from by decide]
  rfl
 ·rw[mid_4]
  exact((((((turned_free.less (x:=0) (y:=1) (by decide) (by decide) 0).less (x:=2) (y:=3) (by decide) (by decide) 0).less (x:=1) (y:=2) (by decide) (by decide) 0).less (x:=2) (y:=1) (by decide) (by decide) 0).less (x:=0) (y:=2) (by decide) (by decide) 1).less (x:=1) (y:=3) (by decide) (by decide) 1).far (x:=1) (y:=2) (by decide) (by decide) lo hi
set_option maxHeartbeats 4000000 in
set_option maxRecDepth 100000 in
theorem bounds_4(lo hi:Int)(w:World)(hl:0≤lo∧lo≤1073741824)(hh: -1≤hi∧hi≤1073741824):
  Calls Tryz.prog 88 #[.agg #[.int .i64 4,.int .i64 lo,.int .i64 hi]] w (OnePost (optL 4 lo hi) w):=by
 have HT:=Lib.hid (tight_4 lo hi hl hh)
 go_enter Tryz.func88,Tryz.ntmps88
 go_wp2_with fail
 refine(freeMatrix_grid 4 (by omega) _).mono ?_
 rintro e w1 ⟨ao1,cap1,gs,rfl,hb1,hG1⟩
 have k0:=hb1.cell (p:=⟨w.heap.size,0,none⟩) (by simp)
 have k1:=hb1.cell (p:=⟨w.heap.size,1,none⟩) (by simp)
 have k2:=hb1.cell (p:=⟨w.heap.size,2,none⟩) (by simp)
 simp at k0 k1 k2
 have hs1:=hb1.size
 have hbw:Below w.heap.size w w1:=(Joins.below_alloc1 w _).trans (hb1.mono (by simp))
 simp only[World.size_alloc]at hs1 hG1
 have G1:=Lib.hid hG1
 clear hb1 hG1
 go_wp2_with fail
 refine(ahead_any (w.heap.size+1) ao1 4 cap1 gs freeG 2 3 0 w1 (by omega) G1.out (by omega) (by omega) (by omega)).mono ?_
 rintro e w2 ⟨rfl,hb2,hG2⟩
 have hs2:=hb2.size
 replace k1:=(hb2.cell (p:=⟨w.heap.size,1,none⟩) (by simp)).trans k1
 replace k2:=(hb2.cell (p:=⟨w.heap.size,2,none⟩) (by simp)).trans k2
 replace hbw:=hbw.trans (hb2.mono (by omega))
 have G2:=Lib.hid hG2
 clear hG2 hb2 G1
 go_wp2_with fail
 refine(ahead_any (w.heap.size+1) ao1 4 cap1 gs (lessG freeG 2 3 0) 0 1 0 w2 (by omega) G2.out (by omega) (by omega) (by omega)).mono ?_
 rintro e w3 ⟨rfl,hb3,hG3⟩
 have hs3:=hb3.size
 replace k1:=(hb3.cell (p:=⟨w.heap.size,1,none⟩) (by simp)).trans k1
 replace k2:=(hb3.cell (p:=⟨w.heap.size,2,none⟩) (by simp)).trans k2
 replace hbw:=hbw.trans (hb3.mono (by omega))
 have G3:=Lib.hid hG3
 clear hG3 hb3 G2
 go_wp2_with fail
 refine(ahead_any (w.heap.size+1) ao1 4 cap1 gs (lessG (lessG freeG 2 3 0) 0 1 0) 3 0 0 w3 (by omega) G3.out (by omega) (by omega) (by omega)).mono ?_
 rintro e w4 ⟨rfl,hb4,hG4⟩
 have hs4:=hb4.size
 replace k1:=(hb4.cell (p:=⟨w.heap.size,1,none⟩) (by simp)).trans k1
 replace k2:=(hb4.cell (p:=⟨w.heap.size,2,none⟩) (by simp)).trans k2
 replace hbw:=hbw.trans (hb4.mono (by omega))
 have G4:=Lib.hid hG4
 clear hG4 hb4 G3
 go_wp2_with fail
 refine(ahead_any (w.heap.size+1) ao1 4 cap1 gs (lessG (lessG (lessG freeG 2 3 0) 0 1 0) 3 0 0) 0 3 0 w4 (by omega) G4.out (by omega) (by omega) (by omega)).mono ?_
 rintro e w5 ⟨rfl,hb5,hG5⟩
 have hs5:=hb5.size
 replace k1:=(hb5.cell (p:=⟨w.heap.size,1,none⟩) (by simp)).trans k1
 replace k2:=(hb5.cell (p:=⟨w.heap.size,2,none⟩) (by simp)).trans k2
 replace hbw:=hbw.trans (hb5.mono (by omega))
 have G5:=Lib.hid hG5
 clear hG5 hb5 G4
 go_wp2_with fail
 refine(ahead_any (w.heap.size+1) ao1 4 cap1 gs (lessG (lessG (lessG (lessG freeG 2 3 0) 0 1 0) 3 0 0) 0 3 0) 2 0 1 w5 (by omega) G5.out (by omega) (by omega) (by omega)).mono ?_
 rintro e w6 ⟨rfl,hb6,hG6⟩
 have hs6:=hb6.size
 replace k1:=(hb6.cell (p:=⟨w.heap.size,1,none⟩) (by simp)).trans k1
 replace k2:=(hb6.cell (p:=⟨w.heap.size,2,none⟩) (by simp)).trans k2
 replace hbw:=hbw.trans (hb6.mono (by omega))
 have G6:=Lib.hid hG6
 clear hG6 hb6 G5
 go_wp2_with fail
 refine(ahead_any (w.heap.size+1) ao1 4 cap1 gs (lessG (lessG (lessG (lessG (lessG freeG 2 3 0) 0 1 0) 3 0 0) 0 3 0) 2 0 1) 3 1 1 w6 (by omega) G6.out (by omega) (by omega) (by omega)).mono ?_
 rintro e w7 ⟨rfl,hb7,hG7⟩
 have hs7:=hb7.size
 replace k1:=(hb7.cell (p:=⟨w.heap.size,1,none⟩) (by simp)).trans k1
 replace k2:=(hb7.cell (p:=⟨w.heap.size,2,none⟩) (by simp)).trans k2
 replace hbw:=hbw.trans (hb7.mono (by omega))
 have G7:=Lib.hid hG7
 clear hG7 hb7 G6
 obtain⟨gp,hgp⟩: ∃ gp,Hid (gp=(lessG (lessG (lessG (lessG (lessG (lessG freeG 2 3 0) 0 1 0) 3 0 0) 0 3 0) 2 0 1) 3 1 1)):=⟨_,rfl⟩
 rw[←hgp.out]at G7 HT
 go_wp2_with fail
 refine(ahead_any (w.heap.size+1) ao1 4 cap1 gs gp 3 0 lo w7 (by omega) G7.out (by omega) (by omega) (by omega)).mono ?_
 rintro e wf ⟨rfl,hbf,hGf⟩
 have hsf:=hbf.size
 replace k1:=(hbf.cell (p:=⟨w.heap.size,1,none⟩) (by simp)).trans k1
 replace k2:=(hbf.cell (p:=⟨w.heap.size,2,none⟩) (by simp)).trans k2
 replace hbw:=hbw.trans (hbf.mono (by omega))
 clear hbf G7 hgp
 have hxy:Hid (3<4∧0<4):=⟨by omega,by omega⟩
 obtain⟨gf,hgf⟩: ∃ gf,Hid (gf=lessG gp 3 0 lo):=⟨_,rfl⟩
 rw[←hgf.out]at hGf
 have GF:=Lib.hid hGf
 have hmx:=hGf.max
 unfold maxLen at hmx
 obtain⟨hh1,hh2⟩:=hh
 obtain⟨Ai,rci,hAlt,hglt,hF,hne,h1,h2,hix,hcell,hent⟩:=hGf.at hxy.out.2
 obtain⟨e1,e2,e3⟩:=hent 3 hxy.out.1
 replace hix: ∀ wx,(Instr.indexAt 78 (.slice ao1 4 cap1) (.int .i64 0)).run Tryz.prog wx= .ok (.pointer (some ⟨Ai,0,none⟩)) wx:=hix
 replace e3: ∀ wx,(Instr.indexAt 26 (.slice (some ⟨gs 0,0,none⟩) 4 rci) (.int .i64 3)).run Tryz.prog wx= .ok (.pointer (some ⟨gs 0,3,none⟩)) wx:=e3
 clear hent hGf
 by_cases h0:0≤hi
 ·by_cases hst:hi<gf 0 3
  ·go_wp2_with fail
   go_quiet (fail)
   have hbx:Below w.heap.size w (wf.drewN nq):=hbw.trans (Joins.below_draws _ _ _)
   have GX:Hid (Grid (from_ (w.heap.size+1)) (wf.drewN nq) ao1 4 cap1 gs gf):=GF.out.below (Joins.below_draws _ _ _)
   have k3:(wf.drewN nq).cell? ⟨w.heap.size,2,none⟩=some (.int .i64 hi):=by simpa using k2
   clear hix hcell e1 e2 e3 GF hbw hAlt hglt hF hne h1 h2 k1 k2
   have hsx:w.heap.size+1≤(wf.drewN nq).heap.size:=by simp;omega
   generalize wf.drewN nq=wx at *
   obtain⟨Ai,rci,hAlt,hglt,hF,hne,h1,h2,hix,hcell,hent⟩:=GX.out.at hxy.out.2
   obtain⟨e1,e2,e3⟩:=hent 3 hxy.out.1
   replace hix: ∀ wx,(Instr.indexAt 78 (.slice ao1 4 cap1) (.int .i64 0)).run Tryz.prog wx= .ok (.pointer (some ⟨Ai,0,none⟩)) wx:=hix
   replace e3: ∀ wx,(Instr.indexAt 26 (.slice (some ⟨gs 0,0,none⟩) 4 rci) (.int .i64 3)).run Tryz.prog wx= .ok (.pointer (some ⟨gs 0,3,none⟩)) wx:=e3
   have GS:Hid (Grid (from_ (w.heap.size+1)) (wx.setCell ⟨gs 0,3,none⟩ (.int .i64 hi)).drew ao1 4 cap1 gs (farG gp 3 0 lo hi)):=by
    show Grid _ _ _ _ _ _ _
    have:=(GX.out.store hxy.out.2 hxy.out.1 hi).same (G:=from_ (w.heap.size+1)) Same.drew
    unfold farG
    rw[if_pos h0,←hgf.out,Int.min_eq_right (by omega)]
    exact this
   have hbS:Below w.heap.size w (wx.setCell ⟨gs 0,3,none⟩ (.int .i64 hi)).drew:=(hbx.setCell (p:=⟨gs 0,3,none⟩) (Nat.le_of_succ_le hF) _).drew
   have hsS:w.heap.size+1≤(wx.setCell ⟨gs 0,3,none⟩ (.int .i64 hi)).drew.heap.size:=by simp;omega
   clear hent hbx
   go_wp2_with fail
   go_still_tail 8,(by kernel_rfl)
   change wpList _ _ _ _ _ wx.drew
   go_wp2_with fail
   have hend: ∀ wz,Hid (wz=(wx.setCell ⟨gs 0,3,none⟩ (.int .i64 hi)).drew)→Calls Tryz.prog 61 #[.slice ao1 4 cap1] wz fun e w' =>(OnePost (optL 4 lo hi) w) e w' :=fun wz hz=>by
    have h:=hz.out
    subst h
    exact bounds_end hbS hsS GS.out HT.out
   refine(hend _ rfl).mono ?_
   rintro e wz (⟨hn,rfl,hbz⟩|⟨l,ao,cap,hn,hl4,rfl,hbz,hS⟩)
   ·have HN:=Lib.hid hn
    clear hn
    go_wp2
    go_ret2
    exact Or.inl ⟨HN.out,rfl,hbz⟩
   ·have HN:=Lib.hid hn
    have HL:=Lib.hid hl4
    have HS:=Lib.hid hS
    clear hn hl4 hS
    go_wp2
    go_ret2
    exact Or.inr ⟨l,ao,cap,HN.out,HL.out,rfl,hbz,HS.out⟩
  ·go_wp2_with fail
   go_quiet (fail)
   have hbx:Below w.heap.size w (wf.drewN nq):=hbw.trans (Joins.below_draws _ _ _)
   have GS:Hid (Grid (from_ (w.heap.size+1)) (wf.drewN nq) ao1 4 cap1 gs (farG gp 3 0 lo hi)):=by
    show Grid _ _ _ _ _ _ _
    refine(GF.out.below (Joins.below_draws _ _ _)).congr fun a b _ _=>?_
    unfold farG setB
    rw[if_pos h0,←hgf.out,Int.min_eq_left (by omega)]
    split
    ·rename_i e;rw[e.1,e.2]
    ·rfl
   have hsx:w.heap.size+1≤(wf.drewN nq).heap.size:=by simp;omega
   clear hix hcell e1 e2 e3 GF hbw hAlt hglt hF hne h1 h2 k1 k2
   generalize wf.drewN nq=wx at *
   go_wp2_with fail
   refine(bounds_end hbx hsx GS.out HT.out).mono ?_
   rintro e wz (⟨hn,rfl,hbz⟩|⟨l,ao,cap,hn,hl4,rfl,hbz,hS⟩)
   ·have HN:=Lib.hid hn
    clear hn
    go_wp2
    go_ret2
    exact Or.inl ⟨HN.out,rfl,hbz⟩
   ·have HN:=Lib.hid hn
    have HL:=Lib.hid hl4
    have HS:=Lib.hid hS
    clear hn hl4 hS
    go_wp2
    go_ret2
    exact Or.inr ⟨l,ao,cap,HN.out,HL.out,rfl,hbz,HS.out⟩
 ·have hm1:hi= -1:=by omega
  subst hm1
  go_wp2_with fail
  go_quiet (fail)
  have hbx:Below w.heap.size w (wf.drewN nq):=hbw.trans (Joins.below_draws _ _ _)
  have GS:Hid (Grid (from_ (w.heap.size+1)) (wf.drewN nq) ao1 4 cap1 gs (farG gp 3 0 lo (-1))):=by
   show Grid _ _ _ _ _ _ _
   unfold farG
   rw[if_neg (by decide),←hgf.out]
   exact GF.out.below (Joins.below_draws _ _ _)
  have hsx:w.heap.size+1≤(wf.drewN nq).heap.size:=by simp;omega
  clear hix hcell e1 e2 e3 GF hbw hAlt hglt hF hne h1 h2 k1 k2
  generalize wf.drewN nq=wx at *
  go_wp2_with fail
  refine(bounds_end hbx hsx GS.out HT.out).mono ?_
  rintro e wz (⟨hn,rfl,hbz⟩|⟨l,ao,cap,hn,hl4,rfl,hbz,hS⟩)
  ·have HN:=Lib.hid hn
   clear hn
   go_wp2
   go_ret2
   exact Or.inl ⟨HN.out,rfl,hbz⟩
  ·have HN:=Lib.hid hn
   have HL:=Lib.hid hl4
   have HS:=Lib.hid hS
   clear hn hl4 hS
   go_wp2
   go_ret2
   exact Or.inr ⟨l,ao,cap,HN.out,HL.out,rfl,hbz,HS.out⟩
theorem mid_5(lo hi:Int):midG 5 lo hi=farG (lessG (lessG (lessG (lessG (lessG freeG 0 1 0) 2 3 0) 0 2 1) 2 1 1) 1 3 1) 2 1 lo hi:=by
 have hb:backR 5=false:=by decide
 have ho:oddR 5=5:=by unfold oddR;rw[hb];rfl
 unfold midG
 rw[ho]
 rfl
theorem tight_5(lo hi:Int)(hl:0≤lo∧lo≤1073741824)(hh: -1≤hi∧hi≤1073741824):
  (tight 4 5 (at2 (gridL 4 (farG (lessG (lessG (lessG (lessG (lessG freeG 0 1 0) 2 3 0) 0 2 1) 2 1 1) 1 3 1) 2 1 lo hi)))=none∧optL 5 lo hi=none)∨(∃ d,tight 4 5 (at2 (gridL 4 (farG (lessG (lessG (lessG (lessG (lessG freeG 0 1 0) 2 3 0) 0 2 1) 2 1 1) 1 3 1) 2 1 lo hi)))=some d∧optL 5 lo hi=some (gridL 4 d)):=by
 refine opt_tight hl hh id (fun a _=>?_) ?_
 ·unfold sgR
  rw[show backR 5=false from by decide]
  rfl
 ·rw[mid_5]
  exact(((((straight_free.less (x:=0) (y:=1) (by decide) (by decide) 0).less (x:=2) (y:=3) (by decide) (by decide) 0).less (x:=0) (y:=2) (by decide) (by decide) 1).less (x:=2) (y:=1) (by decide) (by decide) 1).less (x:=1) (y:=3) (by decide) (by decide) 1).far (x:=2) (y:=1) (by decide) (by decide) lo hi
set_option maxHeartbeats 4000000 in
set_option maxRecDepth 100000 in
theorem bounds_5(lo hi:Int)(w:World)(hl:0≤lo∧lo≤1073741824)(hh: -1≤hi∧hi≤1073741824):
  Calls Tryz.prog 88 #[.agg #[.int .i64 5,.int .i64 lo,.int .i64 hi]] w (OnePost (optL 5 lo hi) w):=by
 have HT:=Lib.hid (tight_5 lo hi hl hh)
 go_enter Tryz.func88,Tryz.ntmps88
 go_wp2_with fail
 refine(freeMatrix_grid 4 (by omega) _).mono ?_
 rintro e w1 ⟨ao1,cap1,gs,rfl,hb1,hG1⟩
 have k0:=hb1.cell (p:=⟨w.heap.size,0,none⟩) (by simp)
 have k1:=hb1.cell (p:=⟨w.heap.size,1,none⟩) (by simp)
 have k2:=hb1.cell (p:=⟨w.heap.size,2,none⟩) (by simp)
 simp at k0 k1 k2
 have hs1:=hb1.size
 have hbw:Below w.heap.size w w1:=(Joins.below_alloc1 w _).trans (hb1.mono (by simp))
 simp only[World.size_alloc]at hs1 hG1
 have G1:=Lib.hid hG1
 clear hb1 hG1
 go_wp2_with fail
 refine(ahead_any (w.heap.size+1) ao1 4 cap1 gs freeG 0 1 0 w1 (by omega) G1.out (by omega) (by omega) (by omega)).mono ?_
 rintro e w2 ⟨rfl,hb2,hG2⟩
 have hs2:=hb2.size
 replace k1:=(hb2.cell (p:=⟨w.heap.size,1,none⟩) (by simp)).trans k1
 replace k2:=(hb2.cell (p:=⟨w.heap.size,2,none⟩) (by simp)).trans k2
 replace hbw:=hbw.trans (hb2.mono (by omega))
 have G2:=Lib.hid hG2
 clear hG2 hb2 G1
 go_wp2_with fail
 refine(ahead_any (w.heap.size+1) ao1 4 cap1 gs (lessG freeG 0 1 0) 2 3 0 w2 (by omega) G2.out (by omega) (by omega) (by omega)).mono ?_
 rintro e w3 ⟨rfl,hb3,hG3⟩
 have hs3:=hb3.size
 replace k1:=(hb3.cell (p:=⟨w.heap.size,1,none⟩) (by simp)).trans k1
 replace k2:=(hb3.cell (p:=⟨w.heap.size,2,none⟩) (by simp)).trans k2
 replace hbw:=hbw.trans (hb3.mono (by omega))
 have G3:=Lib.hid hG3
 clear hG3 hb3 G2
 go_wp2_with fail
 refine(ahead_any (w.heap.size+1) ao1 4 cap1 gs (lessG (lessG freeG 0 1 0) 2 3 0) 0 2 1 w3 (by omega) G3.out (by omega) (by omega) (by omega)).mono ?_
 rintro e w4 ⟨rfl,hb4,hG4⟩
 have hs4:=hb4.size
 replace k1:=(hb4.cell (p:=⟨w.heap.size,1,none⟩) (by simp)).trans k1
 replace k2:=(hb4.cell (p:=⟨w.heap.size,2,none⟩) (by simp)).trans k2
 replace hbw:=hbw.trans (hb4.mono (by omega))
 have G4:=Lib.hid hG4
 clear hG4 hb4 G3
 go_wp2_with fail
 refine(ahead_any (w.heap.size+1) ao1 4 cap1 gs (lessG (lessG (lessG freeG 0 1 0) 2 3 0) 0 2 1) 2 1 1 w4 (by omega) G4.out (by omega) (by omega) (by omega)).mono ?_
 rintro e w5 ⟨rfl,hb5,hG5⟩
 have hs5:=hb5.size
 replace k1:=(hb5.cell (p:=⟨w.heap.size,1,none⟩) (by simp)).trans k1
 replace k2:=(hb5.cell (p:=⟨w.heap.size,2,none⟩) (by simp)).trans k2
 replace hbw:=hbw.trans (hb5.mono (by omega))
 have G5:=Lib.hid hG5
 clear hG5 hb5 G4
 go_wp2_with fail
 refine(ahead_any (w.heap.size+1) ao1 4 cap1 gs (lessG (lessG (lessG (lessG freeG 0 1 0) 2 3 0) 0 2 1) 2 1 1) 1 3 1 w5 (by omega) G5.out (by omega) (by omega) (by omega)).mono ?_
 rintro e w6 ⟨rfl,hb6,hG6⟩
 have hs6:=hb6.size
 replace k1:=(hb6.cell (p:=⟨w.heap.size,1,none⟩) (by simp)).trans k1
 replace k2:=(hb6.cell (p:=⟨w.heap.size,2,none⟩) (by simp)).trans k2
 replace hbw:=hbw.trans (hb6.mono (by omega))
 have G6:=Lib.hid hG6
 clear hG6 hb6 G5
 obtain⟨gp,hgp⟩: ∃ gp,Hid (gp=(lessG (lessG (lessG (lessG (lessG freeG 0 1 0) 2 3 0) 0 2 1) 2 1 1) 1 3 1)):=⟨_,rfl⟩
 rw[←hgp.out]at G6 HT
 go_wp2_with fail
 refine(ahead_any (w.heap.size+1) ao1 4 cap1 gs gp 2 1 lo w6 (by omega) G6.out (by omega) (by omega) (by omega)).mono ?_
 rintro e wf ⟨rfl,hbf,hGf⟩
 have hsf:=hbf.size
 replace k1:=(hbf.cell (p:=⟨w.heap.size,1,none⟩) (by simp)).trans k1
 replace k2:=(hbf.cell (p:=⟨w.heap.size,2,none⟩) (by simp)).trans k2
 replace hbw:=hbw.trans (hbf.mono (by omega))
 clear hbf G6 hgp
 have hxy:Hid (2<4∧1<4):=⟨by omega,by omega⟩
 obtain⟨gf,hgf⟩: ∃ gf,Hid (gf=lessG gp 2 1 lo):=⟨_,rfl⟩
 rw[←hgf.out]at hGf
 have GF:=Lib.hid hGf
 have hmx:=hGf.max
 unfold maxLen at hmx
 obtain⟨hh1,hh2⟩:=hh
 obtain⟨Ai,rci,hAlt,hglt,hF,hne,h1,h2,hix,hcell,hent⟩:=hGf.at hxy.out.2
 obtain⟨e1,e2,e3⟩:=hent 2 hxy.out.1
 replace hix: ∀ wx,(Instr.indexAt 78 (.slice ao1 4 cap1) (.int .i64 1)).run Tryz.prog wx= .ok (.pointer (some ⟨Ai,1,none⟩)) wx:=hix
 replace e3: ∀ wx,(Instr.indexAt 26 (.slice (some ⟨gs 1,0,none⟩) 4 rci) (.int .i64 2)).run Tryz.prog wx= .ok (.pointer (some ⟨gs 1,2,none⟩)) wx:=e3
 clear hent hGf
 by_cases h0:0≤hi
 ·by_cases hst:hi<gf 1 2
  ·go_wp2_with fail
   go_quiet (fail)
   have hbx:Below w.heap.size w (wf.drewN nq):=hbw.trans (Joins.below_draws _ _ _)
   have GX:Hid (Grid (from_ (w.heap.size+1)) (wf.drewN nq) ao1 4 cap1 gs gf):=GF.out.below (Joins.below_draws _ _ _)
   have k3:(wf.drewN nq).cell? ⟨w.heap.size,2,none⟩=some (.int .i64 hi):=by simpa using k2
   clear hix hcell e1 e2 e3 GF hbw hAlt hglt hF hne h1 h2 k1 k2
   have hsx:w.heap.size+1≤(wf.drewN nq).heap.size:=by simp;omega
   generalize wf.drewN nq=wx at *
   obtain⟨Ai,rci,hAlt,hglt,hF,hne,h1,h2,hix,hcell,hent⟩:=GX.out.at hxy.out.2
   obtain⟨e1,e2,e3⟩:=hent 2 hxy.out.1
   replace hix: ∀ wx,(Instr.indexAt 78 (.slice ao1 4 cap1) (.int .i64 1)).run Tryz.prog wx= .ok (.pointer (some ⟨Ai,1,none⟩)) wx:=hix
   replace e3: ∀ wx,(Instr.indexAt 26 (.slice (some ⟨gs 1,0,none⟩) 4 rci) (.int .i64 2)).run Tryz.prog wx= .ok (.pointer (some ⟨gs 1,2,none⟩)) wx:=e3
   have GS:Hid (Grid (from_ (w.heap.size+1)) (wx.setCell ⟨gs 1,2,none⟩ (.int .i64 hi)).drew ao1 4 cap1 gs (farG gp 2 1 lo hi)):=by
    show Grid _ _ _ _ _ _ _
    have:=(GX.out.store hxy.out.2 hxy.out.1 hi).same (G:=from_ (w.heap.size+1)) Same.drew
    unfold farG
    rw[if_pos h0,←hgf.out,Int.min_eq_right (by omega)]
    exact this
   have hbS:Below w.heap.size w (wx.setCell ⟨gs 1,2,none⟩ (.int .i64 hi)).drew:=(hbx.setCell (p:=⟨gs 1,2,none⟩) (Nat.le_of_succ_le hF) _).drew
   have hsS:w.heap.size+1≤(wx.setCell ⟨gs 1,2,none⟩ (.int .i64 hi)).drew.heap.size:=by simp;omega
   clear hent hbx
   go_wp2_with fail
   go_still_tail 8,(by kernel_rfl)
   change wpList _ _ _ _ _ wx.drew
   go_wp2_with fail
   have hend: ∀ wz,Hid (wz=(wx.setCell ⟨gs 1,2,none⟩ (.int .i64 hi)).drew)→Calls Tryz.prog 61 #[.slice ao1 4 cap1] wz fun e w' =>(OnePost (optL 5 lo hi) w) e w' :=fun wz hz=>by
    have h:=hz.out
    subst h
    exact bounds_end hbS hsS GS.out HT.out
   refine(hend _ rfl).mono ?_
   rintro e wz (⟨hn,rfl,hbz⟩|⟨l,ao,cap,hn,hl4,rfl,hbz,hS⟩)
   ·have HN:=Lib.hid hn
    clear hn
    go_wp2
    go_ret2
    exact Or.inl ⟨HN.out,rfl,hbz⟩
   ·have HN:=Lib.hid hn
    have HL:=Lib.hid hl4
    have HS:=Lib.hid hS
    clear hn hl4 hS
    go_wp2
    go_ret2
    exact Or.inr ⟨l,ao,cap,HN.out,HL.out,rfl,hbz,HS.out⟩
  ·go_wp2_with fail
   go_quiet (fail)
   have hbx:Below w.heap.size w (wf.drewN nq):=hbw.trans (Joins.below_draws _ _ _)
   have GS:Hid (Grid (from_ (w.heap.size+1)) (wf.drewN nq) ao1 4 cap1 gs (farG gp 2 1 lo hi)):=by
    show Grid _ _ _ _ _ _ _
    refine(GF.out.below (Joins.below_draws _ _ _)).congr fun a b _ _=>?_
    unfold farG setB
    rw[if_pos h0,←hgf.out,Int.min_eq_left (by omega)]
    split
    ·rename_i e;rw[e.1,e.2]
    ·rfl
   have hsx:w.heap.size+1≤(wf.drewN nq).heap.size:=by simp;omega
   clear hix hcell e1 e2 e3 GF hbw hAlt hglt hF hne h1 h2 k1 k2
   generalize wf.drewN nq=wx at *
   go_wp2_with fail
   refine(bounds_end hbx hsx GS.out HT.out).mono ?_
   rintro e wz (⟨hn,rfl,hbz⟩|⟨l,ao,cap,hn,hl4,rfl,hbz,hS⟩)
   ·have HN:=Lib.hid hn
    clear hn
    go_wp2
    go_ret2
    exact Or.inl ⟨HN.out,rfl,hbz⟩
   ·have HN:=Lib.hid hn
    have HL:=Lib.hid hl4
    have HS:=Lib.hid hS
    clear hn hl4 hS
    go_wp2
    go_ret2
    exact Or.inr ⟨l,ao,cap,HN.out,HL.out,rfl,hbz,HS.out⟩
 ·have hm1:hi= -1:=by omega
  subst hm1
  go_wp2_with fail
  go_quiet (fail)
  have hbx:Below w.heap.size w (wf.drewN nq):=hbw.trans (Joins.below_draws _ _ _)
  have GS:Hid (Grid (from_ (w.heap.size+1)) (wf.drewN nq) ao1 4 cap1 gs (farG gp 2 1 lo (-1))):=by
   show Grid _ _ _ _ _ _ _
   unfold farG
   rw[if_neg (by decide),←hgf.out]
   exact GF.out.below (Joins.below_draws _ _ _)
  have hsx:w.heap.size+1≤(wf.drewN nq).heap.size:=by simp;omega
  clear hix hcell e1 e2 e3 GF hbw hAlt hglt hF hne h1 h2 k1 k2
  generalize wf.drewN nq=wx at *
  go_wp2_with fail
  refine(bounds_end hbx hsx GS.out HT.out).mono ?_
  rintro e wz (⟨hn,rfl,hbz⟩|⟨l,ao,cap,hn,hl4,rfl,hbz,hS⟩)
  ·have HN:=Lib.hid hn
   clear hn
   go_wp2
   go_ret2
   exact Or.inl ⟨HN.out,rfl,hbz⟩
  ·have HN:=Lib.hid hn
   have HL:=Lib.hid hl4
   have HS:=Lib.hid hS
   clear hn hl4 hS
   go_wp2
   go_ret2
   exact Or.inr ⟨l,ao,cap,HN.out,HL.out,rfl,hbz,HS.out⟩
theorem mid_6(lo hi:Int):midG 6 lo hi=farG (lessG (lessG (lessG (lessG (lessG freeG 0 1 0) 2 3 0) 0 2 1) 2 1 1) 1 3 1) 2 1 lo hi:=by
 have hb:backR 6=true:=by decide
 have ho:oddR 6=5:=by unfold oddR;rw[hb];rfl
 unfold midG
 rw[ho]
 rfl
theorem tight_6(lo hi:Int)(hl:0≤lo∧lo≤1073741824)(hh: -1≤hi∧hi≤1073741824):
  (tight 4 5 (at2 (gridL 4 (farG (lessG (lessG (lessG (lessG (lessG freeG 2 3 0) 0 1 0) 2 0 1) 0 3 1) 3 1 1) 0 3 lo hi)))=none∧optL 6 lo hi=none)∨(∃ d,tight 4 5 (at2 (gridL 4 (farG (lessG (lessG (lessG (lessG (lessG freeG 2 3 0) 0 1 0) 2 0 1) 0 3 1) 3 1 1) 0 3 lo hi)))=some d∧optL 6 lo hi=some (gridL 4 d)):=by
 refine opt_tight hl hh sw (fun a _=>?_) ?_
 ·unfold sgR
  rw[show backR 6=true from by decide]
  rfl
 ·rw[mid_6]
  exact(((((turned_free.less (x:=0) (y:=1) (by decide) (by decide) 0).less (x:=2) (y:=3) (by decide) (by decide) 0).less (x:=0) (y:=2) (by decide) (by decide) 1).less (x:=2) (y:=1) (by decide) (by decide) 1).less (x:=1) (y:=3) (by decide) (by decide) 1).far (x:=2) (y:=1) (by decide) (by decide) lo hi
set_option maxHeartbeats 4000000 in
set_option maxRecDepth 100000 in
theorem bounds_6(lo hi:Int)(w:World)(hl:0≤lo∧lo≤1073741824)(hh: -1≤hi∧hi≤1073741824):
  Calls Tryz.prog 88 #[.agg #[.int .i64 6,.int .i64 lo,.int .i64 hi]] w (OnePost (optL 6 lo hi) w):=by
 have HT:=Lib.hid (tight_6 lo hi hl hh)
 go_enter Tryz.func88,Tryz.ntmps88
 go_wp2_with fail
 refine(freeMatrix_grid 4 (by omega) _).mono ?_
 rintro e w1 ⟨ao1,cap1,gs,rfl,hb1,hG1⟩
 have k0:=hb1.cell (p:=⟨w.heap.size,0,none⟩) (by simp)
 have k1:=hb1.cell (p:=⟨w.heap.size,1,none⟩) (by simp)
 have k2:=hb1.cell (p:=⟨w.heap.size,2,none⟩) (by simp)
 simp at k0 k1 k2
 have hs1:=hb1.size
 have hbw:Below w.heap.size w w1:=(Joins.below_alloc1 w _).trans (hb1.mono (by simp))
 simp only[World.size_alloc]at hs1 hG1
 have G1:=Lib.hid hG1
 clear hb1 hG1
 go_wp2_with fail
 refine(ahead_any (w.heap.size+1) ao1 4 cap1 gs freeG 2 3 0 w1 (by omega) G1.out (by omega) (by omega) (by omega)).mono ?_
 rintro e w2 ⟨rfl,hb2,hG2⟩
 have hs2:=hb2.size
 replace k1:=(hb2.cell (p:=⟨w.heap.size,1,none⟩) (by simp)).trans k1
 replace k2:=(hb2.cell (p:=⟨w.heap.size,2,none⟩) (by simp)).trans k2
 replace hbw:=hbw.trans (hb2.mono (by omega))
 have G2:=Lib.hid hG2
 clear hG2 hb2 G1
 go_wp2_with fail
 refine(ahead_any (w.heap.size+1) ao1 4 cap1 gs (lessG freeG 2 3 0) 0 1 0 w2 (by omega) G2.out (by omega) (by omega) (by omega)).mono ?_
 rintro e w3 ⟨rfl,hb3,hG3⟩
 have hs3:=hb3.size
 replace k1:=(hb3.cell (p:=⟨w.heap.size,1,none⟩) (by simp)).trans k1
 replace k2:=(hb3.cell (p:=⟨w.heap.size,2,none⟩) (by simp)).trans k2
 replace hbw:=hbw.trans (hb3.mono (by omega))
 have G3:=Lib.hid hG3
 clear hG3 hb3 G2
 go_wp2_with fail
 refine(ahead_any (w.heap.size+1) ao1 4 cap1 gs (lessG (lessG freeG 2 3 0) 0 1 0) 2 0 1 w3 (by omega) G3.out (by omega) (by omega) (by omega)).mono ?_
 rintro e w4 ⟨rfl,hb4,hG4⟩
 have hs4:=hb4.size
 replace k1:=(hb4.cell (p:=⟨w.heap.size,1,none⟩) (by simp)).trans k1
 replace k2:=(hb4.cell (p:=⟨w.heap.size,2,none⟩) (by simp)).trans k2
 replace hbw:=hbw.trans (hb4.mono (by omega))
 have G4:=Lib.hid hG4
 clear hG4 hb4 G3
 go_wp2_with fail
 refine(ahead_any (w.heap.size+1) ao1 4 cap1 gs (lessG (lessG (lessG freeG 2 3 0) 0 1 0) 2 0 1) 0 3 1 w4 (by omega) G4.out (by omega) (by omega) (by omega)).mono ?_
 rintro e w5 ⟨rfl,hb5,hG5⟩
 have hs5:=hb5.size
 replace k1:=(hb5.cell (p:=⟨w.heap.size,1,none⟩) (by simp)).trans k1
 replace k2:=(hb5.cell (p:=⟨w.heap.size,2,none⟩) (by simp)).trans k2
 replace hbw:=hbw.trans (hb5.mono (by omega))
 have G5:=Lib.hid hG5
 clear hG5 hb5 G4
 go_wp2_with fail
 refine(ahead_any (w.heap.size+1) ao1 4 cap1 gs (lessG (lessG (lessG (lessG freeG 2 3 0) 0 1 0) 2 0 1) 0 3 1) 3 1 1 w5 (by omega) G5.out (by omega) (by omega) (by omega)).mono ?_
 rintro e w6 ⟨rfl,hb6,hG6⟩
 have hs6:=hb6.size
 replace k1:=(hb6.cell (p:=⟨w.heap.size,1,none⟩) (by simp)).trans k1
 replace k2:=(hb6.cell (p:=⟨w.heap.size,2,none⟩) (by simp)).trans k2
 replace hbw:=hbw.trans (hb6.mono (by omega))
 have G6:=Lib.hid hG6
 clear hG6 hb6 G5
 obtain⟨gp,hgp⟩: ∃ gp,Hid (gp=(lessG (lessG (lessG (lessG (lessG freeG 2 3 0) 0 1 0) 2 0 1) 0 3 1) 3 1 1)):=⟨_,rfl⟩
 rw[←hgp.out]at G6 HT
 go_wp2_with fail
 refine(ahead_any (w.heap.size+1) ao1 4 cap1 gs gp 0 3 lo w6 (by omega) G6.out (by omega) (by omega) (by omega)).mono ?_
 rintro e wf ⟨rfl,hbf,hGf⟩
 have hsf:=hbf.size
 replace k1:=(hbf.cell (p:=⟨w.heap.size,1,none⟩) (by simp)).trans k1
 replace k2:=(hbf.cell (p:=⟨w.heap.size,2,none⟩) (by simp)).trans k2
 replace hbw:=hbw.trans (hbf.mono (by omega))
 clear hbf G6 hgp
 have hxy:Hid (0<4∧3<4):=⟨by omega,by omega⟩
 obtain⟨gf,hgf⟩: ∃ gf,Hid (gf=lessG gp 0 3 lo):=⟨_,rfl⟩
 rw[←hgf.out]at hGf
 have GF:=Lib.hid hGf
 have hmx:=hGf.max
 unfold maxLen at hmx
 obtain⟨hh1,hh2⟩:=hh
 obtain⟨Ai,rci,hAlt,hglt,hF,hne,h1,h2,hix,hcell,hent⟩:=hGf.at hxy.out.2
 obtain⟨e1,e2,e3⟩:=hent 0 hxy.out.1
 replace hix: ∀ wx,(Instr.indexAt 78 (.slice ao1 4 cap1) (.int .i64 3)).run Tryz.prog wx= .ok (.pointer (some ⟨Ai,3,none⟩)) wx:=hix
 replace e3: ∀ wx,(Instr.indexAt 26 (.slice (some ⟨gs 3,0,none⟩) 4 rci) (.int .i64 0)).run Tryz.prog wx= .ok (.pointer (some ⟨gs 3,0,none⟩)) wx:=e3
 clear hent hGf
 by_cases h0:0≤hi
 ·by_cases hst:hi<gf 3 0
  ·go_wp2_with fail
   go_quiet (fail)
   have hbx:Below w.heap.size w (wf.drewN nq):=hbw.trans (Joins.below_draws _ _ _)
   have GX:Hid (Grid (from_ (w.heap.size+1)) (wf.drewN nq) ao1 4 cap1 gs gf):=GF.out.below (Joins.below_draws _ _ _)
   have k3:(wf.drewN nq).cell? ⟨w.heap.size,2,none⟩=some (.int .i64 hi):=by simpa using k2
   clear hix hcell e1 e2 e3 GF hbw hAlt hglt hF hne h1 h2 k1 k2
   have hsx:w.heap.size+1≤(wf.drewN nq).heap.size:=by simp;omega
   generalize wf.drewN nq=wx at *
   obtain⟨Ai,rci,hAlt,hglt,hF,hne,h1,h2,hix,hcell,hent⟩:=GX.out.at hxy.out.2
   obtain⟨e1,e2,e3⟩:=hent 0 hxy.out.1
   replace hix: ∀ wx,(Instr.indexAt 78 (.slice ao1 4 cap1) (.int .i64 3)).run Tryz.prog wx= .ok (.pointer (some ⟨Ai,3,none⟩)) wx:=hix
   replace e3: ∀ wx,(Instr.indexAt 26 (.slice (some ⟨gs 3,0,none⟩) 4 rci) (.int .i64 0)).run Tryz.prog wx= .ok (.pointer (some ⟨gs 3,0,none⟩)) wx:=e3
   have GS:Hid (Grid (from_ (w.heap.size+1)) (wx.setCell ⟨gs 3,0,none⟩ (.int .i64 hi)).drew ao1 4 cap1 gs (farG gp 0 3 lo hi)):=by
    show Grid _ _ _ _ _ _ _
    have:=(GX.out.store hxy.out.2 hxy.out.1 hi).same (G:=from_ (w.heap.size+1)) Same.drew
    unfold farG
    rw[if_pos h0,←hgf.out,Int.min_eq_right (by omega)]
    exact this
   have hbS:Below w.heap.size w (wx.setCell ⟨gs 3,0,none⟩ (.int .i64 hi)).drew:=(hbx.setCell (p:=⟨gs 3,0,none⟩) (Nat.le_of_succ_le hF) _).drew
   have hsS:w.heap.size+1≤(wx.setCell ⟨gs 3,0,none⟩ (.int .i64 hi)).drew.heap.size:=by simp;omega
   clear hent hbx
   go_wp2_with fail
   go_still_tail 8,(by kernel_rfl)
   change wpList _ _ _ _ _ wx.drew
   go_wp2_with fail
   have hend: ∀ wz,Hid (wz=(wx.setCell ⟨gs 3,0,none⟩ (.int .i64 hi)).drew)→Calls Tryz.prog 61 #[.slice ao1 4 cap1] wz fun e w' =>(OnePost (optL 6 lo hi) w) e w' :=fun wz hz=>by
    have h:=hz.out
    subst h
    exact bounds_end hbS hsS GS.out HT.out
   refine(hend _ rfl).mono ?_
   rintro e wz (⟨hn,rfl,hbz⟩|⟨l,ao,cap,hn,hl4,rfl,hbz,hS⟩)
   ·have HN:=Lib.hid hn
    clear hn
    go_wp2
    go_ret2
    exact Or.inl ⟨HN.out,rfl,hbz⟩
   ·have HN:=Lib.hid hn
    have HL:=Lib.hid hl4
    have HS:=Lib.hid hS
    clear hn hl4 hS
    go_wp2
    go_ret2
    exact Or.inr ⟨l,ao,cap,HN.out,HL.out,rfl,hbz,HS.out⟩
  ·go_wp2_with fail
   go_quiet (fail)
   have hbx:Below w.heap.size w (wf.drewN nq):=hbw.trans (Joins.below_draws _ _ _)
   have GS:Hid (Grid (from_ (w.heap.size+1)) (wf.drewN nq) ao1 4 cap1 gs (farG gp 0 3 lo hi)):=by
    show Grid _ _ _ _ _ _ _
    refine(GF.out.below (Joins.below_draws _ _ _)).congr fun a b _ _=>?_
    unfold farG setB
    rw[if_pos h0,←hgf.out,Int.min_eq_left (by omega)]
    split
    ·rename_i e;rw[e.1,e.2]
    ·rfl
   have hsx:w.heap.size+1≤(wf.drewN nq).heap.size:=by simp;omega
   clear hix hcell e1 e2 e3 GF hbw hAlt hglt hF hne h1 h2 k1 k2
   generalize wf.drewN nq=wx at *
   go_wp2_with fail
   refine(bounds_end hbx hsx GS.out HT.out).mono ?_
   rintro e wz (⟨hn,rfl,hbz⟩|⟨l,ao,cap,hn,hl4,rfl,hbz,hS⟩)
   ·have HN:=Lib.hid hn
    clear hn
    go_wp2
    go_ret2
    exact Or.inl ⟨HN.out,rfl,hbz⟩
   ·have HN:=Lib.hid hn
    have HL:=Lib.hid hl4
    have HS:=Lib.hid hS
    clear hn hl4 hS
    go_wp2
    go_ret2
    exact Or.inr ⟨l,ao,cap,HN.out,HL.out,rfl,hbz,HS.out⟩
 ·have hm1:hi= -1:=by omega
  subst hm1
  go_wp2_with fail
  go_quiet (fail)
  have hbx:Below w.heap.size w (wf.drewN nq):=hbw.trans (Joins.below_draws _ _ _)
  have GS:Hid (Grid (from_ (w.heap.size+1)) (wf.drewN nq) ao1 4 cap1 gs (farG gp 0 3 lo (-1))):=by
   show Grid _ _ _ _ _ _ _
   unfold farG
   rw[if_neg (by decide),←hgf.out]
   exact GF.out.below (Joins.below_draws _ _ _)
  have hsx:w.heap.size+1≤(wf.drewN nq).heap.size:=by simp;omega
  clear hix hcell e1 e2 e3 GF hbw hAlt hglt hF hne h1 h2 k1 k2
  generalize wf.drewN nq=wx at *
  go_wp2_with fail
  refine(bounds_end hbx hsx GS.out HT.out).mono ?_
  rintro e wz (⟨hn,rfl,hbz⟩|⟨l,ao,cap,hn,hl4,rfl,hbz,hS⟩)
  ·have HN:=Lib.hid hn
   clear hn
   go_wp2
   go_ret2
   exact Or.inl ⟨HN.out,rfl,hbz⟩
  ·have HN:=Lib.hid hn
   have HL:=Lib.hid hl4
   have HS:=Lib.hid hS
   clear hn hl4 hS
   go_wp2
   go_ret2
   exact Or.inr ⟨l,ao,cap,HN.out,HL.out,rfl,hbz,HS.out⟩
theorem mid_7(lo hi:Int):midG 7 lo hi=farG (lessG (lessG (lessG (lessG (lessG freeG 0 1 0) 2 3 0) 0 2 0) 2 0 0) 1 3 1) 1 3 lo hi:=by
 have hb:backR 7=false:=by decide
 have ho:oddR 7=7:=by unfold oddR;rw[hb];rfl
 unfold midG
 rw[ho]
 rfl
theorem tight_7(lo hi:Int)(hl:0≤lo∧lo≤1073741824)(hh: -1≤hi∧hi≤1073741824):
  (tight 4 5 (at2 (gridL 4 (farG (lessG (lessG (lessG (lessG (lessG freeG 0 1 0) 2 3 0) 0 2 0) 2 0 0) 1 3 1) 1 3 lo hi)))=none∧optL 7 lo hi=none)∨(∃ d,tight 4 5 (at2 (gridL 4 (farG (lessG (lessG (lessG (lessG (lessG freeG 0 1 0) 2 3 0) 0 2 0) 2 0 0) 1 3 1) 1 3 lo hi)))=some d∧optL 7 lo hi=some (gridL 4 d)):=by
 refine opt_tight hl hh id (fun a _=>?_) ?_
 ·unfold sgR
  rw[show backR 7=false from by decide]
  rfl
 ·rw[mid_7]
  exact(((((straight_free.less (x:=0) (y:=1) (by decide) (by decide) 0).less (x:=2) (y:=3) (by decide) (by decide) 0).less (x:=0) (y:=2) (by decide) (by decide) 0).less (x:=2) (y:=0) (by decide) (by decide) 0).less (x:=1) (y:=3) (by decide) (by decide) 1).far (x:=1) (y:=3) (by decide) (by decide) lo hi
set_option maxHeartbeats 4000000 in
set_option maxRecDepth 100000 in
theorem bounds_7(lo hi:Int)(w:World)(hl:0≤lo∧lo≤1073741824)(hh: -1≤hi∧hi≤1073741824):
  Calls Tryz.prog 88 #[.agg #[.int .i64 7,.int .i64 lo,.int .i64 hi]] w (OnePost (optL 7 lo hi) w):=by
 have HT:=Lib.hid (tight_7 lo hi hl hh)
 go_enter Tryz.func88,Tryz.ntmps88
 go_wp2_with fail
 refine(freeMatrix_grid 4 (by omega) _).mono ?_
 rintro e w1 ⟨ao1,cap1,gs,rfl,hb1,hG1⟩
 have k0:=hb1.cell (p:=⟨w.heap.size,0,none⟩) (by simp)
 have k1:=hb1.cell (p:=⟨w.heap.size,1,none⟩) (by simp)
 have k2:=hb1.cell (p:=⟨w.heap.size,2,none⟩) (by simp)
 simp at k0 k1 k2
 have hs1:=hb1.size
 have hbw:Below w.heap.size w w1:=(Joins.below_alloc1 w _).trans (hb1.mono (by simp))
 simp only[World.size_alloc]at hs1 hG1
 have G1:=Lib.hid hG1
 clear hb1 hG1
 go_wp2_with fail
 refine(ahead_any (w.heap.size+1) ao1 4 cap1 gs freeG 0 1 0 w1 (by omega) G1.out (by omega) (by omega) (by omega)).mono ?_
 rintro e w2 ⟨rfl,hb2,hG2⟩
 have hs2:=hb2.size
 replace k1:=(hb2.cell (p:=⟨w.heap.size,1,none⟩) (by simp)).trans k1
 replace k2:=(hb2.cell (p:=⟨w.heap.size,2,none⟩) (by simp)).trans k2
 replace hbw:=hbw.trans (hb2.mono (by omega))
 have G2:=Lib.hid hG2
 clear hG2 hb2 G1
 go_wp2_with fail
 refine(ahead_any (w.heap.size+1) ao1 4 cap1 gs (lessG freeG 0 1 0) 2 3 0 w2 (by omega) G2.out (by omega) (by omega) (by omega)).mono ?_
 rintro e w3 ⟨rfl,hb3,hG3⟩
 have hs3:=hb3.size
 replace k1:=(hb3.cell (p:=⟨w.heap.size,1,none⟩) (by simp)).trans k1
 replace k2:=(hb3.cell (p:=⟨w.heap.size,2,none⟩) (by simp)).trans k2
 replace hbw:=hbw.trans (hb3.mono (by omega))
 have G3:=Lib.hid hG3
 clear hG3 hb3 G2
 go_wp2_with fail
 refine(ahead_any (w.heap.size+1) ao1 4 cap1 gs (lessG (lessG freeG 0 1 0) 2 3 0) 0 2 0 w3 (by omega) G3.out (by omega) (by omega) (by omega)).mono ?_
 rintro e w4 ⟨rfl,hb4,hG4⟩
 have hs4:=hb4.size
 replace k1:=(hb4.cell (p:=⟨w.heap.size,1,none⟩) (by simp)).trans k1
 replace k2:=(hb4.cell (p:=⟨w.heap.size,2,none⟩) (by simp)).trans k2
 replace hbw:=hbw.trans (hb4.mono (by omega))
 have G4:=Lib.hid hG4
 clear hG4 hb4 G3
 go_wp2_with fail
 refine(ahead_any (w.heap.size+1) ao1 4 cap1 gs (lessG (lessG (lessG freeG 0 1 0) 2 3 0) 0 2 0) 2 0 0 w4 (by omega) G4.out (by omega) (by omega) (by omega)).mono ?_
 rintro e w5 ⟨rfl,hb5,hG5⟩
 have hs5:=hb5.size
 replace k1:=(hb5.cell (p:=⟨w.heap.size,1,none⟩) (by simp)).trans k1
 replace k2:=(hb5.cell (p:=⟨w.heap.size,2,none⟩) (by simp)).trans k2
 replace hbw:=hbw.trans (hb5.mono (by omega))
 have G5:=Lib.hid hG5
 clear hG5 hb5 G4
 go_wp2_with fail
 refine(ahead_any (w.heap.size+1) ao1 4 cap1 gs (lessG (lessG (lessG (lessG freeG 0 1 0) 2 3 0) 0 2 0) 2 0 0) 1 3 1 w5 (by omega) G5.out (by omega) (by omega) (by omega)).mono ?_
 rintro e w6 ⟨rfl,hb6,hG6⟩
 have hs6:=hb6.size
 replace k1:=(hb6.cell (p:=⟨w.heap.size,1,none⟩) (by simp)).trans k1
 replace k2:=(hb6.cell (p:=⟨w.heap.size,2,none⟩) (by simp)).trans k2
 replace hbw:=hbw.trans (hb6.mono (by omega))
 have G6:=Lib.hid hG6
 clear hG6 hb6 G5
 obtain⟨gp,hgp⟩: ∃ gp,Hid (gp=(lessG (lessG (lessG (lessG (lessG freeG 0 1 0) 2 3 0) 0 2 0) 2 0 0) 1 3 1)):=⟨_,rfl⟩
 rw[←hgp.out]at G6 HT
 go_wp2_with fail
 refine(ahead_any (w.heap.size+1) ao1 4 cap1 gs gp 1 3 lo w6 (by omega) G6.out (by omega) (by omega) (by omega)).mono ?_
 rintro e wf ⟨rfl,hbf,hGf⟩
 have hsf:=hbf.size
 replace k1:=(hbf.cell (p:=⟨w.heap.size,1,none⟩) (by simp)).trans k1
 replace k2:=(hbf.cell (p:=⟨w.heap.size,2,none⟩) (by simp)).trans k2
 replace hbw:=hbw.trans (hbf.mono (by omega))
 clear hbf G6 hgp
 have hxy:Hid (1<4∧3<4):=⟨by omega,by omega⟩
 obtain⟨gf,hgf⟩: ∃ gf,Hid (gf=lessG gp 1 3 lo):=⟨_,rfl⟩
 rw[←hgf.out]at hGf
 have GF:=Lib.hid hGf
 have hmx:=hGf.max
 unfold maxLen at hmx
 obtain⟨hh1,hh2⟩:=hh
 obtain⟨Ai,rci,hAlt,hglt,hF,hne,h1,h2,hix,hcell,hent⟩:=hGf.at hxy.out.2
 obtain⟨e1,e2,e3⟩:=hent 1 hxy.out.1
 replace hix: ∀ wx,(Instr.indexAt 78 (.slice ao1 4 cap1) (.int .i64 3)).run Tryz.prog wx= .ok (.pointer (some ⟨Ai,3,none⟩)) wx:=hix
 replace e3: ∀ wx,(Instr.indexAt 26 (.slice (some ⟨gs 3,0,none⟩) 4 rci) (.int .i64 1)).run Tryz.prog wx= .ok (.pointer (some ⟨gs 3,1,none⟩)) wx:=e3
 clear hent hGf
 by_cases h0:0≤hi
 ·by_cases hst:hi<gf 3 1
  ·go_wp2_with fail
   go_quiet (fail)
   have hbx:Below w.heap.size w (wf.drewN nq):=hbw.trans (Joins.below_draws _ _ _)
   have GX:Hid (Grid (from_ (w.heap.size+1)) (wf.drewN nq) ao1 4 cap1 gs gf):=GF.out.below (Joins.below_draws _ _ _)
   have k3:(wf.drewN nq).cell? ⟨w.heap.size,2,none⟩=some (.int .i64 hi):=by simpa using k2
   clear hix hcell e1 e2 e3 GF hbw hAlt hglt hF hne h1 h2 k1 k2
   have hsx:w.heap.size+1≤(wf.drewN nq).heap.size:=by simp;omega
   generalize wf.drewN nq=wx at *
   obtain⟨Ai,rci,hAlt,hglt,hF,hne,h1,h2,hix,hcell,hent⟩:=GX.out.at hxy.out.2
   obtain⟨e1,e2,e3⟩:=hent 1 hxy.out.1
   replace hix: ∀ wx,(Instr.indexAt 78 (.slice ao1 4 cap1) (.int .i64 3)).run Tryz.prog wx= .ok (.pointer (some ⟨Ai,3,none⟩)) wx:=hix
   replace e3: ∀ wx,(Instr.indexAt 26 (.slice (some ⟨gs 3,0,none⟩) 4 rci) (.int .i64 1)).run Tryz.prog wx= .ok (.pointer (some ⟨gs 3,1,none⟩)) wx:=e3
   have GS:Hid (Grid (from_ (w.heap.size+1)) (wx.setCell ⟨gs 3,1,none⟩ (.int .i64 hi)).drew ao1 4 cap1 gs (farG gp 1 3 lo hi)):=by
    show Grid _ _ _ _ _ _ _
    have:=(GX.out.store hxy.out.2 hxy.out.1 hi).same (G:=from_ (w.heap.size+1)) Same.drew
    unfold farG
    rw[if_pos h0,←hgf.out,Int.min_eq_right (by omega)]
    exact this
   have hbS:Below w.heap.size w (wx.setCell ⟨gs 3,1,none⟩ (.int .i64 hi)).drew:=(hbx.setCell (p:=⟨gs 3,1,none⟩) (Nat.le_of_succ_le hF) _).drew
   have hsS:w.heap.size+1≤(wx.setCell ⟨gs 3,1,none⟩ (.int .i64 hi)).drew.heap.size:=by simp;omega
   clear hent hbx
   go_wp2_with fail
   go_still_tail 8,(by kernel_rfl)
   change wpList _ _ _ _ _ wx.drew
   go_wp2_with fail
   have hend: ∀ wz,Hid (wz=(wx.setCell ⟨gs 3,1,none⟩ (.int .i64 hi)).drew)→Calls Tryz.prog 61 #[.slice ao1 4 cap1] wz fun e w' =>(OnePost (optL 7 lo hi) w) e w' :=fun wz hz=>by
    have h:=hz.out
    subst h
    exact bounds_end hbS hsS GS.out HT.out
   refine(hend _ rfl).mono ?_
   rintro e wz (⟨hn,rfl,hbz⟩|⟨l,ao,cap,hn,hl4,rfl,hbz,hS⟩)
   ·have HN:=Lib.hid hn
    clear hn
    go_wp2
    go_ret2
    exact Or.inl ⟨HN.out,rfl,hbz⟩
   ·have HN:=Lib.hid hn
    have HL:=Lib.hid hl4
    have HS:=Lib.hid hS
    clear hn hl4 hS
    go_wp2
    go_ret2
    exact Or.inr ⟨l,ao,cap,HN.out,HL.out,rfl,hbz,HS.out⟩
  ·go_wp2_with fail
   go_quiet (fail)
   have hbx:Below w.heap.size w (wf.drewN nq):=hbw.trans (Joins.below_draws _ _ _)
   have GS:Hid (Grid (from_ (w.heap.size+1)) (wf.drewN nq) ao1 4 cap1 gs (farG gp 1 3 lo hi)):=by
    show Grid _ _ _ _ _ _ _
    refine(GF.out.below (Joins.below_draws _ _ _)).congr fun a b _ _=>?_
    unfold farG setB
    rw[if_pos h0,←hgf.out,Int.min_eq_left (by omega)]
    split
    ·rename_i e;rw[e.1,e.2]
    ·rfl
   have hsx:w.heap.size+1≤(wf.drewN nq).heap.size:=by simp;omega
   clear hix hcell e1 e2 e3 GF hbw hAlt hglt hF hne h1 h2 k1 k2
   generalize wf.drewN nq=wx at *
   go_wp2_with fail
   refine(bounds_end hbx hsx GS.out HT.out).mono ?_
   rintro e wz (⟨hn,rfl,hbz⟩|⟨l,ao,cap,hn,hl4,rfl,hbz,hS⟩)
   ·have HN:=Lib.hid hn
    clear hn
    go_wp2
    go_ret2
    exact Or.inl ⟨HN.out,rfl,hbz⟩
   ·have HN:=Lib.hid hn
    have HL:=Lib.hid hl4
    have HS:=Lib.hid hS
    clear hn hl4 hS
    go_wp2
    go_ret2
    exact Or.inr ⟨l,ao,cap,HN.out,HL.out,rfl,hbz,HS.out⟩
 ·have hm1:hi= -1:=by omega
  subst hm1
  go_wp2_with fail
  go_quiet (fail)
  have hbx:Below w.heap.size w (wf.drewN nq):=hbw.trans (Joins.below_draws _ _ _)
  have GS:Hid (Grid (from_ (w.heap.size+1)) (wf.drewN nq) ao1 4 cap1 gs (farG gp 1 3 lo (-1))):=by
   show Grid _ _ _ _ _ _ _
   unfold farG
   rw[if_neg (by decide),←hgf.out]
   exact GF.out.below (Joins.below_draws _ _ _)
  have hsx:w.heap.size+1≤(wf.drewN nq).heap.size:=by simp;omega
  clear hix hcell e1 e2 e3 GF hbw hAlt hglt hF hne h1 h2 k1 k2
  generalize wf.drewN nq=wx at *
  go_wp2_with fail
  refine(bounds_end hbx hsx GS.out HT.out).mono ?_
  rintro e wz (⟨hn,rfl,hbz⟩|⟨l,ao,cap,hn,hl4,rfl,hbz,hS⟩)
  ·have HN:=Lib.hid hn
   clear hn
   go_wp2
   go_ret2
   exact Or.inl ⟨HN.out,rfl,hbz⟩
  ·have HN:=Lib.hid hn
   have HL:=Lib.hid hl4
   have HS:=Lib.hid hS
   clear hn hl4 hS
   go_wp2
   go_ret2
   exact Or.inr ⟨l,ao,cap,HN.out,HL.out,rfl,hbz,HS.out⟩
theorem mid_8(lo hi:Int):midG 8 lo hi=farG (lessG (lessG (lessG (lessG (lessG freeG 0 1 0) 2 3 0) 0 2 0) 2 0 0) 1 3 1) 1 3 lo hi:=by
 have hb:backR 8=true:=by decide
 have ho:oddR 8=7:=by unfold oddR;rw[hb];rfl
 unfold midG
 rw[ho]
 rfl
theorem tight_8(lo hi:Int)(hl:0≤lo∧lo≤1073741824)(hh: -1≤hi∧hi≤1073741824):
  (tight 4 5 (at2 (gridL 4 (farG (lessG (lessG (lessG (lessG (lessG freeG 2 3 0) 0 1 0) 2 0 0) 0 2 0) 3 1 1) 3 1 lo hi)))=none∧optL 8 lo hi=none)∨(∃ d,tight 4 5 (at2 (gridL 4 (farG (lessG (lessG (lessG (lessG (lessG freeG 2 3 0) 0 1 0) 2 0 0) 0 2 0) 3 1 1) 3 1 lo hi)))=some d∧optL 8 lo hi=some (gridL 4 d)):=by
 refine opt_tight hl hh sw (fun a _=>?_) ?_
 ·unfold sgR
  rw[show backR 8=true from by decide]
  rfl
 ·rw[mid_8]
  exact(((((turned_free.less (x:=0) (y:=1) (by decide) (by decide) 0).less (x:=2) (y:=3) (by decide) (by decide) 0).less (x:=0) (y:=2) (by decide) (by decide) 0).less (x:=2) (y:=0) (by decide) (by decide) 0).less (x:=1) (y:=3) (by decide) (by decide) 1).far (x:=1) (y:=3) (by decide) (by decide) lo hi
set_option maxHeartbeats 4000000 in
set_option maxRecDepth 100000 in
theorem bounds_8(lo hi:Int)(w:World)(hl:0≤lo∧lo≤1073741824)(hh: -1≤hi∧hi≤1073741824):
  Calls Tryz.prog 88 #[.agg #[.int .i64 8,.int .i64 lo,.int .i64 hi]] w (OnePost (optL 8 lo hi) w):=by
 have HT:=Lib.hid (tight_8 lo hi hl hh)
 go_enter Tryz.func88,Tryz.ntmps88
 go_wp2_with fail
 refine(freeMatrix_grid 4 (by omega) _).mono ?_
 rintro e w1 ⟨ao1,cap1,gs,rfl,hb1,hG1⟩
 have k0:=hb1.cell (p:=⟨w.heap.size,0,none⟩) (by simp)
 have k1:=hb1.cell (p:=⟨w.heap.size,1,none⟩) (by simp)
 have k2:=hb1.cell (p:=⟨w.heap.size,2,none⟩) (by simp)
 simp at k0 k1 k2
 have hs1:=hb1.size
 have hbw:Below w.heap.size w w1:=(Joins.below_alloc1 w _).trans (hb1.mono (by simp))
 simp only[World.size_alloc]at hs1 hG1
 have G1:=Lib.hid hG1
 clear hb1 hG1
 go_wp2_with fail
 refine(ahead_any (w.heap.size+1) ao1 4 cap1 gs freeG 2 3 0 w1 (by omega) G1.out (by omega) (by omega) (by omega)).mono ?_
 rintro e w2 ⟨rfl,hb2,hG2⟩
 have hs2:=hb2.size
 replace k1:=(hb2.cell (p:=⟨w.heap.size,1,none⟩) (by simp)).trans k1
 replace k2:=(hb2.cell (p:=⟨w.heap.size,2,none⟩) (by simp)).trans k2
 replace hbw:=hbw.trans (hb2.mono (by omega))
 have G2:=Lib.hid hG2
 clear hG2 hb2 G1
 go_wp2_with fail
 refine(ahead_any (w.heap.size+1) ao1 4 cap1 gs (lessG freeG 2 3 0) 0 1 0 w2 (by omega) G2.out (by omega) (by omega) (by omega)).mono ?_
 rintro e w3 ⟨rfl,hb3,hG3⟩
 have hs3:=hb3.size
 replace k1:=(hb3.cell (p:=⟨w.heap.size,1,none⟩) (by simp)).trans k1
 replace k2:=(hb3.cell (p:=⟨w.heap.size,2,none⟩) (by simp)).trans k2
 replace hbw:=hbw.trans (hb3.mono (by omega))
 have G3:=Lib.hid hG3
 clear hG3 hb3 G2
 go_wp2_with fail
 refine(ahead_any (w.heap.size+1) ao1 4 cap1 gs (lessG (lessG freeG 2 3 0) 0 1 0) 2 0 0 w3 (by omega) G3.out (by omega) (by omega) (by omega)).mono ?_
 rintro e w4 ⟨rfl,hb4,hG4⟩
 have hs4:=hb4.size
 replace k1:=(hb4.cell (p:=⟨w.heap.size,1,none⟩) (by simp)).trans k1
 replace k2:=(hb4.cell (p:=⟨w.heap.size,2,none⟩) (by simp)).trans k2
 replace hbw:=hbw.trans (hb4.mono (by omega))
 have G4:=Lib.hid hG4
 clear hG4 hb4 G3
 go_wp2_with fail
 refine(ahead_any (w.heap.size+1) ao1 4 cap1 gs (lessG (lessG (lessG freeG 2 3 0) 0 1 0) 2 0 0) 0 2 0 w4 (by omega) G4.out (by omega) (by omega) (by omega)).mono ?_
 rintro e w5 ⟨rfl,hb5,hG5⟩
 have hs5:=hb5.size
 replace k1:=(hb5.cell (p:=⟨w.heap.size,1,none⟩) (by simp)).trans k1
 replace k2:=(hb5.cell (p:=⟨w.heap.size,2,none⟩) (by simp)).trans k2
 replace hbw:=hbw.trans (hb5.mono (by omega))
 have G5:=Lib.hid hG5
 clear hG5 hb5 G4
 go_wp2_with fail
 refine(ahead_any (w.heap.size+1) ao1 4 cap1 gs (lessG (lessG (lessG (lessG freeG 2 3 0) 0 1 0) 2 0 0) 0 2 0) 3 1 1 w5 (by omega) G5.out (by omega) (by omega) (by omega)).mono ?_
 rintro e w6 ⟨rfl,hb6,hG6⟩
 have hs6:=hb6.size
 replace k1:=(hb6.cell (p:=⟨w.heap.size,1,none⟩) (by simp)).trans k1
 replace k2:=(hb6.cell (p:=⟨w.heap.size,2,none⟩) (by simp)).trans k2
 replace hbw:=hbw.trans (hb6.mono (by omega))
 have G6:=Lib.hid hG6
 clear hG6 hb6 G5
 obtain⟨gp,hgp⟩: ∃ gp,Hid (gp=(lessG (lessG (lessG (lessG (lessG freeG 2 3 0) 0 1 0) 2 0 0) 0 2 0) 3 1 1)):=⟨_,rfl⟩
 rw[←hgp.out]at G6 HT
 go_wp2_with fail
 refine(ahead_any (w.heap.size+1) ao1 4 cap1 gs gp 3 1 lo w6 (by omega) G6.out (by omega) (by omega) (by omega)).mono ?_
 rintro e wf ⟨rfl,hbf,hGf⟩
 have hsf:=hbf.size
 replace k1:=(hbf.cell (p:=⟨w.heap.size,1,none⟩) (by simp)).trans k1
 replace k2:=(hbf.cell (p:=⟨w.heap.size,2,none⟩) (by simp)).trans k2
 replace hbw:=hbw.trans (hbf.mono (by omega))
 clear hbf G6 hgp
 have hxy:Hid (3<4∧1<4):=⟨by omega,by omega⟩
 obtain⟨gf,hgf⟩: ∃ gf,Hid (gf=lessG gp 3 1 lo):=⟨_,rfl⟩
 rw[←hgf.out]at hGf
 have GF:=Lib.hid hGf
 have hmx:=hGf.max
 unfold maxLen at hmx
 obtain⟨hh1,hh2⟩:=hh
 obtain⟨Ai,rci,hAlt,hglt,hF,hne,h1,h2,hix,hcell,hent⟩:=hGf.at hxy.out.2
 obtain⟨e1,e2,e3⟩:=hent 3 hxy.out.1
 replace hix: ∀ wx,(Instr.indexAt 78 (.slice ao1 4 cap1) (.int .i64 1)).run Tryz.prog wx= .ok (.pointer (some ⟨Ai,1,none⟩)) wx:=hix
 replace e3: ∀ wx,(Instr.indexAt 26 (.slice (some ⟨gs 1,0,none⟩) 4 rci) (.int .i64 3)).run Tryz.prog wx= .ok (.pointer (some ⟨gs 1,3,none⟩)) wx:=e3
 clear hent hGf
 by_cases h0:0≤hi
 ·by_cases hst:hi<gf 1 3
  ·go_wp2_with fail
   go_quiet (fail)
   have hbx:Below w.heap.size w (wf.drewN nq):=hbw.trans (Joins.below_draws _ _ _)
   have GX:Hid (Grid (from_ (w.heap.size+1)) (wf.drewN nq) ao1 4 cap1 gs gf):=GF.out.below (Joins.below_draws _ _ _)
   have k3:(wf.drewN nq).cell? ⟨w.heap.size,2,none⟩=some (.int .i64 hi):=by simpa using k2
   clear hix hcell e1 e2 e3 GF hbw hAlt hglt hF hne h1 h2 k1 k2
   have hsx:w.heap.size+1≤(wf.drewN nq).heap.size:=by simp;omega
   generalize wf.drewN nq=wx at *
   obtain⟨Ai,rci,hAlt,hglt,hF,hne,h1,h2,hix,hcell,hent⟩:=GX.out.at hxy.out.2
   obtain⟨e1,e2,e3⟩:=hent 3 hxy.out.1
   replace hix: ∀ wx,(Instr.indexAt 78 (.slice ao1 4 cap1) (.int .i64 1)).run Tryz.prog wx= .ok (.pointer (some ⟨Ai,1,none⟩)) wx:=hix
   replace e3: ∀ wx,(Instr.indexAt 26 (.slice (some ⟨gs 1,0,none⟩) 4 rci) (.int .i64 3)).run Tryz.prog wx= .ok (.pointer (some ⟨gs 1,3,none⟩)) wx:=e3
   have GS:Hid (Grid (from_ (w.heap.size+1)) (wx.setCell ⟨gs 1,3,none⟩ (.int .i64 hi)).drew ao1 4 cap1 gs (farG gp 3 1 lo hi)):=by
    show Grid _ _ _ _ _ _ _
    have:=(GX.out.store hxy.out.2 hxy.out.1 hi).same (G:=from_ (w.heap.size+1)) Same.drew
    unfold farG
    rw[if_pos h0,←hgf.out,Int.min_eq_right (by omega)]
    exact this
   have hbS:Below w.heap.size w (wx.setCell ⟨gs 1,3,none⟩ (.int .i64 hi)).drew:=(hbx.setCell (p:=⟨gs 1,3,none⟩) (Nat.le_of_succ_le hF) _).drew
   have hsS:w.heap.size+1≤(wx.setCell ⟨gs 1,3,none⟩ (.int .i64 hi)).drew.heap.size:=by simp;omega
   clear hent hbx
   go_wp2_with fail
   go_still_tail 8,(by kernel_rfl)
   change wpList _ _ _ _ _ wx.drew
   go_wp2_with fail
   have hend: ∀ wz,Hid (wz=(wx.setCell ⟨gs 1,3,none⟩ (.int .i64 hi)).drew)→Calls Tryz.prog 61 #[.slice ao1 4 cap1] wz fun e w' =>(OnePost (optL 8 lo hi) w) e w' :=fun wz hz=>by
    have h:=hz.out
    subst h
    exact bounds_end hbS hsS GS.out HT.out
   refine(hend _ rfl).mono ?_
   rintro e wz (⟨hn,rfl,hbz⟩|⟨l,ao,cap,hn,hl4,rfl,hbz,hS⟩)
   ·have HN:=Lib.hid hn
    clear hn
    go_wp2
    go_ret2
    exact Or.inl ⟨HN.out,rfl,hbz⟩
   ·have HN:=Lib.hid hn
    have HL:=Lib.hid hl4
    have HS:=Lib.hid hS
    clear hn hl4 hS
    go_wp2
    go_ret2
    exact Or.inr ⟨l,ao,cap,HN.out,HL.out,rfl,hbz,HS.out⟩
  ·go_wp2_with fail
   go_quiet (fail)
   have hbx:Below w.heap.size w (wf.drewN nq):=hbw.trans (Joins.below_draws _ _ _)
   have GS:Hid (Grid (from_ (w.heap.size+1)) (wf.drewN nq) ao1 4 cap1 gs (farG gp 3 1 lo hi)):=by
    show Grid _ _ _ _ _ _ _
    refine(GF.out.below (Joins.below_draws _ _ _)).congr fun a b _ _=>?_
    unfold farG setB
    rw[if_pos h0,←hgf.out,Int.min_eq_left (by omega)]
    split
    ·rename_i e;rw[e.1,e.2]
    ·rfl
   have hsx:w.heap.size+1≤(wf.drewN nq).heap.size:=by simp;omega
   clear hix hcell e1 e2 e3 GF hbw hAlt hglt hF hne h1 h2 k1 k2
   generalize wf.drewN nq=wx at *
   go_wp2_with fail
   refine(bounds_end hbx hsx GS.out HT.out).mono ?_
   rintro e wz (⟨hn,rfl,hbz⟩|⟨l,ao,cap,hn,hl4,rfl,hbz,hS⟩)
   ·have HN:=Lib.hid hn
    clear hn
    go_wp2
    go_ret2
    exact Or.inl ⟨HN.out,rfl,hbz⟩
   ·have HN:=Lib.hid hn
    have HL:=Lib.hid hl4
    have HS:=Lib.hid hS
    clear hn hl4 hS
    go_wp2
    go_ret2
    exact Or.inr ⟨l,ao,cap,HN.out,HL.out,rfl,hbz,HS.out⟩
 ·have hm1:hi= -1:=by omega
  subst hm1
  go_wp2_with fail
  go_quiet (fail)
  have hbx:Below w.heap.size w (wf.drewN nq):=hbw.trans (Joins.below_draws _ _ _)
  have GS:Hid (Grid (from_ (w.heap.size+1)) (wf.drewN nq) ao1 4 cap1 gs (farG gp 3 1 lo (-1))):=by
   show Grid _ _ _ _ _ _ _
   unfold farG
   rw[if_neg (by decide),←hgf.out]
   exact GF.out.below (Joins.below_draws _ _ _)
  have hsx:w.heap.size+1≤(wf.drewN nq).heap.size:=by simp;omega
  clear hix hcell e1 e2 e3 GF hbw hAlt hglt hF hne h1 h2 k1 k2
  generalize wf.drewN nq=wx at *
  go_wp2_with fail
  refine(bounds_end hbx hsx GS.out HT.out).mono ?_
  rintro e wz (⟨hn,rfl,hbz⟩|⟨l,ao,cap,hn,hl4,rfl,hbz,hS⟩)
  ·have HN:=Lib.hid hn
   clear hn
   go_wp2
   go_ret2
   exact Or.inl ⟨HN.out,rfl,hbz⟩
  ·have HN:=Lib.hid hn
   have HL:=Lib.hid hl4
   have HS:=Lib.hid hS
   clear hn hl4 hS
   go_wp2
   go_ret2
   exact Or.inr ⟨l,ao,cap,HN.out,HL.out,rfl,hbz,HS.out⟩
theorem mid_9(lo hi:Int):midG 9 lo hi=farG (lessG (lessG (lessG (lessG freeG 0 1 0) 2 3 0) 2 0 1) 1 3 1) 2 0 lo hi:=by
 have hb:backR 9=false:=by decide
 have ho:oddR 9=9:=by unfold oddR;rw[hb];rfl
 unfold midG
 rw[ho]
 rfl
theorem tight_9(lo hi:Int)(hl:0≤lo∧lo≤1073741824)(hh: -1≤hi∧hi≤1073741824):
  (tight 4 5 (at2 (gridL 4 (farG (lessG (lessG (lessG (lessG freeG 0 1 0) 2 3 0) 2 0 1) 1 3 1) 2 0 lo hi)))=none∧optL 9 lo hi=none)∨(∃ d,tight 4 5 (at2 (gridL 4 (farG (lessG (lessG (lessG (lessG freeG 0 1 0) 2 3 0) 2 0 1) 1 3 1) 2 0 lo hi)))=some d∧optL 9 lo hi=some (gridL 4 d)):=by
 refine opt_tight hl hh id (fun a _=>?_) ?_
 ·unfold sgR
  rw[show backR 9=false from by decide]
  rfl
 ·rw[mid_9]
  exact((((straight_free.less (x:=0) (y:=1) (by decide) (by decide) 0).less (x:=2) (y:=3) (by decide) (by decide) 0).less (x:=2) (y:=0) (by decide) (by decide) 1).less (x:=1) (y:=3) (by decide) (by decide) 1).far (x:=2) (y:=0) (by decide) (by decide) lo hi
set_option maxHeartbeats 4000000 in
set_option maxRecDepth 100000 in
theorem bounds_9(lo hi:Int)(w:World)(hl:0≤lo∧lo≤1073741824)(hh: -1≤hi∧hi≤1073741824):
  Calls Tryz.prog 88 #[.agg #[.int .i64 9,.int .i64 lo,.int .i64 hi]] w (OnePost (optL 9 lo hi) w):=by
 have HT:=Lib.hid (tight_9 lo hi hl hh)
 go_enter Tryz.func88,Tryz.ntmps88
 go_wp2_with fail
 refine(freeMatrix_grid 4 (by omega) _).mono ?_
 rintro e w1 ⟨ao1,cap1,gs,rfl,hb1,hG1⟩
 have k0:=hb1.cell (p:=⟨w.heap.size,0,none⟩) (by simp)
 have k1:=hb1.cell (p:=⟨w.heap.size,1,none⟩) (by simp)
 have k2:=hb1.cell (p:=⟨w.heap.size,2,none⟩) (by simp)
 simp at k0 k1 k2
 have hs1:=hb1.size
 have hbw:Below w.heap.size w w1:=(Joins.below_alloc1 w _).trans (hb1.mono (by simp))
 simp only[World.size_alloc]at hs1 hG1
 have G1:=Lib.hid hG1
 clear hb1 hG1
 go_wp2_with fail
 refine(ahead_any (w.heap.size+1) ao1 4 cap1 gs freeG 0 1 0 w1 (by omega) G1.out (by omega) (by omega) (by omega)).mono ?_
 rintro e w2 ⟨rfl,hb2,hG2⟩
 have hs2:=hb2.size
 replace k1:=(hb2.cell (p:=⟨w.heap.size,1,none⟩) (by simp)).trans k1
 replace k2:=(hb2.cell (p:=⟨w.heap.size,2,none⟩) (by simp)).trans k2
 replace hbw:=hbw.trans (hb2.mono (by omega))
 have G2:=Lib.hid hG2
 clear hG2 hb2 G1
 go_wp2_with fail
 refine(ahead_any (w.heap.size+1) ao1 4 cap1 gs (lessG freeG 0 1 0) 2 3 0 w2 (by omega) G2.out (by omega) (by omega) (by omega)).mono ?_
 rintro e w3 ⟨rfl,hb3,hG3⟩
 have hs3:=hb3.size
 replace k1:=(hb3.cell (p:=⟨w.heap.size,1,none⟩) (by simp)).trans k1
 replace k2:=(hb3.cell (p:=⟨w.heap.size,2,none⟩) (by simp)).trans k2
 replace hbw:=hbw.trans (hb3.mono (by omega))
 have G3:=Lib.hid hG3
 clear hG3 hb3 G2
 go_wp2_with fail
 refine(ahead_any (w.heap.size+1) ao1 4 cap1 gs (lessG (lessG freeG 0 1 0) 2 3 0) 2 0 1 w3 (by omega) G3.out (by omega) (by omega) (by omega)).mono ?_
 rintro e w4 ⟨rfl,hb4,hG4⟩
 have hs4:=hb4.size
 replace k1:=(hb4.cell (p:=⟨w.heap.size,1,none⟩) (by simp)).trans k1
 replace k2:=(hb4.cell (p:=⟨w.heap.size,2,none⟩) (by simp)).trans k2
 replace hbw:=hbw.trans (hb4.mono (by omega))
 have G4:=Lib.hid hG4
 clear hG4 hb4 G3
 go_wp2_with fail
 refine(ahead_any (w.heap.size+1) ao1 4 cap1 gs (lessG (lessG (lessG freeG 0 1 0) 2 3 0) 2 0 1) 1 3 1 w4 (by omega) G4.out (by omega) (by omega) (by omega)).mono ?_
 rintro e w5 ⟨rfl,hb5,hG5⟩
 have hs5:=hb5.size
 replace k1:=(hb5.cell (p:=⟨w.heap.size,1,none⟩) (by simp)).trans k1
 replace k2:=(hb5.cell (p:=⟨w.heap.size,2,none⟩) (by simp)).trans k2
 replace hbw:=hbw.trans (hb5.mono (by omega))
 have G5:=Lib.hid hG5
 clear hG5 hb5 G4
 obtain⟨gp,hgp⟩: ∃ gp,Hid (gp=(lessG (lessG (lessG (lessG freeG 0 1 0) 2 3 0) 2 0 1) 1 3 1)):=⟨_,rfl⟩
 rw[←hgp.out]at G5 HT
 go_wp2_with fail
 refine(ahead_any (w.heap.size+1) ao1 4 cap1 gs gp 2 0 lo w5 (by omega) G5.out (by omega) (by omega) (by omega)).mono ?_
 rintro e wf ⟨rfl,hbf,hGf⟩
 have hsf:=hbf.size
 replace k1:=(hbf.cell (p:=⟨w.heap.size,1,none⟩) (by simp)).trans k1
 replace k2:=(hbf.cell (p:=⟨w.heap.size,2,none⟩) (by simp)).trans k2
 replace hbw:=hbw.trans (hbf.mono (by omega))
 clear hbf G5 hgp
 have hxy:Hid (2<4∧0<4):=⟨by omega,by omega⟩
 obtain⟨gf,hgf⟩: ∃ gf,Hid (gf=lessG gp 2 0 lo):=⟨_,rfl⟩
 rw[←hgf.out]at hGf
 have GF:=Lib.hid hGf
 have hmx:=hGf.max
 unfold maxLen at hmx
 obtain⟨hh1,hh2⟩:=hh
 obtain⟨Ai,rci,hAlt,hglt,hF,hne,h1,h2,hix,hcell,hent⟩:=hGf.at hxy.out.2
 obtain⟨e1,e2,e3⟩:=hent 2 hxy.out.1
 replace hix: ∀ wx,(Instr.indexAt 78 (.slice ao1 4 cap1) (.int .i64 0)).run Tryz.prog wx= .ok (.pointer (some ⟨Ai,0,none⟩)) wx:=hix
 replace e3: ∀ wx,(Instr.indexAt 26 (.slice (some ⟨gs 0,0,none⟩) 4 rci) (.int .i64 2)).run Tryz.prog wx= .ok (.pointer (some ⟨gs 0,2,none⟩)) wx:=e3
 clear hent hGf
 by_cases h0:0≤hi
 ·by_cases hst:hi<gf 0 2
  ·go_wp2_with fail
   go_quiet (fail)
   have hbx:Below w.heap.size w (wf.drewN nq):=hbw.trans (Joins.below_draws _ _ _)
   have GX:Hid (Grid (from_ (w.heap.size+1)) (wf.drewN nq) ao1 4 cap1 gs gf):=GF.out.below (Joins.below_draws _ _ _)
   have k3:(wf.drewN nq).cell? ⟨w.heap.size,2,none⟩=some (.int .i64 hi):=by simpa using k2
   clear hix hcell e1 e2 e3 GF hbw hAlt hglt hF hne h1 h2 k1 k2
   have hsx:w.heap.size+1≤(wf.drewN nq).heap.size:=by simp;omega
   generalize wf.drewN nq=wx at *
   obtain⟨Ai,rci,hAlt,hglt,hF,hne,h1,h2,hix,hcell,hent⟩:=GX.out.at hxy.out.2
   obtain⟨e1,e2,e3⟩:=hent 2 hxy.out.1
   replace hix: ∀ wx,(Instr.indexAt 78 (.slice ao1 4 cap1) (.int .i64 0)).run Tryz.prog wx= .ok (.pointer (some ⟨Ai,0,none⟩)) wx:=hix
   replace e3: ∀ wx,(Instr.indexAt 26 (.slice (some ⟨gs 0,0,none⟩) 4 rci) (.int .i64 2)).run Tryz.prog wx= .ok (.pointer (some ⟨gs 0,2,none⟩)) wx:=e3
   have GS:Hid (Grid (from_ (w.heap.size+1)) (wx.setCell ⟨gs 0,2,none⟩ (.int .i64 hi)).drew ao1 4 cap1 gs (farG gp 2 0 lo hi)):=by
    show Grid _ _ _ _ _ _ _
    have:=(GX.out.store hxy.out.2 hxy.out.1 hi).same (G:=from_ (w.heap.size+1)) Same.drew
    unfold farG
    rw[if_pos h0,←hgf.out,Int.min_eq_right (by omega)]
    exact this
   have hbS:Below w.heap.size w (wx.setCell ⟨gs 0,2,none⟩ (.int .i64 hi)).drew:=(hbx.setCell (p:=⟨gs 0,2,none⟩) (Nat.le_of_succ_le hF) _).drew
   have hsS:w.heap.size+1≤(wx.setCell ⟨gs 0,2,none⟩ (.int .i64 hi)).drew.heap.size:=by simp;omega
   clear hent hbx
   go_wp2_with fail
   go_still_tail 8,(by kernel_rfl)
   change wpList _ _ _ _ _ wx.drew
   go_wp2_with fail
   have hend: ∀ wz,Hid (wz=(wx.setCell ⟨gs 0,2,none⟩ (.int .i64 hi)).drew)→Calls Tryz.prog 61 #[.slice ao1 4 cap1] wz fun e w' =>(OnePost (optL 9 lo hi) w) e w' :=fun wz hz=>by
    have h:=hz.out
    subst h
    exact bounds_end hbS hsS GS.out HT.out
   refine(hend _ rfl).mono ?_
   rintro e wz (⟨hn,rfl,hbz⟩|⟨l,ao,cap,hn,hl4,rfl,hbz,hS⟩)
   ·have HN:=Lib.hid hn
    clear hn
    go_wp2
    go_ret2
    exact Or.inl ⟨HN.out,rfl,hbz⟩
   ·have HN:=Lib.hid hn
    have HL:=Lib.hid hl4
    have HS:=Lib.hid hS
    clear hn hl4 hS
    go_wp2
    go_ret2
    exact Or.inr ⟨l,ao,cap,HN.out,HL.out,rfl,hbz,HS.out⟩
  ·go_wp2_with fail
   go_quiet (fail)
   have hbx:Below w.heap.size w (wf.drewN nq):=hbw.trans (Joins.below_draws _ _ _)
   have GS:Hid (Grid (from_ (w.heap.size+1)) (wf.drewN nq) ao1 4 cap1 gs (farG gp 2 0 lo hi)):=by
    show Grid _ _ _ _ _ _ _
    refine(GF.out.below (Joins.below_draws _ _ _)).congr fun a b _ _=>?_
    unfold farG setB
    rw[if_pos h0,←hgf.out,Int.min_eq_left (by omega)]
    split
    ·rename_i e;rw[e.1,e.2]
    ·rfl
   have hsx:w.heap.size+1≤(wf.drewN nq).heap.size:=by simp;omega
   clear hix hcell e1 e2 e3 GF hbw hAlt hglt hF hne h1 h2 k1 k2
   generalize wf.drewN nq=wx at *
   go_wp2_with fail
   refine(bounds_end hbx hsx GS.out HT.out).mono ?_
   rintro e wz (⟨hn,rfl,hbz⟩|⟨l,ao,cap,hn,hl4,rfl,hbz,hS⟩)
   ·have HN:=Lib.hid hn
    clear hn
    go_wp2
    go_ret2
    exact Or.inl ⟨HN.out,rfl,hbz⟩
   ·have HN:=Lib.hid hn
    have HL:=Lib.hid hl4
    have HS:=Lib.hid hS
    clear hn hl4 hS
    go_wp2
    go_ret2
    exact Or.inr ⟨l,ao,cap,HN.out,HL.out,rfl,hbz,HS.out⟩
 ·have hm1:hi= -1:=by omega
  subst hm1
  go_wp2_with fail
  go_quiet (fail)
  have hbx:Below w.heap.size w (wf.drewN nq):=hbw.trans (Joins.below_draws _ _ _)
  have GS:Hid (Grid (from_ (w.heap.size+1)) (wf.drewN nq) ao1 4 cap1 gs (farG gp 2 0 lo (-1))):=by
   show Grid _ _ _ _ _ _ _
   unfold farG
   rw[if_neg (by decide),←hgf.out]
   exact GF.out.below (Joins.below_draws _ _ _)
  have hsx:w.heap.size+1≤(wf.drewN nq).heap.size:=by simp;omega
  clear hix hcell e1 e2 e3 GF hbw hAlt hglt hF hne h1 h2 k1 k2
  generalize wf.drewN nq=wx at *
  go_wp2_with fail
  refine(bounds_end hbx hsx GS.out HT.out).mono ?_
  rintro e wz (⟨hn,rfl,hbz⟩|⟨l,ao,cap,hn,hl4,rfl,hbz,hS⟩)
  ·have HN:=Lib.hid hn
   clear hn
   go_wp2
   go_ret2
   exact Or.inl ⟨HN.out,rfl,hbz⟩
  ·have HN:=Lib.hid hn
   have HL:=Lib.hid hl4
   have HS:=Lib.hid hS
   clear hn hl4 hS
   go_wp2
   go_ret2
   exact Or.inr ⟨l,ao,cap,HN.out,HL.out,rfl,hbz,HS.out⟩
theorem mid_10(lo hi:Int):midG 10 lo hi=farG (lessG (lessG (lessG (lessG freeG 0 1 0) 2 3 0) 2 0 1) 1 3 1) 2 0 lo hi:=by
 have hb:backR 10=true:=by decide
 have ho:oddR 10=9:=by unfold oddR;rw[hb];rfl
 unfold midG
 rw[ho]
 rfl
theorem tight_10(lo hi:Int)(hl:0≤lo∧lo≤1073741824)(hh: -1≤hi∧hi≤1073741824):
  (tight 4 5 (at2 (gridL 4 (farG (lessG (lessG (lessG (lessG freeG 2 3 0) 0 1 0) 0 2 1) 3 1 1) 0 2 lo hi)))=none∧optL 10 lo hi=none)∨(∃ d,tight 4 5 (at2 (gridL 4 (farG (lessG (lessG (lessG (lessG freeG 2 3 0) 0 1 0) 0 2 1) 3 1 1) 0 2 lo hi)))=some d∧optL 10 lo hi=some (gridL 4 d)):=by
 refine opt_tight hl hh sw (fun a _=>?_) ?_
 ·unfold sgR
  rw[show backR 10=true from by decide]
  rfl
 ·rw[mid_10]
  exact((((turned_free.less (x:=0) (y:=1) (by decide) (by decide) 0).less (x:=2) (y:=3) (by decide) (by decide) 0).less (x:=2) (y:=0) (by decide) (by decide) 1).less (x:=1) (y:=3) (by decide) (by decide) 1).far (x:=2) (y:=0) (by decide) (by decide) lo hi
set_option maxHeartbeats 4000000 in
set_option maxRecDepth 100000 in
theorem bounds_10(lo hi:Int)(w:World)(hl:0≤lo∧lo≤1073741824)(hh: -1≤hi∧hi≤1073741824):
  Calls Tryz.prog 88 #[.agg #[.int .i64 10,.int .i64 lo,.int .i64 hi]] w (OnePost (optL 10 lo hi) w):=by
 have HT:=Lib.hid (tight_10 lo hi hl hh)
 go_enter Tryz.func88,Tryz.ntmps88
 go_wp2_with fail
 refine(freeMatrix_grid 4 (by omega) _).mono ?_
 rintro e w1 ⟨ao1,cap1,gs,rfl,hb1,hG1⟩
 have k0:=hb1.cell (p:=⟨w.heap.size,0,none⟩) (by simp)
 have k1:=hb1.cell (p:=⟨w.heap.size,1,none⟩) (by simp)
 have k2:=hb1.cell (p:=⟨w.heap.size,2,none⟩) (by simp)
 simp at k0 k1 k2
 have hs1:=hb1.size
 have hbw:Below w.heap.size w w1:=(Joins.below_alloc1 w _).trans (hb1.mono (by simp))
 simp only[World.size_alloc]at hs1 hG1
 have G1:=Lib.hid hG1
 clear hb1 hG1
 go_wp2_with fail
 refine(ahead_any (w.heap.size+1) ao1 4 cap1 gs freeG 2 3 0 w1 (by omega) G1.out (by omega) (by omega) (by omega)).mono ?_
 rintro e w2 ⟨rfl,hb2,hG2⟩
 have hs2:=hb2.size
 replace k1:=(hb2.cell (p:=⟨w.heap.size,1,none⟩) (by simp)).trans k1
 replace k2:=(hb2.cell (p:=⟨w.heap.size,2,none⟩) (by simp)).trans k2
 replace hbw:=hbw.trans (hb2.mono (by omega))
 have G2:=Lib.hid hG2
 clear hG2 hb2 G1
 go_wp2_with fail
 refine(ahead_any (w.heap.size+1) ao1 4 cap1 gs (lessG freeG 2 3 0) 0 1 0 w2 (by omega) G2.out (by omega) (by omega) (by omega)).mono ?_
 rintro e w3 ⟨rfl,hb3,hG3⟩
 have hs3:=hb3.size
 replace k1:=(hb3.cell (p:=⟨w.heap.size,1,none⟩) (by simp)).trans k1
 replace k2:=(hb3.cell (p:=⟨w.heap.size,2,none⟩) (by simp)).trans k2
 replace hbw:=hbw.trans (hb3.mono (by omega))
 have G3:=Lib.hid hG3
 clear hG3 hb3 G2
 go_wp2_with fail
 refine(ahead_any (w.heap.size+1) ao1 4 cap1 gs (lessG (lessG freeG 2 3 0) 0 1 0) 0 2 1 w3 (by omega) G3.out (by omega) (by omega) (by omega)).mono ?_
 rintro e w4 ⟨rfl,hb4,hG4⟩
 have hs4:=hb4.size
 replace k1:=(hb4.cell (p:=⟨w.heap.size,1,none⟩) (by simp)).trans k1
 replace k2:=(hb4.cell (p:=⟨w.heap.size,2,none⟩) (by simp)).trans k2
 replace hbw:=hbw.trans (hb4.mono (by omega))
 have G4:=Lib.hid hG4
 clear hG4 hb4 G3
 go_wp2_with fail
 refine(ahead_any (w.heap.size+1) ao1 4 cap1 gs (lessG (lessG (lessG freeG 2 3 0) 0 1 0) 0 2 1) 3 1 1 w4 (by omega) G4.out (by omega) (by omega) (by omega)).mono ?_
 rintro e w5 ⟨rfl,hb5,hG5⟩
 have hs5:=hb5.size
 replace k1:=(hb5.cell (p:=⟨w.heap.size,1,none⟩) (by simp)).trans k1
 replace k2:=(hb5.cell (p:=⟨w.heap.size,2,none⟩) (by simp)).trans k2
 replace hbw:=hbw.trans (hb5.mono (by omega))
 have G5:=Lib.hid hG5
 clear hG5 hb5 G4
 obtain⟨gp,hgp⟩: ∃ gp,Hid (gp=(lessG (lessG (lessG (lessG freeG 2 3 0) 0 1 0) 0 2 1) 3 1 1)):=⟨_,rfl⟩
 rw[←hgp.out]at G5 HT
 go_wp2_with fail
 refine(ahead_any (w.heap.size+1) ao1 4 cap1 gs gp 0 2 lo w5 (by omega) G5.out (by omega) (by omega) (by omega)).mono ?_
 rintro e wf ⟨rfl,hbf,hGf⟩
 have hsf:=hbf.size
 replace k1:=(hbf.cell (p:=⟨w.heap.size,1,none⟩) (by simp)).trans k1
 replace k2:=(hbf.cell (p:=⟨w.heap.size,2,none⟩) (by simp)).trans k2
 replace hbw:=hbw.trans (hbf.mono (by omega))
 clear hbf G5 hgp
 have hxy:Hid (0<4∧2<4):=⟨by omega,by omega⟩
 obtain⟨gf,hgf⟩: ∃ gf,Hid (gf=lessG gp 0 2 lo):=⟨_,rfl⟩
 rw[←hgf.out]at hGf
 have GF:=Lib.hid hGf
 have hmx:=hGf.max
 unfold maxLen at hmx
 obtain⟨hh1,hh2⟩:=hh
 obtain⟨Ai,rci,hAlt,hglt,hF,hne,h1,h2,hix,hcell,hent⟩:=hGf.at hxy.out.2
 obtain⟨e1,e2,e3⟩:=hent 0 hxy.out.1
 replace hix: ∀ wx,(Instr.indexAt 78 (.slice ao1 4 cap1) (.int .i64 2)).run Tryz.prog wx= .ok (.pointer (some ⟨Ai,2,none⟩)) wx:=hix
 replace e3: ∀ wx,(Instr.indexAt 26 (.slice (some ⟨gs 2,0,none⟩) 4 rci) (.int .i64 0)).run Tryz.prog wx= .ok (.pointer (some ⟨gs 2,0,none⟩)) wx:=e3
 clear hent hGf
 by_cases h0:0≤hi
 ·by_cases hst:hi<gf 2 0
  ·go_wp2_with fail
   go_quiet (fail)
   have hbx:Below w.heap.size w (wf.drewN nq):=hbw.trans (Joins.below_draws _ _ _)
   have GX:Hid (Grid (from_ (w.heap.size+1)) (wf.drewN nq) ao1 4 cap1 gs gf):=GF.out.below (Joins.below_draws _ _ _)
   have k3:(wf.drewN nq).cell? ⟨w.heap.size,2,none⟩=some (.int .i64 hi):=by simpa using k2
   clear hix hcell e1 e2 e3 GF hbw hAlt hglt hF hne h1 h2 k1 k2
   have hsx:w.heap.size+1≤(wf.drewN nq).heap.size:=by simp;omega
   generalize wf.drewN nq=wx at *
   obtain⟨Ai,rci,hAlt,hglt,hF,hne,h1,h2,hix,hcell,hent⟩:=GX.out.at hxy.out.2
   obtain⟨e1,e2,e3⟩:=hent 0 hxy.out.1
   replace hix: ∀ wx,(Instr.indexAt 78 (.slice ao1 4 cap1) (.int .i64 2)).run Tryz.prog wx= .ok (.pointer (some ⟨Ai,2,none⟩)) wx:=hix
   replace e3: ∀ wx,(Instr.indexAt 26 (.slice (some ⟨gs 2,0,none⟩) 4 rci) (.int .i64 0)).run Tryz.prog wx= .ok (.pointer (some ⟨gs 2,0,none⟩)) wx:=e3
   have GS:Hid (Grid (from_ (w.heap.size+1)) (wx.setCell ⟨gs 2,0,none⟩ (.int .i64 hi)).drew ao1 4 cap1 gs (farG gp 0 2 lo hi)):=by
    show Grid _ _ _ _ _ _ _
    have:=(GX.out.store hxy.out.2 hxy.out.1 hi).same (G:=from_ (w.heap.size+1)) Same.drew
    unfold farG
    rw[if_pos h0,←hgf.out,Int.min_eq_right (by omega)]
    exact this
   have hbS:Below w.heap.size w (wx.setCell ⟨gs 2,0,none⟩ (.int .i64 hi)).drew:=(hbx.setCell (p:=⟨gs 2,0,none⟩) (Nat.le_of_succ_le hF) _).drew
   have hsS:w.heap.size+1≤(wx.setCell ⟨gs 2,0,none⟩ (.int .i64 hi)).drew.heap.size:=by simp;omega
   clear hent hbx
   go_wp2_with fail
   go_still_tail 8,(by kernel_rfl)
   change wpList _ _ _ _ _ wx.drew
   go_wp2_with fail
   have hend: ∀ wz,Hid (wz=(wx.setCell ⟨gs 2,0,none⟩ (.int .i64 hi)).drew)→Calls Tryz.prog 61 #[.slice ao1 4 cap1] wz fun e w' =>(OnePost (optL 10 lo hi) w) e w' :=fun wz hz=>by
    have h:=hz.out
    subst h
    exact bounds_end hbS hsS GS.out HT.out
   refine(hend _ rfl).mono ?_
   rintro e wz (⟨hn,rfl,hbz⟩|⟨l,ao,cap,hn,hl4,rfl,hbz,hS⟩)
   ·have HN:=Lib.hid hn
    clear hn
    go_wp2
    go_ret2
    exact Or.inl ⟨HN.out,rfl,hbz⟩
   ·have HN:=Lib.hid hn
    have HL:=Lib.hid hl4
    have HS:=Lib.hid hS
    clear hn hl4 hS
    go_wp2
    go_ret2
    exact Or.inr ⟨l,ao,cap,HN.out,HL.out,rfl,hbz,HS.out⟩
  ·go_wp2_with fail
   go_quiet (fail)
   have hbx:Below w.heap.size w (wf.drewN nq):=hbw.trans (Joins.below_draws _ _ _)
   have GS:Hid (Grid (from_ (w.heap.size+1)) (wf.drewN nq) ao1 4 cap1 gs (farG gp 0 2 lo hi)):=by
    show Grid _ _ _ _ _ _ _
    refine(GF.out.below (Joins.below_draws _ _ _)).congr fun a b _ _=>?_
    unfold farG setB
    rw[if_pos h0,←hgf.out,Int.min_eq_left (by omega)]
    split
    ·rename_i e;rw[e.1,e.2]
    ·rfl
   have hsx:w.heap.size+1≤(wf.drewN nq).heap.size:=by simp;omega
   clear hix hcell e1 e2 e3 GF hbw hAlt hglt hF hne h1 h2 k1 k2
   generalize wf.drewN nq=wx at *
   go_wp2_with fail
   refine(bounds_end hbx hsx GS.out HT.out).mono ?_
   rintro e wz (⟨hn,rfl,hbz⟩|⟨l,ao,cap,hn,hl4,rfl,hbz,hS⟩)
   ·have HN:=Lib.hid hn
    clear hn
    go_wp2
    go_ret2
    exact Or.inl ⟨HN.out,rfl,hbz⟩
   ·have HN:=Lib.hid hn
    have HL:=Lib.hid hl4
    have HS:=Lib.hid hS
    clear hn hl4 hS
    go_wp2
    go_ret2
    exact Or.inr ⟨l,ao,cap,HN.out,HL.out,rfl,hbz,HS.out⟩
 ·have hm1:hi= -1:=by omega
  subst hm1
  go_wp2_with fail
  go_quiet (fail)
  have hbx:Below w.heap.size w (wf.drewN nq):=hbw.trans (Joins.below_draws _ _ _)
  have GS:Hid (Grid (from_ (w.heap.size+1)) (wf.drewN nq) ao1 4 cap1 gs (farG gp 0 2 lo (-1))):=by
   show Grid _ _ _ _ _ _ _
   unfold farG
   rw[if_neg (by decide),←hgf.out]
   exact GF.out.below (Joins.below_draws _ _ _)
  have hsx:w.heap.size+1≤(wf.drewN nq).heap.size:=by simp;omega
  clear hix hcell e1 e2 e3 GF hbw hAlt hglt hF hne h1 h2 k1 k2
  generalize wf.drewN nq=wx at *
  go_wp2_with fail
  refine(bounds_end hbx hsx GS.out HT.out).mono ?_
  rintro e wz (⟨hn,rfl,hbz⟩|⟨l,ao,cap,hn,hl4,rfl,hbz,hS⟩)
  ·have HN:=Lib.hid hn
   clear hn
   go_wp2
   go_ret2
   exact Or.inl ⟨HN.out,rfl,hbz⟩
  ·have HN:=Lib.hid hn
   have HL:=Lib.hid hl4
   have HS:=Lib.hid hS
   clear hn hl4 hS
   go_wp2
   go_ret2
   exact Or.inr ⟨l,ao,cap,HN.out,HL.out,rfl,hbz,HS.out⟩
theorem mid_11(lo hi:Int):midG 11 lo hi=farG (lessG (lessG (lessG (lessG (lessG freeG 0 1 0) 2 3 0) 2 0 1) 1 3 0) 3 1 0) 2 0 lo hi:=by
 have hb:backR 11=false:=by decide
 have ho:oddR 11=11:=by unfold oddR;rw[hb];rfl
 unfold midG
 rw[ho]
 rfl
theorem tight_11(lo hi:Int)(hl:0≤lo∧lo≤1073741824)(hh: -1≤hi∧hi≤1073741824):
  (tight 4 5 (at2 (gridL 4 (farG (lessG (lessG (lessG (lessG (lessG freeG 0 1 0) 2 3 0) 2 0 1) 1 3 0) 3 1 0) 2 0 lo hi)))=none∧optL 11 lo hi=none)∨(∃ d,tight 4 5 (at2 (gridL 4 (farG (lessG (lessG (lessG (lessG (lessG freeG 0 1 0) 2 3 0) 2 0 1) 1 3 0) 3 1 0) 2 0 lo hi)))=some d∧optL 11 lo hi=some (gridL 4 d)):=by
 refine opt_tight hl hh id (fun a _=>?_) ?_
 ·unfold sgR
  rw[show backR 11=false from by decide]
  rfl
 ·rw[mid_11]
  exact(((((straight_free.less (x:=0) (y:=1) (by decide) (by decide) 0).less (x:=2) (y:=3) (by decide) (by decide) 0).less (x:=2) (y:=0) (by decide) (by decide) 1).less (x:=1) (y:=3) (by decide) (by decide) 0).less (x:=3) (y:=1) (by decide) (by decide) 0).far (x:=2) (y:=0) (by decide) (by decide) lo hi
set_option maxHeartbeats 4000000 in
set_option maxRecDepth 100000 in
theorem bounds_11(lo hi:Int)(w:World)(hl:0≤lo∧lo≤1073741824)(hh: -1≤hi∧hi≤1073741824):
  Calls Tryz.prog 88 #[.agg #[.int .i64 11,.int .i64 lo,.int .i64 hi]] w (OnePost (optL 11 lo hi) w):=by
 have HT:=Lib.hid (tight_11 lo hi hl hh)
 go_enter Tryz.func88,Tryz.ntmps88
 go_wp2_with fail
 refine(freeMatrix_grid 4 (by omega) _).mono ?_
 rintro e w1 ⟨ao1,cap1,gs,rfl,hb1,hG1⟩
 have k0:=hb1.cell (p:=⟨w.heap.size,0,none⟩) (by simp)
 have k1:=hb1.cell (p:=⟨w.heap.size,1,none⟩) (by simp)
 have k2:=hb1.cell (p:=⟨w.heap.size,2,none⟩) (by simp)
 simp at k0 k1 k2
 have hs1:=hb1.size
 have hbw:Below w.heap.size w w1:=(Joins.below_alloc1 w _).trans (hb1.mono (by simp))
 simp only[World.size_alloc]at hs1 hG1
 have G1:=Lib.hid hG1
 clear hb1 hG1
 go_wp2_with fail
 refine(ahead_any (w.heap.size+1) ao1 4 cap1 gs freeG 0 1 0 w1 (by omega) G1.out (by omega) (by omega) (by omega)).mono ?_
 rintro e w2 ⟨rfl,hb2,hG2⟩
 have hs2:=hb2.size
 replace k1:=(hb2.cell (p:=⟨w.heap.size,1,none⟩) (by simp)).trans k1
 replace k2:=(hb2.cell (p:=⟨w.heap.size,2,none⟩) (by simp)).trans k2
 replace hbw:=hbw.trans (hb2.mono (by omega))
 have G2:=Lib.hid hG2
 clear hG2 hb2 G1
 go_wp2_with fail
 refine(ahead_any (w.heap.size+1) ao1 4 cap1 gs (lessG freeG 0 1 0) 2 3 0 w2 (by omega) G2.out (by omega) (by omega) (by omega)).mono ?_
 rintro e w3 ⟨rfl,hb3,hG3⟩
 have hs3:=hb3.size
 replace k1:=(hb3.cell (p:=⟨w.heap.size,1,none⟩) (by simp)).trans k1
 replace k2:=(hb3.cell (p:=⟨w.heap.size,2,none⟩) (by simp)).trans k2
 replace hbw:=hbw.trans (hb3.mono (by omega))
 have G3:=Lib.hid hG3
 clear hG3 hb3 G2
 go_wp2_with fail
 refine(ahead_any (w.heap.size+1) ao1 4 cap1 gs (lessG (lessG freeG 0 1 0) 2 3 0) 2 0 1 w3 (by omega) G3.out (by omega) (by omega) (by omega)).mono ?_
 rintro e w4 ⟨rfl,hb4,hG4⟩
 have hs4:=hb4.size
 replace k1:=(hb4.cell (p:=⟨w.heap.size,1,none⟩) (by simp)).trans k1
 replace k2:=(hb4.cell (p:=⟨w.heap.size,2,none⟩) (by simp)).trans k2
 replace hbw:=hbw.trans (hb4.mono (by omega))
 have G4:=Lib.hid hG4
 clear hG4 hb4 G3
 go_wp2_with fail
 refine(ahead_any (w.heap.size+1) ao1 4 cap1 gs (lessG (lessG (lessG freeG 0 1 0) 2 3 0) 2 0 1) 1 3 0 w4 (by omega) G4.out (by omega) (by omega) (by omega)).mono ?_
 rintro e w5 ⟨rfl,hb5,hG5⟩
 have hs5:=hb5.size
 replace k1:=(hb5.cell (p:=⟨w.heap.size,1,none⟩) (by simp)).trans k1
 replace k2:=(hb5.cell (p:=⟨w.heap.size,2,none⟩) (by simp)).trans k2
 replace hbw:=hbw.trans (hb5.mono (by omega))
 have G5:=Lib.hid hG5
 clear hG5 hb5 G4
 go_wp2_with fail
 refine(ahead_any (w.heap.size+1) ao1 4 cap1 gs (lessG (lessG (lessG (lessG freeG 0 1 0) 2 3 0) 2 0 1) 1 3 0) 3 1 0 w5 (by omega) G5.out (by omega) (by omega) (by omega)).mono ?_
 rintro e w6 ⟨rfl,hb6,hG6⟩
 have hs6:=hb6.size
 replace k1:=(hb6.cell (p:=⟨w.heap.size,1,none⟩) (by simp)).trans k1
 replace k2:=(hb6.cell (p:=⟨w.heap.size,2,none⟩) (by simp)).trans k2
 replace hbw:=hbw.trans (hb6.mono (by omega))
 have G6:=Lib.hid hG6
 clear hG6 hb6 G5
 obtain⟨gp,hgp⟩: ∃ gp,Hid (gp=(lessG (lessG (lessG (lessG (lessG freeG 0 1 0) 2 3 0) 2 0 1) 1 3 0) 3 1 0)):=⟨_,rfl⟩
 rw[←hgp.out]at G6 HT
 go_wp2_with fail
 refine(ahead_any (w.heap.size+1) ao1 4 cap1 gs gp 2 0 lo w6 (by omega) G6.out (by omega) (by omega) (by omega)).mono ?_
 rintro e wf ⟨rfl,hbf,hGf⟩
 have hsf:=hbf.size
 replace k1:=(hbf.cell (p:=⟨w.heap.size,1,none⟩) (by simp)).trans k1
 replace k2:=(hbf.cell (p:=⟨w.heap.size,2,none⟩) (by simp)).trans k2
 replace hbw:=hbw.trans (hbf.mono (by omega))
 clear hbf G6 hgp
 have hxy:Hid (2<4∧0<4):=⟨by omega,by omega⟩
 obtain⟨gf,hgf⟩: ∃ gf,Hid (gf=lessG gp 2 0 lo):=⟨_,rfl⟩
 rw[←hgf.out]at hGf
 have GF:=Lib.hid hGf
 have hmx:=hGf.max
 unfold maxLen at hmx
 obtain⟨hh1,hh2⟩:=hh
 obtain⟨Ai,rci,hAlt,hglt,hF,hne,h1,h2,hix,hcell,hent⟩:=hGf.at hxy.out.2
 obtain⟨e1,e2,e3⟩:=hent 2 hxy.out.1
 replace hix: ∀ wx,(Instr.indexAt 78 (.slice ao1 4 cap1) (.int .i64 0)).run Tryz.prog wx= .ok (.pointer (some ⟨Ai,0,none⟩)) wx:=hix
 replace e3: ∀ wx,(Instr.indexAt 26 (.slice (some ⟨gs 0,0,none⟩) 4 rci) (.int .i64 2)).run Tryz.prog wx= .ok (.pointer (some ⟨gs 0,2,none⟩)) wx:=e3
 clear hent hGf
 by_cases h0:0≤hi
 ·by_cases hst:hi<gf 0 2
  ·go_wp2_with fail
   go_quiet (fail)
   have hbx:Below w.heap.size w (wf.drewN nq):=hbw.trans (Joins.below_draws _ _ _)
   have GX:Hid (Grid (from_ (w.heap.size+1)) (wf.drewN nq) ao1 4 cap1 gs gf):=GF.out.below (Joins.below_draws _ _ _)
   have k3:(wf.drewN nq).cell? ⟨w.heap.size,2,none⟩=some (.int .i64 hi):=by simpa using k2
   clear hix hcell e1 e2 e3 GF hbw hAlt hglt hF hne h1 h2 k1 k2
   have hsx:w.heap.size+1≤(wf.drewN nq).heap.size:=by simp;omega
   generalize wf.drewN nq=wx at *
   obtain⟨Ai,rci,hAlt,hglt,hF,hne,h1,h2,hix,hcell,hent⟩:=GX.out.at hxy.out.2
   obtain⟨e1,e2,e3⟩:=hent 2 hxy.out.1
   replace hix: ∀ wx,(Instr.indexAt 78 (.slice ao1 4 cap1) (.int .i64 0)).run Tryz.prog wx= .ok (.pointer (some ⟨Ai,0,none⟩)) wx:=hix
   replace e3: ∀ wx,(Instr.indexAt 26 (.slice (some ⟨gs 0,0,none⟩) 4 rci) (.int .i64 2)).run Tryz.prog wx= .ok (.pointer (some ⟨gs 0,2,none⟩)) wx:=e3
   have GS:Hid (Grid (from_ (w.heap.size+1)) (wx.setCell ⟨gs 0,2,none⟩ (.int .i64 hi)).drew ao1 4 cap1 gs (farG gp 2 0 lo hi)):=by
    show Grid _ _ _ _ _ _ _
    have:=(GX.out.store hxy.out.2 hxy.out.1 hi).same (G:=from_ (w.heap.size+1)) Same.drew
    unfold farG
    rw[if_pos h0,←hgf.out,Int.min_eq_right (by omega)]
    exact this
   have hbS:Below w.heap.size w (wx.setCell ⟨gs 0,2,none⟩ (.int .i64 hi)).drew:=(hbx.setCell (p:=⟨gs 0,2,none⟩) (Nat.le_of_succ_le hF) _).drew
   have hsS:w.heap.size+1≤(wx.setCell ⟨gs 0,2,none⟩ (.int .i64 hi)).drew.heap.size:=by simp;omega
   clear hent hbx
   go_wp2_with fail
   go_still_tail 8,(by kernel_rfl)
   change wpList _ _ _ _ _ wx.drew
   go_wp2_with fail
   have hend: ∀ wz,Hid (wz=(wx.setCell ⟨gs 0,2,none⟩ (.int .i64 hi)).drew)→Calls Tryz.prog 61 #[.slice ao1 4 cap1] wz fun e w' =>(OnePost (optL 11 lo hi) w) e w' :=fun wz hz=>by
    have h:=hz.out
    subst h
    exact bounds_end hbS hsS GS.out HT.out
   refine(hend _ rfl).mono ?_
   rintro e wz (⟨hn,rfl,hbz⟩|⟨l,ao,cap,hn,hl4,rfl,hbz,hS⟩)
   ·have HN:=Lib.hid hn
    clear hn
    go_wp2
    go_ret2
    exact Or.inl ⟨HN.out,rfl,hbz⟩
   ·have HN:=Lib.hid hn
    have HL:=Lib.hid hl4
    have HS:=Lib.hid hS
    clear hn hl4 hS
    go_wp2
    go_ret2
    exact Or.inr ⟨l,ao,cap,HN.out,HL.out,rfl,hbz,HS.out⟩
  ·go_wp2_with fail
   go_quiet (fail)
   have hbx:Below w.heap.size w (wf.drewN nq):=hbw.trans (Joins.below_draws _ _ _)
   have GS:Hid (Grid (from_ (w.heap.size+1)) (wf.drewN nq) ao1 4 cap1 gs (farG gp 2 0 lo hi)):=by
    show Grid _ _ _ _ _ _ _
    refine(GF.out.below (Joins.below_draws _ _ _)).congr fun a b _ _=>?_
    unfold farG setB
    rw[if_pos h0,←hgf.out,Int.min_eq_left (by omega)]
    split
    ·rename_i e;rw[e.1,e.2]
    ·rfl
   have hsx:w.heap.size+1≤(wf.drewN nq).heap.size:=by simp;omega
   clear hix hcell e1 e2 e3 GF hbw hAlt hglt hF hne h1 h2 k1 k2
   generalize wf.drewN nq=wx at *
   go_wp2_with fail
   refine(bounds_end hbx hsx GS.out HT.out).mono ?_
   rintro e wz (⟨hn,rfl,hbz⟩|⟨l,ao,cap,hn,hl4,rfl,hbz,hS⟩)
   ·have HN:=Lib.hid hn
    clear hn
    go_wp2
    go_ret2
    exact Or.inl ⟨HN.out,rfl,hbz⟩
   ·have HN:=Lib.hid hn
    have HL:=Lib.hid hl4
    have HS:=Lib.hid hS
    clear hn hl4 hS
    go_wp2
    go_ret2
    exact Or.inr ⟨l,ao,cap,HN.out,HL.out,rfl,hbz,HS.out⟩
 ·have hm1:hi= -1:=by omega
  subst hm1
  go_wp2_with fail
  go_quiet (fail)
  have hbx:Below w.heap.size w (wf.drewN nq):=hbw.trans (Joins.below_draws _ _ _)
  have GS:Hid (Grid (from_ (w.heap.size+1)) (wf.drewN nq) ao1 4 cap1 gs (farG gp 2 0 lo (-1))):=by
   show Grid _ _ _ _ _ _ _
   unfold farG
   rw[if_neg (by decide),←hgf.out]
   exact GF.out.below (Joins.below_draws _ _ _)
  have hsx:w.heap.size+1≤(wf.drewN nq).heap.size:=by simp;omega
  clear hix hcell e1 e2 e3 GF hbw hAlt hglt hF hne h1 h2 k1 k2
  generalize wf.drewN nq=wx at *
  go_wp2_with fail
  refine(bounds_end hbx hsx GS.out HT.out).mono ?_
  rintro e wz (⟨hn,rfl,hbz⟩|⟨l,ao,cap,hn,hl4,rfl,hbz,hS⟩)
  ·have HN:=Lib.hid hn
   clear hn
   go_wp2
   go_ret2
   exact Or.inl ⟨HN.out,rfl,hbz⟩
  ·have HN:=Lib.hid hn
   have HL:=Lib.hid hl4
   have HS:=Lib.hid hS
   clear hn hl4 hS
   go_wp2
   go_ret2
   exact Or.inr ⟨l,ao,cap,HN.out,HL.out,rfl,hbz,HS.out⟩
theorem mid_12(lo hi:Int):midG 12 lo hi=farG (lessG (lessG (lessG (lessG (lessG freeG 0 1 0) 2 3 0) 2 0 1) 1 3 0) 3 1 0) 2 0 lo hi:=by
 have hb:backR 12=true:=by decide
 have ho:oddR 12=11:=by unfold oddR;rw[hb];rfl
 unfold midG
 rw[ho]
 rfl
theorem tight_12(lo hi:Int)(hl:0≤lo∧lo≤1073741824)(hh: -1≤hi∧hi≤1073741824):
  (tight 4 5 (at2 (gridL 4 (farG (lessG (lessG (lessG (lessG (lessG freeG 2 3 0) 0 1 0) 0 2 1) 3 1 0) 1 3 0) 0 2 lo hi)))=none∧optL 12 lo hi=none)∨(∃ d,tight 4 5 (at2 (gridL 4 (farG (lessG (lessG (lessG (lessG (lessG freeG 2 3 0) 0 1 0) 0 2 1) 3 1 0) 1 3 0) 0 2 lo hi)))=some d∧optL 12 lo hi=some (gridL 4 d)):=by
 refine opt_tight hl hh sw (fun a _=>?_) ?_
 ·unfold sgR
  rw[show backR 12=true from by decide]
  rfl
 ·rw[mid_12]
  exact(((((turned_free.less (x:=0) (y:=1) (by decide) (by decide) 0).less (x:=2) (y:=3) (by decide) (by decide) 0).less (x:=2) (y:=0) (by decide) (by decide) 1).less (x:=1) (y:=3) (by decide) (by decide) 0).less (x:=3) (y:=1) (by decide) (by decide) 0).far (x:=2) (y:=0) (by decide) (by decide) lo hi
set_option maxHeartbeats 4000000 in
set_option maxRecDepth 100000 in
theorem bounds_12(lo hi:Int)(w:World)(hl:0≤lo∧lo≤1073741824)(hh: -1≤hi∧hi≤1073741824):
  Calls Tryz.prog 88 #[.agg #[.int .i64 12,.int .i64 lo,.int .i64 hi]] w (OnePost (optL 12 lo hi) w):=by
 have HT:=Lib.hid (tight_12 lo hi hl hh)
 go_enter Tryz.func88,Tryz.ntmps88
 go_wp2_with fail
 refine(freeMatrix_grid 4 (by omega) _).mono ?_
 rintro e w1 ⟨ao1,cap1,gs,rfl,hb1,hG1⟩
 have k0:=hb1.cell (p:=⟨w.heap.size,0,none⟩) (by simp)
 have k1:=hb1.cell (p:=⟨w.heap.size,1,none⟩) (by simp)
 have k2:=hb1.cell (p:=⟨w.heap.size,2,none⟩) (by simp)
 simp at k0 k1 k2
 have hs1:=hb1.size
 have hbw:Below w.heap.size w w1:=(Joins.below_alloc1 w _).trans (hb1.mono (by simp))
 simp only[World.size_alloc]at hs1 hG1
 have G1:=Lib.hid hG1
 clear hb1 hG1
 go_wp2_with fail
 refine(ahead_any (w.heap.size+1) ao1 4 cap1 gs freeG 2 3 0 w1 (by omega) G1.out (by omega) (by omega) (by omega)).mono ?_
 rintro e w2 ⟨rfl,hb2,hG2⟩
 have hs2:=hb2.size
 replace k1:=(hb2.cell (p:=⟨w.heap.size,1,none⟩) (by simp)).trans k1
 replace k2:=(hb2.cell (p:=⟨w.heap.size,2,none⟩) (by simp)).trans k2
 replace hbw:=hbw.trans (hb2.mono (by omega))
 have G2:=Lib.hid hG2
 clear hG2 hb2 G1
 go_wp2_with fail
 refine(ahead_any (w.heap.size+1) ao1 4 cap1 gs (lessG freeG 2 3 0) 0 1 0 w2 (by omega) G2.out (by omega) (by omega) (by omega)).mono ?_
 rintro e w3 ⟨rfl,hb3,hG3⟩
 have hs3:=hb3.size
 replace k1:=(hb3.cell (p:=⟨w.heap.size,1,none⟩) (by simp)).trans k1
 replace k2:=(hb3.cell (p:=⟨w.heap.size,2,none⟩) (by simp)).trans k2
 replace hbw:=hbw.trans (hb3.mono (by omega))
 have G3:=Lib.hid hG3
 clear hG3 hb3 G2
 go_wp2_with fail
 refine(ahead_any (w.heap.size+1) ao1 4 cap1 gs (lessG (lessG freeG 2 3 0) 0 1 0) 0 2 1 w3 (by omega) G3.out (by omega) (by omega) (by omega)).mono ?_
 rintro e w4 ⟨rfl,hb4,hG4⟩
 have hs4:=hb4.size
 replace k1:=(hb4.cell (p:=⟨w.heap.size,1,none⟩) (by simp)).trans k1
 replace k2:=(hb4.cell (p:=⟨w.heap.size,2,none⟩) (by simp)).trans k2
 replace hbw:=hbw.trans (hb4.mono (by omega))
 have G4:=Lib.hid hG4
 clear hG4 hb4 G3
 go_wp2_with fail
 refine(ahead_any (w.heap.size+1) ao1 4 cap1 gs (lessG (lessG (lessG freeG 2 3 0) 0 1 0) 0 2 1) 3 1 0 w4 (by omega) G4.out (by omega) (by omega) (by omega)).mono ?_
 rintro e w5 ⟨rfl,hb5,hG5⟩
 have hs5:=hb5.size
 replace k1:=(hb5.cell (p:=⟨w.heap.size,1,none⟩) (by simp)).trans k1
 replace k2:=(hb5.cell (p:=⟨w.heap.size,2,none⟩) (by simp)).trans k2
 replace hbw:=hbw.trans (hb5.mono (by omega))
 have G5:=Lib.hid hG5
 clear hG5 hb5 G4
 go_wp2_with fail
 refine(ahead_any (w.heap.size+1) ao1 4 cap1 gs (lessG (lessG (lessG (lessG freeG 2 3 0) 0 1 0) 0 2 1) 3 1 0) 1 3 0 w5 (by omega) G5.out (by omega) (by omega) (by omega)).mono ?_
 rintro e w6 ⟨rfl,hb6,hG6⟩
 have hs6:=hb6.size
 replace k1:=(hb6.cell (p:=⟨w.heap.size,1,none⟩) (by simp)).trans k1
 replace k2:=(hb6.cell (p:=⟨w.heap.size,2,none⟩) (by simp)).trans k2
 replace hbw:=hbw.trans (hb6.mono (by omega))
 have G6:=Lib.hid hG6
 clear hG6 hb6 G5
 obtain⟨gp,hgp⟩: ∃ gp,Hid (gp=(lessG (lessG (lessG (lessG (lessG freeG 2 3 0) 0 1 0) 0 2 1) 3 1 0) 1 3 0)):=⟨_,rfl⟩
 rw[←hgp.out]at G6 HT
 go_wp2_with fail
 refine(ahead_any (w.heap.size+1) ao1 4 cap1 gs gp 0 2 lo w6 (by omega) G6.out (by omega) (by omega) (by omega)).mono ?_
 rintro e wf ⟨rfl,hbf,hGf⟩
 have hsf:=hbf.size
 replace k1:=(hbf.cell (p:=⟨w.heap.size,1,none⟩) (by simp)).trans k1
 replace k2:=(hbf.cell (p:=⟨w.heap.size,2,none⟩) (by simp)).trans k2
 replace hbw:=hbw.trans (hbf.mono (by omega))
 clear hbf G6 hgp
 have hxy:Hid (0<4∧2<4):=⟨by omega,by omega⟩
 obtain⟨gf,hgf⟩: ∃ gf,Hid (gf=lessG gp 0 2 lo):=⟨_,rfl⟩
 rw[←hgf.out]at hGf
 have GF:=Lib.hid hGf
 have hmx:=hGf.max
 unfold maxLen at hmx
 obtain⟨hh1,hh2⟩:=hh
 obtain⟨Ai,rci,hAlt,hglt,hF,hne,h1,h2,hix,hcell,hent⟩:=hGf.at hxy.out.2
 obtain⟨e1,e2,e3⟩:=hent 0 hxy.out.1
 replace hix: ∀ wx,(Instr.indexAt 78 (.slice ao1 4 cap1) (.int .i64 2)).run Tryz.prog wx= .ok (.pointer (some ⟨Ai,2,none⟩)) wx:=hix
 replace e3: ∀ wx,(Instr.indexAt 26 (.slice (some ⟨gs 2,0,none⟩) 4 rci) (.int .i64 0)).run Tryz.prog wx= .ok (.pointer (some ⟨gs 2,0,none⟩)) wx:=e3
 clear hent hGf
 by_cases h0:0≤hi
 ·by_cases hst:hi<gf 2 0
  ·go_wp2_with fail
   go_quiet (fail)
   have hbx:Below w.heap.size w (wf.drewN nq):=hbw.trans (Joins.below_draws _ _ _)
   have GX:Hid (Grid (from_ (w.heap.size+1)) (wf.drewN nq) ao1 4 cap1 gs gf):=GF.out.below (Joins.below_draws _ _ _)
   have k3:(wf.drewN nq).cell? ⟨w.heap.size,2,none⟩=some (.int .i64 hi):=by simpa using k2
   clear hix hcell e1 e2 e3 GF hbw hAlt hglt hF hne h1 h2 k1 k2
   have hsx:w.heap.size+1≤(wf.drewN nq).heap.size:=by simp;omega
   generalize wf.drewN nq=wx at *
   obtain⟨Ai,rci,hAlt,hglt,hF,hne,h1,h2,hix,hcell,hent⟩:=GX.out.at hxy.out.2
   obtain⟨e1,e2,e3⟩:=hent 0 hxy.out.1
   replace hix: ∀ wx,(Instr.indexAt 78 (.slice ao1 4 cap1) (.int .i64 2)).run Tryz.prog wx= .ok (.pointer (some ⟨Ai,2,none⟩)) wx:=hix
   replace e3: ∀ wx,(Instr.indexAt 26 (.slice (some ⟨gs 2,0,none⟩) 4 rci) (.int .i64 0)).run Tryz.prog wx= .ok (.pointer (some ⟨gs 2,0,none⟩)) wx:=e3
   have GS:Hid (Grid (from_ (w.heap.size+1)) (wx.setCell ⟨gs 2,0,none⟩ (.int .i64 hi)).drew ao1 4 cap1 gs (farG gp 0 2 lo hi)):=by
    show Grid _ _ _ _ _ _ _
    have:=(GX.out.store hxy.out.2 hxy.out.1 hi).same (G:=from_ (w.heap.size+1)) Same.drew
    unfold farG
    rw[if_pos h0,←hgf.out,Int.min_eq_right (by omega)]
    exact this
   have hbS:Below w.heap.size w (wx.setCell ⟨gs 2,0,none⟩ (.int .i64 hi)).drew:=(hbx.setCell (p:=⟨gs 2,0,none⟩) (Nat.le_of_succ_le hF) _).drew
   have hsS:w.heap.size+1≤(wx.setCell ⟨gs 2,0,none⟩ (.int .i64 hi)).drew.heap.size:=by simp;omega
   clear hent hbx
   go_wp2_with fail
   go_still_tail 8,(by kernel_rfl)
   change wpList _ _ _ _ _ wx.drew
   go_wp2_with fail
   have hend: ∀ wz,Hid (wz=(wx.setCell ⟨gs 2,0,none⟩ (.int .i64 hi)).drew)→Calls Tryz.prog 61 #[.slice ao1 4 cap1] wz fun e w' =>(OnePost (optL 12 lo hi) w) e w' :=fun wz hz=>by
    have h:=hz.out
    subst h
    exact bounds_end hbS hsS GS.out HT.out
   refine(hend _ rfl).mono ?_
   rintro e wz (⟨hn,rfl,hbz⟩|⟨l,ao,cap,hn,hl4,rfl,hbz,hS⟩)
   ·have HN:=Lib.hid hn
    clear hn
    go_wp2
    go_ret2
    exact Or.inl ⟨HN.out,rfl,hbz⟩
   ·have HN:=Lib.hid hn
    have HL:=Lib.hid hl4
    have HS:=Lib.hid hS
    clear hn hl4 hS
    go_wp2
    go_ret2
    exact Or.inr ⟨l,ao,cap,HN.out,HL.out,rfl,hbz,HS.out⟩
  ·go_wp2_with fail
   go_quiet (fail)
   have hbx:Below w.heap.size w (wf.drewN nq):=hbw.trans (Joins.below_draws _ _ _)
   have GS:Hid (Grid (from_ (w.heap.size+1)) (wf.drewN nq) ao1 4 cap1 gs (farG gp 0 2 lo hi)):=by
    show Grid _ _ _ _ _ _ _
    refine(GF.out.below (Joins.below_draws _ _ _)).congr fun a b _ _=>?_
    unfold farG setB
    rw[if_pos h0,←hgf.out,Int.min_eq_left (by omega)]
    split
    ·rename_i e;rw[e.1,e.2]
    ·rfl
   have hsx:w.heap.size+1≤(wf.drewN nq).heap.size:=by simp;omega
   clear hix hcell e1 e2 e3 GF hbw hAlt hglt hF hne h1 h2 k1 k2
   generalize wf.drewN nq=wx at *
   go_wp2_with fail
   refine(bounds_end hbx hsx GS.out HT.out).mono ?_
   rintro e wz (⟨hn,rfl,hbz⟩|⟨l,ao,cap,hn,hl4,rfl,hbz,hS⟩)
   ·have HN:=Lib.hid hn
    clear hn
    go_wp2
    go_ret2
    exact Or.inl ⟨HN.out,rfl,hbz⟩
   ·have HN:=Lib.hid hn
    have HL:=Lib.hid hl4
    have HS:=Lib.hid hS
    clear hn hl4 hS
    go_wp2
    go_ret2
    exact Or.inr ⟨l,ao,cap,HN.out,HL.out,rfl,hbz,HS.out⟩
 ·have hm1:hi= -1:=by omega
  subst hm1
  go_wp2_with fail
  go_quiet (fail)
  have hbx:Below w.heap.size w (wf.drewN nq):=hbw.trans (Joins.below_draws _ _ _)
  have GS:Hid (Grid (from_ (w.heap.size+1)) (wf.drewN nq) ao1 4 cap1 gs (farG gp 0 2 lo (-1))):=by
   show Grid _ _ _ _ _ _ _
   unfold farG
   rw[if_neg (by decide),←hgf.out]
   exact GF.out.below (Joins.below_draws _ _ _)
  have hsx:w.heap.size+1≤(wf.drewN nq).heap.size:=by simp;omega
  clear hix hcell e1 e2 e3 GF hbw hAlt hglt hF hne h1 h2 k1 k2
  generalize wf.drewN nq=wx at *
  go_wp2_with fail
  refine(bounds_end hbx hsx GS.out HT.out).mono ?_
  rintro e wz (⟨hn,rfl,hbz⟩|⟨l,ao,cap,hn,hl4,rfl,hbz,hS⟩)
  ·have HN:=Lib.hid hn
   clear hn
   go_wp2
   go_ret2
   exact Or.inl ⟨HN.out,rfl,hbz⟩
  ·have HN:=Lib.hid hn
   have HL:=Lib.hid hl4
   have HS:=Lib.hid hS
   clear hn hl4 hS
   go_wp2
   go_ret2
   exact Or.inr ⟨l,ao,cap,HN.out,HL.out,rfl,hbz,HS.out⟩
theorem mid_13(lo hi:Int):midG 13 lo hi=farG (lessG (lessG (lessG (lessG (lessG (lessG freeG 0 1 0) 2 3 0) 0 2 0) 2 0 0) 1 3 0) 3 1 0) 0 2 lo hi:=by
 have hb:backR 13=false:=by decide
 have ho:oddR 13=13:=by unfold oddR;rw[hb];rfl
 unfold midG
 rw[ho]
 rfl
theorem tight_13(lo hi:Int)(hl:0≤lo∧lo≤1073741824)(hh: -1≤hi∧hi≤1073741824):
  (tight 4 5 (at2 (gridL 4 (farG (lessG (lessG (lessG (lessG (lessG (lessG freeG 0 1 0) 2 3 0) 0 2 0) 2 0 0) 1 3 0) 3 1 0) 0 2 lo hi)))=none∧optL 13 lo hi=none)∨(∃ d,tight 4 5 (at2 (gridL 4 (farG (lessG (lessG (lessG (lessG (lessG (lessG freeG 0 1 0) 2 3 0) 0 2 0) 2 0 0) 1 3 0) 3 1 0) 0 2 lo hi)))=some d∧optL 13 lo hi=some (gridL 4 d)):=by
 refine opt_tight hl hh id (fun a _=>?_) ?_
 ·unfold sgR
  rw[show backR 13=false from by decide]
  rfl
 ·rw[mid_13]
  exact((((((straight_free.less (x:=0) (y:=1) (by decide) (by decide) 0).less (x:=2) (y:=3) (by decide) (by decide) 0).less (x:=0) (y:=2) (by decide) (by decide) 0).less (x:=2) (y:=0) (by decide) (by decide) 0).less (x:=1) (y:=3) (by decide) (by decide) 0).less (x:=3) (y:=1) (by decide) (by decide) 0).far (x:=0) (y:=2) (by decide) (by decide) lo hi
set_option maxHeartbeats 4000000 in
set_option maxRecDepth 100000 in
theorem bounds_13(lo hi:Int)(w:World)(hl:0≤lo∧lo≤1073741824)(hh: -1≤hi∧hi≤1073741824):
  Calls Tryz.prog 88 #[.agg #[.int .i64 13,.int .i64 lo,.int .i64 hi]] w (OnePost (optL 13 lo hi) w):=by
 have HT:=Lib.hid (tight_13 lo hi hl hh)
 go_enter Tryz.func88,Tryz.ntmps88
 go_wp2_with fail
 refine(freeMatrix_grid 4 (by omega) _).mono ?_
 rintro e w1 ⟨ao1,cap1,gs,rfl,hb1,hG1⟩
 have k0:=hb1.cell (p:=⟨w.heap.size,0,none⟩) (by simp)
 have k1:=hb1.cell (p:=⟨w.heap.size,1,none⟩) (by simp)
 have k2:=hb1.cell (p:=⟨w.heap.size,2,none⟩) (by simp)
 simp at k0 k1 k2
 have hs1:=hb1.size
 have hbw:Below w.heap.size w w1:=(Joins.below_alloc1 w _).trans (hb1.mono (by simp))
 simp only[World.size_alloc]at hs1 hG1
 have G1:=Lib.hid hG1
 clear hb1 hG1
 go_wp2_with fail
 refine(ahead_any (w.heap.size+1) ao1 4 cap1 gs freeG 0 1 0 w1 (by omega) G1.out (by omega) (by omega) (by omega)).mono ?_
 rintro e w2 ⟨rfl,hb2,hG2⟩
 have hs2:=hb2.size
 replace k1:=(hb2.cell (p:=⟨w.heap.size,1,none⟩) (by simp)).trans k1
 replace k2:=(hb2.cell (p:=⟨w.heap.size,2,none⟩) (by simp)).trans k2
 replace hbw:=hbw.trans (hb2.mono (by omega))
 have G2:=Lib.hid hG2
 clear hG2 hb2 G1
 go_wp2_with fail
 refine(ahead_any (w.heap.size+1) ao1 4 cap1 gs (lessG freeG 0 1 0) 2 3 0 w2 (by omega) G2.out (by omega) (by omega) (by omega)).mono ?_
 rintro e w3 ⟨rfl,hb3,hG3⟩
 have hs3:=hb3.size
 replace k1:=(hb3.cell (p:=⟨w.heap.size,1,none⟩) (by simp)).trans k1
 replace k2:=(hb3.cell (p:=⟨w.heap.size,2,none⟩) (by simp)).trans k2
 replace hbw:=hbw.trans (hb3.mono (by omega))
 have G3:=Lib.hid hG3
 clear hG3 hb3 G2
 go_wp2_with fail
 refine(ahead_any (w.heap.size+1) ao1 4 cap1 gs (lessG (lessG freeG 0 1 0) 2 3 0) 0 2 0 w3 (by omega) G3.out (by omega) (by omega) (by omega)).mono ?_
 rintro e w4 ⟨rfl,hb4,hG4⟩
 have hs4:=hb4.size
 replace k1:=(hb4.cell (p:=⟨w.heap.size,1,none⟩) (by simp)).trans k1
 replace k2:=(hb4.cell (p:=⟨w.heap.size,2,none⟩) (by simp)).trans k2
 replace hbw:=hbw.trans (hb4.mono (by omega))
 have G4:=Lib.hid hG4
 clear hG4 hb4 G3
 go_wp2_with fail
 refine(ahead_any (w.heap.size+1) ao1 4 cap1 gs (lessG (lessG (lessG freeG 0 1 0) 2 3 0) 0 2 0) 2 0 0 w4 (by omega) G4.out (by omega) (by omega) (by omega)).mono ?_
 rintro e w5 ⟨rfl,hb5,hG5⟩
 have hs5:=hb5.size
 replace k1:=(hb5.cell (p:=⟨w.heap.size,1,none⟩) (by simp)).trans k1
 replace k2:=(hb5.cell (p:=⟨w.heap.size,2,none⟩) (by simp)).trans k2
 replace hbw:=hbw.trans (hb5.mono (by omega))
 have G5:=Lib.hid hG5
 clear hG5 hb5 G4
 go_wp2_with fail
 refine(ahead_any (w.heap.size+1) ao1 4 cap1 gs (lessG (lessG (lessG (lessG freeG 0 1 0) 2 3 0) 0 2 0) 2 0 0) 1 3 0 w5 (by omega) G5.out (by omega) (by omega) (by omega)).mono ?_
 rintro e w6 ⟨rfl,hb6,hG6⟩
 have hs6:=hb6.size
 replace k1:=(hb6.cell (p:=⟨w.heap.size,1,none⟩) (by simp)).trans k1
 replace k2:=(hb6.cell (p:=⟨w.heap.size,2,none⟩) (by simp)).trans k2
 replace hbw:=hbw.trans (hb6.mono (by omega))
 have G6:=Lib.hid hG6
 clear hG6 hb6 G5
 go_wp2_with fail
 refine(ahead_any (w.heap.size+1) ao1 4 cap1 gs (lessG (lessG (lessG (lessG (lessG freeG 0 1 0) 2 3 0) 0 2 0) 2 0 0) 1 3 0) 3 1 0 w6 (by omega) G6.out (by omega) (by omega) (by omega)).mono ?_
 rintro e w7 ⟨rfl,hb7,hG7⟩
 have hs7:=hb7.size
 replace k1:=(hb7.cell (p:=⟨w.heap.size,1,none⟩) (by simp)).trans k1
 replace k2:=(hb7.cell (p:=⟨w.heap.size,2,none⟩) (by simp)).trans k2
 replace hbw:=hbw.trans (hb7.mono (by omega))
 have G7:=Lib.hid hG7
 clear hG7 hb7 G6
 obtain⟨gp,hgp⟩: ∃ gp,Hid (gp=(lessG (lessG (lessG (lessG (lessG (lessG freeG 0 1 0) 2 3 0) 0 2 0) 2 0 0) 1 3 0) 3 1 0)):=⟨_,rfl⟩
 rw[←hgp.out]at G7 HT
 go_wp2_with fail
 refine(ahead_any (w.heap.size+1) ao1 4 cap1 gs gp 0 2 lo w7 (by omega) G7.out (by omega) (by omega) (by omega)).mono ?_
 rintro e wf ⟨rfl,hbf,hGf⟩
 have hsf:=hbf.size
 replace k1:=(hbf.cell (p:=⟨w.heap.size,1,none⟩) (by simp)).trans k1
 replace k2:=(hbf.cell (p:=⟨w.heap.size,2,none⟩) (by simp)).trans k2
 replace hbw:=hbw.trans (hbf.mono (by omega))
 clear hbf G7 hgp
 have hxy:Hid (0<4∧2<4):=⟨by omega,by omega⟩
 obtain⟨gf,hgf⟩: ∃ gf,Hid (gf=lessG gp 0 2 lo):=⟨_,rfl⟩
 rw[←hgf.out]at hGf
 have GF:=Lib.hid hGf
 have hmx:=hGf.max
 unfold maxLen at hmx
 obtain⟨hh1,hh2⟩:=hh
 obtain⟨Ai,rci,hAlt,hglt,hF,hne,h1,h2,hix,hcell,hent⟩:=hGf.at hxy.out.2
 obtain⟨e1,e2,e3⟩:=hent 0 hxy.out.1
 replace hix: ∀ wx,(Instr.indexAt 78 (.slice ao1 4 cap1) (.int .i64 2)).run Tryz.prog wx= .ok (.pointer (some ⟨Ai,2,none⟩)) wx:=hix
 replace e3: ∀ wx,(Instr.indexAt 26 (.slice (some ⟨gs 2,0,none⟩) 4 rci) (.int .i64 0)).run Tryz.prog wx= .ok (.pointer (some ⟨gs 2,0,none⟩)) wx:=e3
 clear hent hGf
 by_cases h0:0≤hi
 ·by_cases hst:hi<gf 2 0
  ·go_wp2_with fail
   go_quiet (fail)
   have hbx:Below w.heap.size w (wf.drewN nq):=hbw.trans (Joins.below_draws _ _ _)
   have GX:Hid (Grid (from_ (w.heap.size+1)) (wf.drewN nq) ao1 4 cap1 gs gf):=GF.out.below (Joins.below_draws _ _ _)
   have k3:(wf.drewN nq).cell? ⟨w.heap.size,2,none⟩=some (.int .i64 hi):=by simpa using k2
   clear hix hcell e1 e2 e3 GF hbw hAlt hglt hF hne h1 h2 k1 k2
   have hsx:w.heap.size+1≤(wf.drewN nq).heap.size:=by simp;omega
   generalize wf.drewN nq=wx at *
   obtain⟨Ai,rci,hAlt,hglt,hF,hne,h1,h2,hix,hcell,hent⟩:=GX.out.at hxy.out.2
   obtain⟨e1,e2,e3⟩:=hent 0 hxy.out.1
   replace hix: ∀ wx,(Instr.indexAt 78 (.slice ao1 4 cap1) (.int .i64 2)).run Tryz.prog wx= .ok (.pointer (some ⟨Ai,2,none⟩)) wx:=hix
   replace e3: ∀ wx,(Instr.indexAt 26 (.slice (some ⟨gs 2,0,none⟩) 4 rci) (.int .i64 0)).run Tryz.prog wx= .ok (.pointer (some ⟨gs 2,0,none⟩)) wx:=e3
   have GS:Hid (Grid (from_ (w.heap.size+1)) (wx.setCell ⟨gs 2,0,none⟩ (.int .i64 hi)).drew ao1 4 cap1 gs (farG gp 0 2 lo hi)):=by
    show Grid _ _ _ _ _ _ _
    have:=(GX.out.store hxy.out.2 hxy.out.1 hi).same (G:=from_ (w.heap.size+1)) Same.drew
    unfold farG
    rw[if_pos h0,←hgf.out,Int.min_eq_right (by omega)]
    exact this
   have hbS:Below w.heap.size w (wx.setCell ⟨gs 2,0,none⟩ (.int .i64 hi)).drew:=(hbx.setCell (p:=⟨gs 2,0,none⟩) (Nat.le_of_succ_le hF) _).drew
   have hsS:w.heap.size+1≤(wx.setCell ⟨gs 2,0,none⟩ (.int .i64 hi)).drew.heap.size:=by simp;omega
   clear hent hbx
   go_wp2_with fail
   go_still_tail 8,(by kernel_rfl)
   change wpList _ _ _ _ _ wx.drew
   go_wp2_with fail
   have hend: ∀ wz,Hid (wz=(wx.setCell ⟨gs 2,0,none⟩ (.int .i64 hi)).drew)→Calls Tryz.prog 61 #[.slice ao1 4 cap1] wz fun e w' =>(OnePost (optL 13 lo hi) w) e w' :=fun wz hz=>by
    have h:=hz.out
    subst h
    exact bounds_end hbS hsS GS.out HT.out
   refine(hend _ rfl).mono ?_
   rintro e wz (⟨hn,rfl,hbz⟩|⟨l,ao,cap,hn,hl4,rfl,hbz,hS⟩)
   ·have HN:=Lib.hid hn
    clear hn
    go_wp2
    go_ret2
    exact Or.inl ⟨HN.out,rfl,hbz⟩
   ·have HN:=Lib.hid hn
    have HL:=Lib.hid hl4
    have HS:=Lib.hid hS
    clear hn hl4 hS
    go_wp2
    go_ret2
    exact Or.inr ⟨l,ao,cap,HN.out,HL.out,rfl,hbz,HS.out⟩
  ·go_wp2_with fail
   go_quiet (fail)
   have hbx:Below w.heap.size w (wf.drewN nq):=hbw.trans (Joins.below_draws _ _ _)
   have GS:Hid (Grid (from_ (w.heap.size+1)) (wf.drewN nq) ao1 4 cap1 gs (farG gp 0 2 lo hi)):=by
    show Grid _ _ _ _ _ _ _
    refine(GF.out.below (Joins.below_draws _ _ _)).congr fun a b _ _=>?_
    unfold farG setB
    rw[if_pos h0,←hgf.out,Int.min_eq_left (by omega)]
    split
    ·rename_i e;rw[e.1,e.2]
    ·rfl
   have hsx:w.heap.size+1≤(wf.drewN nq).heap.size:=by simp;omega
   clear hix hcell e1 e2 e3 GF hbw hAlt hglt hF hne h1 h2 k1 k2
   generalize wf.drewN nq=wx at *
   go_wp2_with fail
   refine(bounds_end hbx hsx GS.out HT.out).mono ?_
   rintro e wz (⟨hn,rfl,hbz⟩|⟨l,ao,cap,hn,hl4,rfl,hbz,hS⟩)
   ·have HN:=Lib.hid hn
    clear hn
    go_wp2
    go_ret2
    exact Or.inl ⟨HN.out,rfl,hbz⟩
   ·have HN:=Lib.hid hn
    have HL:=Lib.hid hl4
    have HS:=Lib.hid hS
    clear hn hl4 hS
    go_wp2
    go_ret2
    exact Or.inr ⟨l,ao,cap,HN.out,HL.out,rfl,hbz,HS.out⟩
 ·have hm1:hi= -1:=by omega
  subst hm1
  go_wp2_with fail
  go_quiet (fail)
  have hbx:Below w.heap.size w (wf.drewN nq):=hbw.trans (Joins.below_draws _ _ _)
  have GS:Hid (Grid (from_ (w.heap.size+1)) (wf.drewN nq) ao1 4 cap1 gs (farG gp 0 2 lo (-1))):=by
   show Grid _ _ _ _ _ _ _
   unfold farG
   rw[if_neg (by decide),←hgf.out]
   exact GF.out.below (Joins.below_draws _ _ _)
  have hsx:w.heap.size+1≤(wf.drewN nq).heap.size:=by simp;omega
  clear hix hcell e1 e2 e3 GF hbw hAlt hglt hF hne h1 h2 k1 k2
  generalize wf.drewN nq=wx at *
  go_wp2_with fail
  refine(bounds_end hbx hsx GS.out HT.out).mono ?_
  rintro e wz (⟨hn,rfl,hbz⟩|⟨l,ao,cap,hn,hl4,rfl,hbz,hS⟩)
  ·have HN:=Lib.hid hn
   clear hn
   go_wp2
   go_ret2
   exact Or.inl ⟨HN.out,rfl,hbz⟩
  ·have HN:=Lib.hid hn
   have HL:=Lib.hid hl4
   have HS:=Lib.hid hS
   clear hn hl4 hS
   go_wp2
   go_ret2
   exact Or.inr ⟨l,ao,cap,HN.out,HL.out,rfl,hbz,HS.out⟩
theorem bounds_any(r lo hi:Int)(w:World)(hr:1≤r∧r≤13)(hl:0≤lo∧lo≤1073741824)(hh: -1≤hi∧hi≤1073741824):
  Calls Tryz.prog 88 #[.agg #[.int .i64 r,.int .i64 lo,.int .i64 hi]] w (OnePost (optL r lo hi) w):=by
 rcases thirteen hr with rfl|rfl|rfl|rfl|rfl|rfl|rfl|rfl|rfl|rfl|rfl|rfl|rfl
 ·exact bounds_1 lo hi w hl hh
 ·exact bounds_2 lo hi w hl hh
 ·exact bounds_3 lo hi w hl hh
 ·exact bounds_4 lo hi w hl hh
 ·exact bounds_5 lo hi w hl hh
 ·exact bounds_6 lo hi w hl hh
 ·exact bounds_7 lo hi w hl hh
 ·exact bounds_8 lo hi w hl hh
 ·exact bounds_9 lo hi w hl hh
 ·exact bounds_10 lo hi w hl hh
 ·exact bounds_11 lo hi w hl hh
 ·exact bounds_12 lo hi w hl hh
 ·exact bounds_13 lo hi w hl hh
end Go.Proofs.YtncmghnhfipklaaGreatDoor
