/-
  The walk of the reference's optionBounds, relation by relation. Printed by oby.py.
-/
import Derived.Test.YtncmghnhfipklaaGreatDoorPu07
namespace Go.Proofs.YtncmghnhfipklaaGreatDoor
open Go.RowKit
set_option linter.unusedVariables false
set_option linter.unusedSimpArgs false
theorem bounds_end{r lo hi:Int}{w wz:World}{ao:Option Addr}{cap:Nat}{gs:Nat→Nat}{G:Mx}(hb:Below w.heap.size w wz)(hs:w.heap.size+1≤wz.heap.size)(hG:Grid (from_ (w.heap.size+1)) wz ao 4 cap gs G)
  (hT:(tight 4 5 (at2 (gridL 4 G))=none∧optL r lo hi=none)∨(∃ d,tight 4 5 (at2 (gridL 4 G))=some d∧optL r lo hi=some (gridL 4 d))):
  Calls Tryz.prog 61 #[.slice ao 4 cap] wz (OnePost (optL r lo hi) w):=by
 refine(tightened_any _ ao 4 cap (gridL 4 G) wz (hG.toF (by omega)) (by omega) (fun i hi=>?_)).mono ?_
 ·have:i<4:=by simpa[gridL]using hi
  simp[gridL,List.getD,List.getElem?_eq_getElem,this]
 ·intro e w' h
  rcases hT with⟨t1,t2⟩|⟨d,t1,t2⟩
  ·rcases h with⟨_,h2,h3⟩|⟨d,ao',cap',gs',h1,_⟩
   ·exact Or.inl ⟨t2,h2,hb.trans (h3.mono (by omega))⟩
   ·rw[show(4+1)=5 from rfl,t1]at h1;cases h1
  ·rcases h with⟨h1,_,_⟩|⟨d',ao',cap',gs',h1,h2,h3,h4⟩
   ·rw[show(4+1)=5 from rfl,t1]at h1;cases h1
   ·rw[show(4+1)=5 from rfl,t1]at h1
    obtain rfl:d=d' :=by injection h1
    exact Or.inr ⟨gridL 4 d,ao',cap',t2,by simp[gridL],h2,hb.trans (h3.mono (by omega)),(h4.same (Same.wide fun b hb _=>by unfold from_ at *;omega)).toF (by omega)⟩
def OneEx(r lo hi:Int)(w:World)(e:Ending)(w' :World):Prop:= ∃ v c,e= .returned (.tuple #[v,.bool c])∧Hid (OnePost (optL r lo hi) w (.returned (.tuple #[v,.bool c])) w')
theorem bounds_fin{r lo hi:Int}{w wz:World}{ao:Option Addr}{cap:Nat}{gs:Nat→Nat}{G:Mx}(hb:Below w.heap.size w wz)(hs:w.heap.size+1≤wz.heap.size)(hG:Grid (from_ (w.heap.size+1)) wz ao 4 cap gs G)
  (hT:(tight 4 5 (at2 (gridL 4 G))=none∧optL r lo hi=none)∨(∃ d,tight 4 5 (at2 (gridL 4 G))=some d∧optL r lo hi=some (gridL 4 d))):
  Calls Tryz.prog 61 #[.slice ao 4 cap] wz (OneEx r lo hi w):=by
 refine(bounds_end hb hs hG hT).mono ?_
 rintro e w' (⟨hn,rfl,hbz⟩|⟨l,ao,cap,hn,hl4,rfl,hbz,hS⟩)
 ·exact⟨_,_,rfl,Or.inl ⟨hn,rfl,hbz⟩⟩
 ·exact⟨_,_,rfl,Or.inr ⟨l,ao,cap,hn,hl4,rfl,hbz,hS⟩⟩
theorem kp{w w1 w2:World}{j:Nat}{v:Value}(hb:Below (w.heap.size+1) w1 w2)(k:w1.cell? ⟨w.heap.size,j,none⟩=some v):w2.cell? ⟨w.heap.size,j,none⟩=some v:=(hb.cell (p:=⟨w.heap.size,j,none⟩) (by simp)).trans k
theorem aheadS{w w1:World}{ao:Option Addr}{cap:Nat}{gs:Nat→Nat}{g:Mx}{v1 v2:Value}(x y:Nat)(n:Int)(hs:w.heap.size+1≤w1.heap.size)(k1:w1.cell? ⟨w.heap.size,1,none⟩=some v1)(k2:w1.cell? ⟨w.heap.size,2,none⟩=some v2)(hbw:Below w.heap.size w w1)(G:Hid (Grid (from_ (w.heap.size+1)) w1 ao 4 cap gs g))(hx:x<4)(hy:y<4)(hn: -4611686018427387904≤n∧n≤4611686018427387904):
  Calls Tryz.prog 102 #[.slice ao 4 cap,.int .i64 x,.int .i64 y,.int .i64 n] w1 fun e w' =>e= .returned (.tuple #[])∧w.heap.size+1≤w'.heap.size∧w'.cell? ⟨w.heap.size,1,none⟩=some v1∧w'.cell? ⟨w.heap.size,2,none⟩=some v2∧Below w.heap.size w w' ∧Hid (Grid (from_ (w.heap.size+1)) w' ao 4 cap gs (lessG g x y n)):=by
 refine(ahead_any _ ao 4 cap gs g x y n w1 hs G.out hx hy hn).mono ?_
 rintro e w' ⟨he,hb,hG⟩
 exact⟨he,Nat.le_trans hs hb.size,kp hb k1,kp hb k2,hbw.trans (hb.mono (by omega)),hG⟩
theorem mid_1(lo hi:Int):midG 1 lo hi=farG (lessG (lessG (lessG freeG 0 1 0) 2 3 0) 1 2 1) 1 2 lo hi:=by
 have hb:backR 1=false:=by decide
 have ho:oddR 1=1:=by unfold oddR;rw[hb];rfl
 unfold midG
 rw[ho]
 rfl
theorem tight_1(lo hi:Int)(hl:0≤lo∧lo≤1073741824)(hh: -1≤hi∧hi≤1073741824):
  (tight 4 5 (at2 (gridL 4 (farG (lessG (lessG (lessG freeG 0 1 0) 2 3 0) 1 2 1) 1 2 lo hi)))=none∧optL 1 lo hi=none)∨(∃ d,tight 4 5 (at2 (gridL 4 (farG (lessG (lessG (lessG freeG 0 1 0) 2 3 0) 1 2 1) 1 2 lo hi)))=some d∧optL 1 lo hi=some (gridL 4 d)):=by
 refine opt_tight hl hh id (fun a _=>?_) ?_
 ·unfold sgR
  rw[show backR 1=false from by decide]
  rfl
 ·rw[mid_1]
  exact(((straight_free.less (x:=0) (y:=1) (by decide) (by decide) 0).less (x:=2) (y:=3) (by decide) (by decide) 0).less (x:=1) (y:=2) (by decide) (by decide) 1).far (x:=1) (y:=2) (by decide) (by decide) lo hi
set_option maxHeartbeats 4000000 in
set_option maxRecDepth 100000 in
theorem bounds_1(lo hi:Int)(w:World)(hl:0≤lo∧lo≤1073741824)(hh: -1≤hi∧hi≤1073741824):
  Calls Tryz.prog 88 #[.agg #[.int .i64 1,.int .i64 lo,.int .i64 hi]] w (OnePost (optL 1 lo hi) w):=by
 have HT:=Lib.hid (tight_1 lo hi hl hh)
 go_enter Tryz.func88,Tryz.ntmps88
 go_wp2_with fail
 refine(freeMatrix_grid 4 (by omega) _).mono ?_
 rintro e w1 ⟨ao1,cap1,gs,rfl,hb1,hG1⟩
 have k0:=hb1.cell (p:=⟨w.heap.size,0,none⟩) (by simp)
 have k1:=hb1.cell (p:=⟨w.heap.size,1,none⟩) (by simp)
 have k2:=hb1.cell (p:=⟨w.heap.size,2,none⟩) (by simp)
 simp at k0 k1 k2
 have hs1:=hb1.size
 have hbw:Below w.heap.size w w1:=(Joins.below_alloc1 w _).trans (hb1.mono (by simp))
 simp only[World.size_alloc]at hs1 hG1
 have G1:=Lib.hid hG1
 clear hb1 hG1
 go_wp2_with fail
 refine(aheadS 0 1 0 hs1 k1 k2 hbw G1 (by omega) (by omega) (by omega)).mono ?_
 clear k1 k2 hbw G1
 rintro e w2 ⟨rfl,hs2,k1,k2,hbw,G2⟩
 go_wp2_with fail
 refine(aheadS 2 3 0 hs2 k1 k2 hbw G2 (by omega) (by omega) (by omega)).mono ?_
 clear k1 k2 hbw G2
 rintro e w3 ⟨rfl,hs3,k1,k2,hbw,G3⟩
 go_wp2_with fail
 refine(aheadS 1 2 1 hs3 k1 k2 hbw G3 (by omega) (by omega) (by omega)).mono ?_
 clear k1 k2 hbw G3
 rintro e w4 ⟨rfl,hs4,k1,k2,hbw,G4⟩
 obtain⟨gp,hgp⟩: ∃ gp,Hid (gp=(lessG (lessG (lessG freeG 0 1 0) 2 3 0) 1 2 1)):=⟨_,rfl⟩
 rw[←hgp.out]at G4 HT
 go_wp2_with fail
 refine(aheadS 1 2 lo hs4 k1 k2 hbw G4 (by omega) (by omega) (by omega)).mono ?_
 clear k1 k2 hbw
 rintro e wf ⟨rfl,hsf,k1,k2,hbw,GF⟩
 have hGf:=GF.out
 clear GF G4 hgp
 have hxy:Hid (1<4∧2<4):=⟨by omega,by omega⟩
 obtain⟨gf,hgf⟩: ∃ gf,Hid (gf=lessG gp 1 2 lo):=⟨_,rfl⟩
 rw[←hgf.out]at hGf
 have GF:=Lib.hid hGf
 have hmx:=hGf.max
 unfold maxLen at hmx
 obtain⟨hh1,hh2⟩:=hh
 obtain⟨Ai,rci,hAlt,hglt,hF,hne,h1,h2,hix,hcell,hent⟩:=hGf.at hxy.out.2
 obtain⟨e1,e2,e3⟩:=hent 1 hxy.out.1
 replace hix: ∀ wx,(Instr.indexAt 78 (.slice ao1 4 cap1) (.int .i64 2)).run Tryz.prog wx= .ok (.pointer (some ⟨Ai,2,none⟩)) wx:=hix
 replace e3: ∀ wx,(Instr.indexAt 26 (.slice (some ⟨gs 2,0,none⟩) 4 rci) (.int .i64 1)).run Tryz.prog wx= .ok (.pointer (some ⟨gs 2,1,none⟩)) wx:=e3
 clear hent hGf
 by_cases h0:0≤hi
 ·by_cases hst:hi<gf 2 1
  ·go_wp2_with fail
   go_quiet (fail)
   have hbx:Below w.heap.size w (wf.drewN nq):=hbw.trans (Joins.below_draws _ _ _)
   have GX:Hid (Grid (from_ (w.heap.size+1)) (wf.drewN nq) ao1 4 cap1 gs gf):=GF.out.below (Joins.below_draws _ _ _)
   have k3:(wf.drewN nq).cell? ⟨w.heap.size,2,none⟩=some (.int .i64 hi):=by simpa using k2
   clear hix hcell e1 e2 e3 GF hbw hAlt hglt hF hne h1 h2 k1 k2
   have hsx:w.heap.size+1≤(wf.drewN nq).heap.size:=by simp;omega
   generalize wf.drewN nq=wx at *
   obtain⟨Ai,rci,hAlt,hglt,hF,hne,h1,h2,hix,hcell,hent⟩:=GX.out.at hxy.out.2
   obtain⟨e1,e2,e3⟩:=hent 1 hxy.out.1
   replace hix: ∀ wx,(Instr.indexAt 78 (.slice ao1 4 cap1) (.int .i64 2)).run Tryz.prog wx= .ok (.pointer (some ⟨Ai,2,none⟩)) wx:=hix
   replace e3: ∀ wx,(Instr.indexAt 26 (.slice (some ⟨gs 2,0,none⟩) 4 rci) (.int .i64 1)).run Tryz.prog wx= .ok (.pointer (some ⟨gs 2,1,none⟩)) wx:=e3
   have GS:Hid (Grid (from_ (w.heap.size+1)) (wx.setCell ⟨gs 2,1,none⟩ (.int .i64 hi)).drew ao1 4 cap1 gs (farG gp 1 2 lo hi)):=by
    show Grid _ _ _ _ _ _ _
    have:=(GX.out.store hxy.out.2 hxy.out.1 hi).same (G:=from_ (w.heap.size+1)) Same.drew
    unfold farG
    rw[if_pos h0,←hgf.out,Int.min_eq_right (by omega)]
    exact this
   have hbS:Below w.heap.size w (wx.setCell ⟨gs 2,1,none⟩ (.int .i64 hi)).drew:=(hbx.setCell (p:=⟨gs 2,1,none⟩) (Nat.le_of_succ_le hF) _).drew
   have hsS:w.heap.size+1≤(wx.setCell ⟨gs 2,1,none⟩ (.int .i64 hi)).drew.heap.size:=by simp;omega
   clear hent hbx
   go_wp2_with fail
   go_still_tail 8,(by kernel_rfl)
   change wpList _ _ _ _ _ wx.drew
   go_wp2_with fail
   have hend: ∀ wz,Hid (wz=(wx.setCell ⟨gs 2,1,none⟩ (.int .i64 hi)).drew)→Calls Tryz.prog 61 #[.slice ao1 4 cap1] wz (OneEx 1 lo hi w):=fun wz hz=>by
    have h:=hz.out
    subst h
    exact bounds_fin hbS hsS GS.out HT.out
   refine(hend _ rfl).mono ?_
   rintro e wz ⟨v,c,rfl,hP⟩
   go_wp2
   go_ret2
   exact hP.out
  ·go_wp2_with fail
   go_quiet (fail)
   have hbx:Below w.heap.size w (wf.drewN nq):=hbw.trans (Joins.below_draws _ _ _)
   have GS:Hid (Grid (from_ (w.heap.size+1)) (wf.drewN nq) ao1 4 cap1 gs (farG gp 1 2 lo hi)):=by
    show Grid _ _ _ _ _ _ _
    refine(GF.out.below (Joins.below_draws _ _ _)).congr fun a b _ _=>?_
    unfold farG setB
    rw[if_pos h0,←hgf.out,Int.min_eq_left (by omega)]
    split
    ·rename_i e;rw[e.1,e.2]
    ·rfl
   have hsx:w.heap.size+1≤(wf.drewN nq).heap.size:=by simp;omega
   clear hix hcell e1 e2 e3 GF hbw hAlt hglt hF hne h1 h2 k1 k2
   generalize wf.drewN nq=wx at *
   go_wp2_with fail
   refine(bounds_fin hbx hsx GS.out HT.out).mono ?_
   rintro e wz ⟨v,c,rfl,hP⟩
   go_wp2
   go_ret2
   exact hP.out
 ·have hm1:hi= -1:=by omega
  subst hm1
  go_wp2_with fail
  go_quiet (fail)
  have hbx:Below w.heap.size w (wf.drewN nq):=hbw.trans (Joins.below_draws _ _ _)
  have GS:Hid (Grid (from_ (w.heap.size+1)) (wf.drewN nq) ao1 4 cap1 gs (farG gp 1 2 lo (-1))):=by
   show Grid _ _ _ _ _ _ _
   unfold farG
   rw[if_neg (by decide),←hgf.out]
   exact GF.out.below (Joins.below_draws _ _ _)
  have hsx:w.heap.size+1≤(wf.drewN nq).heap.size:=by simp;omega
  clear hix hcell e1 e2 e3 GF hbw hAlt hglt hF hne h1 h2 k1 k2
  generalize wf.drewN nq=wx at *
  go_wp2_with fail
  refine(bounds_fin hbx hsx GS.out HT.out).mono ?_
  rintro e wz ⟨v,c,rfl,hP⟩
  go_wp2
  go_ret2
  exact hP.out
theorem mid_2(lo hi:Int):midG 2 lo hi=farG (lessG (lessG (lessG freeG 0 1 0) 2 3 0) 1 2 1) 1 2 lo hi:=by
 have hb:backR 2=true:=by decide
 have ho:oddR 2=1:=by unfold oddR;rw[hb];rfl
 unfold midG
 rw[ho]
 rfl
theorem tight_2(lo hi:Int)(hl:0≤lo∧lo≤1073741824)(hh: -1≤hi∧hi≤1073741824):
  (tight 4 5 (at2 (gridL 4 (farG (lessG (lessG (lessG freeG 2 3 0) 0 1 0) 3 0 1) 3 0 lo hi)))=none∧optL 2 lo hi=none)∨(∃ d,tight 4 5 (at2 (gridL 4 (farG (lessG (lessG (lessG freeG 2 3 0) 0 1 0) 3 0 1) 3 0 lo hi)))=some d∧optL 2 lo hi=some (gridL 4 d)):=by
 refine opt_tight hl hh sw (fun a _=>?_) ?_
 ·unfold sgR
  rw[show backR 2=true from by decide]
  rfl
 ·rw[mid_2]
  exact(((turned_free.less (x:=0) (y:=1) (by decide) (by decide) 0).less (x:=2) (y:=3) (by decide) (by decide) 0).less (x:=1) (y:=2) (by decide) (by decide) 1).far (x:=1) (y:=2) (by decide) (by decide) lo hi
set_option maxHeartbeats 4000000 in
set_option maxRecDepth 100000 in
theorem bounds_2(lo hi:Int)(w:World)(hl:0≤lo∧lo≤1073741824)(hh: -1≤hi∧hi≤1073741824):
  Calls Tryz.prog 88 #[.agg #[.int .i64 2,.int .i64 lo,.int .i64 hi]] w (OnePost (optL 2 lo hi) w):=by
 have HT:=Lib.hid (tight_2 lo hi hl hh)
 go_enter Tryz.func88,Tryz.ntmps88
 go_wp2_with fail
 refine(freeMatrix_grid 4 (by omega) _).mono ?_
 rintro e w1 ⟨ao1,cap1,gs,rfl,hb1,hG1⟩
 have k0:=hb1.cell (p:=⟨w.heap.size,0,none⟩) (by simp)
 have k1:=hb1.cell (p:=⟨w.heap.size,1,none⟩) (by simp)
 have k2:=hb1.cell (p:=⟨w.heap.size,2,none⟩) (by simp)
 simp at k0 k1 k2
 have hs1:=hb1.size
 have hbw:Below w.heap.size w w1:=(Joins.below_alloc1 w _).trans (hb1.mono (by simp))
 simp only[World.size_alloc]at hs1 hG1
 have G1:=Lib.hid hG1
 clear hb1 hG1
 go_wp2_with fail
 refine(aheadS 2 3 0 hs1 k1 k2 hbw G1 (by omega) (by omega) (by omega)).mono ?_
 clear k1 k2 hbw G1
 rintro e w2 ⟨rfl,hs2,k1,k2,hbw,G2⟩
 go_wp2_with fail
 refine(aheadS 0 1 0 hs2 k1 k2 hbw G2 (by omega) (by omega) (by omega)).mono ?_
 clear k1 k2 hbw G2
 rintro e w3 ⟨rfl,hs3,k1,k2,hbw,G3⟩
 go_wp2_with fail
 refine(aheadS 3 0 1 hs3 k1 k2 hbw G3 (by omega) (by omega) (by omega)).mono ?_
 clear k1 k2 hbw G3
 rintro e w4 ⟨rfl,hs4,k1,k2,hbw,G4⟩
 obtain⟨gp,hgp⟩: ∃ gp,Hid (gp=(lessG (lessG (lessG freeG 2 3 0) 0 1 0) 3 0 1)):=⟨_,rfl⟩
 rw[←hgp.out]at G4 HT
 go_wp2_with fail
 refine(aheadS 3 0 lo hs4 k1 k2 hbw G4 (by omega) (by omega) (by omega)).mono ?_
 clear k1 k2 hbw
 rintro e wf ⟨rfl,hsf,k1,k2,hbw,GF⟩
 have hGf:=GF.out
 clear GF G4 hgp
 have hxy:Hid (3<4∧0<4):=⟨by omega,by omega⟩
 obtain⟨gf,hgf⟩: ∃ gf,Hid (gf=lessG gp 3 0 lo):=⟨_,rfl⟩
 rw[←hgf.out]at hGf
 have GF:=Lib.hid hGf
 have hmx:=hGf.max
 unfold maxLen at hmx
 obtain⟨hh1,hh2⟩:=hh
 obtain⟨Ai,rci,hAlt,hglt,hF,hne,h1,h2,hix,hcell,hent⟩:=hGf.at hxy.out.2
 obtain⟨e1,e2,e3⟩:=hent 3 hxy.out.1
 replace hix: ∀ wx,(Instr.indexAt 78 (.slice ao1 4 cap1) (.int .i64 0)).run Tryz.prog wx= .ok (.pointer (some ⟨Ai,0,none⟩)) wx:=hix
 replace e3: ∀ wx,(Instr.indexAt 26 (.slice (some ⟨gs 0,0,none⟩) 4 rci) (.int .i64 3)).run Tryz.prog wx= .ok (.pointer (some ⟨gs 0,3,none⟩)) wx:=e3
 clear hent hGf
 by_cases h0:0≤hi
 ·by_cases hst:hi<gf 0 3
  ·go_wp2_with fail
   go_quiet (fail)
   have hbx:Below w.heap.size w (wf.drewN nq):=hbw.trans (Joins.below_draws _ _ _)
   have GX:Hid (Grid (from_ (w.heap.size+1)) (wf.drewN nq) ao1 4 cap1 gs gf):=GF.out.below (Joins.below_draws _ _ _)
   have k3:(wf.drewN nq).cell? ⟨w.heap.size,2,none⟩=some (.int .i64 hi):=by simpa using k2
   clear hix hcell e1 e2 e3 GF hbw hAlt hglt hF hne h1 h2 k1 k2
   have hsx:w.heap.size+1≤(wf.drewN nq).heap.size:=by simp;omega
   generalize wf.drewN nq=wx at *
   obtain⟨Ai,rci,hAlt,hglt,hF,hne,h1,h2,hix,hcell,hent⟩:=GX.out.at hxy.out.2
   obtain⟨e1,e2,e3⟩:=hent 3 hxy.out.1
   replace hix: ∀ wx,(Instr.indexAt 78 (.slice ao1 4 cap1) (.int .i64 0)).run Tryz.prog wx= .ok (.pointer (some ⟨Ai,0,none⟩)) wx:=hix
   replace e3: ∀ wx,(Instr.indexAt 26 (.slice (some ⟨gs 0,0,none⟩) 4 rci) (.int .i64 3)).run Tryz.prog wx= .ok (.pointer (some ⟨gs 0,3,none⟩)) wx:=e3
   have GS:Hid (Grid (from_ (w.heap.size+1)) (wx.setCell ⟨gs 0,3,none⟩ (.int .i64 hi)).drew ao1 4 cap1 gs (farG gp 3 0 lo hi)):=by
    show Grid _ _ _ _ _ _ _
    have:=(GX.out.store hxy.out.2 hxy.out.1 hi).same (G:=from_ (w.heap.size+1)) Same.drew
    unfold farG
    rw[if_pos h0,←hgf.out,Int.min_eq_right (by omega)]
    exact this
   have hbS:Below w.heap.size w (wx.setCell ⟨gs 0,3,none⟩ (.int .i64 hi)).drew:=(hbx.setCell (p:=⟨gs 0,3,none⟩) (Nat.le_of_succ_le hF) _).drew
   have hsS:w.heap.size+1≤(wx.setCell ⟨gs 0,3,none⟩ (.int .i64 hi)).drew.heap.size:=by simp;omega
   clear hent hbx
   go_wp2_with fail
   go_still_tail 8,(by kernel_rfl)
   change wpList _ _ _ _ _ wx.drew
   go_wp2_with fail
   have hend: ∀ wz,Hid (wz=(wx.setCell ⟨gs 0,3,none⟩ (.int .i64 hi)).drew)→Calls Tryz.prog 61 #[.slice ao1 4 cap1] wz (OneEx 2 lo hi w):=fun wz hz=>by
    have h:=hz.out
    subst h
    exact bounds_fin hbS hsS GS.out HT.out
   refine(hend _ rfl).mono ?_
   rintro e wz ⟨v,c,rfl,hP⟩
   go_wp2
   go_ret2
   exact hP.out
  ·go_wp2_with fail
   go_quiet (fail)
   have hbx:Below w.heap.size w (wf.drewN nq):=hbw.trans (Joins.below_draws _ _ _)
   have GS:Hid (Grid (from_ (w.heap.size+1)) (wf.drewN nq) ao1 4 cap1 gs (farG gp 3 0 lo hi)):=by
    show Grid _ _ _ _ _ _ _
    refine(GF.out.below (Joins.below_draws _ _ _)).congr fun a b _ _=>?_
    unfold farG setB
    rw[if_pos h0,←hgf.out,Int.min_eq_left (by omega)]
    split
    ·rename_i e;rw[e.1,e.2]
    ·rfl
   have hsx:w.heap.size+1≤(wf.drewN nq).heap.size:=by simp;omega
   clear hix hcell e1 e2 e3 GF hbw hAlt hglt hF hne h1 h2 k1 k2
   generalize wf.drewN nq=wx at *
   go_wp2_with fail
   refine(bounds_fin hbx hsx GS.out HT.out).mono ?_
   rintro e wz ⟨v,c,rfl,hP⟩
   go_wp2
   go_ret2
   exact hP.out
 ·have hm1:hi= -1:=by omega
  subst hm1
  go_wp2_with fail
  go_quiet (fail)
  have hbx:Below w.heap.size w (wf.drewN nq):=hbw.trans (Joins.below_draws _ _ _)
  have GS:Hid (Grid (from_ (w.heap.size+1)) (wf.drewN nq) ao1 4 cap1 gs (farG gp 3 0 lo (-1))):=by
   show Grid _ _ _ _ _ _ _
   unfold farG
   rw[if_neg (by decide),←hgf.out]
   exact GF.out.below (Joins.below_draws _ _ _)
  have hsx:w.heap.size+1≤(wf.drewN nq).heap.size:=by simp;omega
  clear hix hcell e1 e2 e3 GF hbw hAlt hglt hF hne h1 h2 k1 k2
  generalize wf.drewN nq=wx at *
  go_wp2_with fail
  refine(bounds_fin hbx hsx GS.out HT.out).mono ?_
  rintro e wz ⟨v,c,rfl,hP⟩
  go_wp2
  go_ret2
  exact hP.out
theorem mid_3(lo hi:Int):midG 3 lo hi=farG (lessG (lessG (lessG (lessG (lessG (lessG freeG 0 1 0) 2 3 0) 1 2 0) 2 1 0) 0 2 1) 1 3 1) 1 2 lo hi:=by
 have hb:backR 3=false:=by decide
 have ho:oddR 3=3:=by unfold oddR;rw[hb];rfl
 unfold midG
 rw[ho]
 rfl
theorem tight_3(lo hi:Int)(hl:0≤lo∧lo≤1073741824)(hh: -1≤hi∧hi≤1073741824):
  (tight 4 5 (at2 (gridL 4 (farG (lessG (lessG (lessG (lessG (lessG (lessG freeG 0 1 0) 2 3 0) 1 2 0) 2 1 0) 0 2 1) 1 3 1) 1 2 lo hi)))=none∧optL 3 lo hi=none)∨(∃ d,tight 4 5 (at2 (gridL 4 (farG (lessG (lessG (lessG (lessG (lessG (lessG freeG 0 1 0) 2 3 0) 1 2 0) 2 1 0) 0 2 1) 1 3 1) 1 2 lo hi)))=some d∧optL 3 lo hi=some (gridL 4 d)):=by
 refine opt_tight hl hh id (fun a _=>?_) ?_
 ·unfold sgR
  rw[show backR 3=false from by decide]
  rfl
 ·rw[mid_3]
  exact((((((straight_free.less (x:=0) (y:=1) (by decide) (by decide) 0).less (x:=2) (y:=3) (by decide) (by decide) 0).less (x:=1) (y:=2) (by decide) (by decide) 0).less (x:=2) (y:=1) (by decide) (by decide) 0).less (x:=0) (y:=2) (by decide) (by decide) 1).less (x:=1) (y:=3) (by decide) (by decide) 1).far (x:=1) (y:=2) (by decide) (by decide) lo hi
set_option maxHeartbeats 4000000 in
set_option maxRecDepth 100000 in
theorem bounds_3(lo hi:Int)(w:World)(hl:0≤lo∧lo≤1073741824)(hh: -1≤hi∧hi≤1073741824):
  Calls Tryz.prog 88 #[.agg #[.int .i64 3,.int .i64 lo,.int .i64 hi]] w (OnePost (optL 3 lo hi) w):=by
 have HT:=Lib.hid (tight_3 lo hi hl hh)
 go_enter Tryz.func88,Tryz.ntmps88
 go_wp2_with fail
 refine(freeMatrix_grid 4 (by omega) _).mono ?_
 rintro e w1 ⟨ao1,cap1,gs,rfl,hb1,hG1⟩
 have k0:=hb1.cell (p:=⟨w.heap.size,0,none⟩) (by simp)
 have k1:=hb1.cell (p:=⟨w.heap.size,1,none⟩) (by simp)
 have k2:=hb1.cell (p:=⟨w.heap.size,2,none⟩) (by simp)
 simp at k0 k1 k2
 have hs1:=hb1.size
 have hbw:Below w.heap.size w w1:=(Joins.below_alloc1 w _).trans (hb1.mono (by simp))
 simp only[World.size_alloc]at hs1 hG1
 have G1:=Lib.hid hG1
 clear hb1 hG1
 go_wp2_with fail
 refine(aheadS 0 1 0 hs1 k1 k2 hbw G1 (by omega) (by omega) (by omega)).mono ?_
 clear k1 k2 hbw G1
 rintro e w2 ⟨rfl,hs2,k1,k2,hbw,G2⟩
 go_wp2_with fail
 refine(aheadS 2 3 0 hs2 k1 k2 hbw G2 (by omega) (by omega) (by omega)).mono ?_
 clear k1 k2 hbw G2
 rintro e w3 ⟨rfl,hs3,k1,k2,hbw,G3⟩
 go_wp2_with fail
 refine(aheadS 1 2 0 hs3 k1 k2 hbw G3 (by omega) (by omega) (by omega)).mono ?_
 clear k1 k2 hbw G3
 rintro e w4 ⟨rfl,hs4,k1,k2,hbw,G4⟩
 go_wp2_with fail
 refine(aheadS 2 1 0 hs4 k1 k2 hbw G4 (by omega) (by omega) (by omega)).mono ?_
 clear k1 k2 hbw G4
 rintro e w5 ⟨rfl,hs5,k1,k2,hbw,G5⟩
 go_wp2_with fail
 refine(aheadS 0 2 1 hs5 k1 k2 hbw G5 (by omega) (by omega) (by omega)).mono ?_
 clear k1 k2 hbw G5
 rintro e w6 ⟨rfl,hs6,k1,k2,hbw,G6⟩
 go_wp2_with fail
 refine(aheadS 1 3 1 hs6 k1 k2 hbw G6 (by omega) (by omega) (by omega)).mono ?_
 clear k1 k2 hbw G6
 rintro e w7 ⟨rfl,hs7,k1,k2,hbw,G7⟩
 obtain⟨gp,hgp⟩: ∃ gp,Hid (gp=(lessG (lessG (lessG (lessG (lessG (lessG freeG 0 1 0) 2 3 0) 1 2 0) 2 1 0) 0 2 1) 1 3 1)):=⟨_,rfl⟩
 rw[←hgp.out]at G7 HT
 go_wp2_with fail
 refine(aheadS 1 2 lo hs7 k1 k2 hbw G7 (by omega) (by omega) (by omega)).mono ?_
 clear k1 k2 hbw
 rintro e wf ⟨rfl,hsf,k1,k2,hbw,GF⟩
 have hGf:=GF.out
 clear GF G7 hgp
 have hxy:Hid (1<4∧2<4):=⟨by omega,by omega⟩
 obtain⟨gf,hgf⟩: ∃ gf,Hid (gf=lessG gp 1 2 lo):=⟨_,rfl⟩
 rw[←hgf.out]at hGf
 have GF:=Lib.hid hGf
 have hmx:=hGf.max
 unfold maxLen at hmx
 obtain⟨hh1,hh2⟩:=hh
 obtain⟨Ai,rci,hAlt,hglt,hF,hne,h1,h2,hix,hcell,hent⟩:=hGf.at hxy.out.2
 obtain⟨e1,e2,e3⟩:=hent 1 hxy.out.1
 replace hix: ∀ wx,(Instr.indexAt 78 (.slice ao1 4 cap1) (.int .i64 2)).run Tryz.prog wx= .ok (.pointer (some ⟨Ai,2,none⟩)) wx:=hix
 replace e3: ∀ wx,(Instr.indexAt 26 (.slice (some ⟨gs 2,0,none⟩) 4 rci) (.int .i64 1)).run Tryz.prog wx= .ok (.pointer (some ⟨gs 2,1,none⟩)) wx:=e3
 clear hent hGf
 by_cases h0:0≤hi
 ·by_cases hst:hi<gf 2 1
  ·go_wp2_with fail
   go_quiet (fail)
   have hbx:Below w.heap.size w (wf.drewN nq):=hbw.trans (Joins.below_draws _ _ _)
   have GX:Hid (Grid (from_ (w.heap.size+1)) (wf.drewN nq) ao1 4 cap1 gs gf):=GF.out.below (Joins.below_draws _ _ _)
   have k3:(wf.drewN nq).cell? ⟨w.heap.size,2,none⟩=some (.int .i64 hi):=by simpa using k2
   clear hix hcell e1 e2 e3 GF hbw hAlt hglt hF hne h1 h2 k1 k2
   have hsx:w.heap.size+1≤(wf.drewN nq).heap.size:=by simp;omega
   generalize wf.drewN nq=wx at *
   obtain⟨Ai,rci,hAlt,hglt,hF,hne,h1,h2,hix,hcell,hent⟩:=GX.out.at hxy.out.2
   obtain⟨e1,e2,e3⟩:=hent 1 hxy.out.1
   replace hix: ∀ wx,(Instr.indexAt 78 (.slice ao1 4 cap1) (.int .i64 2)).run Tryz.prog wx= .ok (.pointer (some ⟨Ai,2,none⟩)) wx:=hix
   replace e3: ∀ wx,(Instr.indexAt 26 (.slice (some ⟨gs 2,0,none⟩) 4 rci) (.int .i64 1)).run Tryz.prog wx= .ok (.pointer (some ⟨gs 2,1,none⟩)) wx:=e3
   have GS:Hid (Grid (from_ (w.heap.size+1)) (wx.setCell ⟨gs 2,1,none⟩ (.int .i64 hi)).drew ao1 4 cap1 gs (farG gp 1 2 lo hi)):=by
    show Grid _ _ _ _ _ _ _
    have:=(GX.out.store hxy.out.2 hxy.out.1 hi).same (G:=from_ (w.heap.size+1)) Same.drew
    unfold farG
    rw[if_pos h0,←hgf.out,Int.min_eq_right (by omega)]
    exact this
   have hbS:Below w.heap.size w (wx.setCell ⟨gs 2,1,none⟩ (.int .i64 hi)).drew:=(hbx.setCell (p:=⟨gs 2,1,none⟩) (Nat.le_of_succ_le hF) _).drew
   have hsS:w.heap.size+1≤(wx.setCell ⟨gs 2,1,none⟩ (.int .i64 hi)).drew.heap.size:=by simp;omega
   clear hent hbx
   go_wp2_with fail
   go_still_tail 8,(by kernel_rfl)
   change wpList _ _ _ _ _ wx.drew
   go_wp2_with fail
   have hend: ∀ wz,Hid (wz=(wx.setCell ⟨gs 2,1,none⟩ (.int .i64 hi)).drew)→Calls Tryz.prog 61 #[.slice ao1 4 cap1] wz (OneEx 3 lo hi w):=fun wz hz=>by
    have h:=hz.out
    subst h
    exact bounds_fin hbS hsS GS.out HT.out
   refine(hend _ rfl).mono ?_
   rintro e wz ⟨v,c,rfl,hP⟩
   go_wp2
   go_ret2
   exact hP.out
  ·go_wp2_with fail
   go_quiet (fail)
   have hbx:Below w.heap.size w (wf.drewN nq):=hbw.trans (Joins.below_draws _ _ _)
   have GS:Hid (Grid (from_ (w.heap.size+1)) (wf.drewN nq) ao1 4 cap1 gs (farG gp 1 2 lo hi)):=by
    show Grid _ _ _ _ _ _ _
    refine(GF.out.below (Joins.below_draws _ _ _)).congr fun a b _ _=>?_
    unfold farG setB
    rw[if_pos h0,←hgf.out,Int.min_eq_left (by omega)]
    split
    ·rename_i e;rw[e.1,e.2]
    ·rfl
   have hsx:w.heap.size+1≤(wf.drewN nq).heap.size:=by simp;omega
   clear hix hcell e1 e2 e3 GF hbw hAlt hglt hF hne h1 h2 k1 k2
   generalize wf.drewN nq=wx at *
   go_wp2_with fail
   refine(bounds_fin hbx hsx GS.out HT.out).mono ?_
   rintro e wz ⟨v,c,rfl,hP⟩
   go_wp2
   go_ret2
   exact hP.out
 ·have hm1:hi= -1:=by omega
  subst hm1
  go_wp2_with fail
  go_quiet (fail)
  have hbx:Below w.heap.size w (wf.drewN nq):=hbw.trans (Joins.below_draws _ _ _)
  have GS:Hid (Grid (from_ (w.heap.size+1)) (wf.drewN nq) ao1 4 cap1 gs (farG gp 1 2 lo (-1))):=by
   show Grid _ _ _ _ _ _ _
   unfold farG
   rw[if_neg (by decide),←hgf.out]
   exact GF.out.below (Joins.below_draws _ _ _)
  have hsx:w.heap.size+1≤(wf.drewN nq).heap.size:=by simp;omega
  clear hix hcell e1 e2 e3 GF hbw hAlt hglt hF hne h1 h2 k1 k2
  generalize wf.drewN nq=wx at *
  go_wp2_with fail
  refine(bounds_fin hbx hsx GS.out HT.out).mono ?_
  rintro e wz ⟨v,c,rfl,hP⟩
  go_wp2
  go_ret2
  exact hP.out
theorem mid_4(lo hi:Int):midG 4 lo hi=farG (lessG (lessG (lessG (lessG (lessG (lessG freeG 0 1 0) 2 3 0) 1 2 0) 2 1 0) 0 2 1) 1 3 1) 1 2 lo hi:=by
 have hb:backR 4=true:=by decide
 have ho:oddR 4=3:=by unfold oddR;rw[hb];rfl
 unfold midG
 rw[ho]
 rfl
theorem tight_4(lo hi:Int)(hl:0≤lo∧lo≤1073741824)(hh: -1≤hi∧hi≤1073741824):
  (tight 4 5 (at2 (gridL 4 (farG (lessG (lessG (lessG (lessG (lessG (lessG freeG 2 3 0) 0 1 0) 3 0 0) 0 3 0) 2 0 1) 3 1 1) 3 0 lo hi)))=none∧optL 4 lo hi=none)∨(∃ d,tight 4 5 (at2 (gridL 4 (farG (lessG (lessG (lessG (lessG (lessG (lessG freeG 2 3 0) 0 1 0) 3 0 0) 0 3 0) 2 0 1) 3 1 1) 3 0 lo hi)))=some d∧optL 4 lo hi=some (gridL 4 d)):=by
 refine opt_tight hl hh sw (fun a _=>?_) ?_
 ·unfold sgR
  rw[show backR 4=true from by decide]
  rfl
 ·rw[mid_4]
  exact((((((turned_free.less (x:=0) (y:=1) (by decide) (by decide) 0).less (x:=2) (y:=3) (by decide) (by decide) 0).less (x:=1) (y:=2) (by decide) (by decide) 0).less (x:=2) (y:=1) (by decide) (by decide) 0).less (x:=0) (y:=2) (by decide) (by decide) 1).less (x:=1) (y:=3) (by decide) (by decide) 1).far (x:=1) (y:=2) (by decide) (by decide) lo hi
set_option maxHeartbeats 4000000 in
set_option maxRecDepth 100000 in
theorem bounds_4(lo hi:Int)(w:World)(hl:0≤lo∧lo≤1073741824)(hh: -1≤hi∧hi≤1073741824):
  Calls Tryz.prog 88 #[.agg #[.int .i64 4,.int .i64 lo,.int .i64 hi]] w (OnePost (optL 4 lo hi) w):=by
 have HT:=Lib.hid (tight_4 lo hi hl hh)
 go_enter Tryz.func88,Tryz.ntmps88
 go_wp2_with fail
 refine(freeMatrix_grid 4 (by omega) _).mono ?_
 rintro e w1 ⟨ao1,cap1,gs,rfl,hb1,hG1⟩
 have k0:=hb1.cell (p:=⟨w.heap.size,0,none⟩) (by simp)
 have k1:=hb1.cell (p:=⟨w.heap.size,1,none⟩) (by simp)
 have k2:=hb1.cell (p:=⟨w.heap.size,2,none⟩) (by simp)
 simp at k0 k1 k2
 have hs1:=hb1.size
 have hbw:Below w.heap.size w w1:=(Joins.below_alloc1 w _).trans (hb1.mono (by simp))
 simp only[World.size_alloc]at hs1 hG1
 have G1:=Lib.hid hG1
 clear hb1 hG1
 go_wp2_with fail
 refine(aheadS 2 3 0 hs1 k1 k2 hbw G1 (by omega) (by omega) (by omega)).mono ?_
 clear k1 k2 hbw G1
 rintro e w2 ⟨rfl,hs2,k1,k2,hbw,G2⟩
 go_wp2_with fail
 refine(aheadS 0 1 0 hs2 k1 k2 hbw G2 (by omega) (by omega) (by omega)).mono ?_
 clear k1 k2 hbw G2
 rintro e w3 ⟨rfl,hs3,k1,k2,hbw,G3⟩
 go_wp2_with fail
 refine(aheadS 3 0 0 hs3 k1 k2 hbw G3 (by omega) (by omega) (by omega)).mono ?_
 clear k1 k2 hbw G3
 rintro e w4 ⟨rfl,hs4,k1,k2,hbw,G4⟩
 go_wp2_with fail
 refine(aheadS 0 3 0 hs4 k1 k2 hbw G4 (by omega) (by omega) (by omega)).mono ?_
 clear k1 k2 hbw G4
 rintro e w5 ⟨rfl,hs5,k1,k2,hbw,G5⟩
 go_wp2_with fail
 refine(aheadS 2 0 1 hs5 k1 k2 hbw G5 (by omega) (by omega) (by omega)).mono ?_
 clear k1 k2 hbw G5
 rintro e w6 ⟨rfl,hs6,k1,k2,hbw,G6⟩
 go_wp2_with fail
 refine(aheadS 3 1 1 hs6 k1 k2 hbw G6 (by omega) (by omega) (by omega)).mono ?_
 clear k1 k2 hbw G6
 rintro e w7 ⟨rfl,hs7,k1,k2,hbw,G7⟩
 obtain⟨gp,hgp⟩: ∃ gp,Hid (gp=(lessG (lessG (lessG (lessG (lessG (lessG freeG 2 3 0) 0 1 0) 3 0 0) 0 3 0) 2 0 1) 3 1 1)):=⟨_,rfl⟩
 rw[←hgp.out]at G7 HT
 go_wp2_with fail
 refine(aheadS 3 0 lo hs7 k1 k2 hbw G7 (by omega) (by omega) (by omega)).mono ?_
 clear k1 k2 hbw
 rintro e wf ⟨rfl,hsf,k1,k2,hbw,GF⟩
 have hGf:=GF.out
 clear GF G7 hgp
 have hxy:Hid (3<4∧0<4):=⟨by omega,by omega⟩
 obtain⟨gf,hgf⟩: ∃ gf,Hid (gf=lessG gp 3 0 lo):=⟨_,rfl⟩
 rw[←hgf.out]at hGf
 have GF:=Lib.hid hGf
 have hmx:=hGf.max
 unfold maxLen at hmx
 obtain⟨hh1,hh2⟩:=hh
 obtain⟨Ai,rci,hAlt,hglt,hF,hne,h1,h2,hix,hcell,hent⟩:=hGf.at hxy.out.2
 obtain⟨e1,e2,e3⟩:=hent 3 hxy.out.1
 replace hix: ∀ wx,(Instr.indexAt 78 (.slice ao1 4 cap1) (.int .i64 0)).run Tryz.prog wx= .ok (.pointer (some ⟨Ai,0,none⟩)) wx:=hix
 replace e3: ∀ wx,(Instr.indexAt 26 (.slice (some ⟨gs 0,0,none⟩) 4 rci) (.int .i64 3)).run Tryz.prog wx= .ok (.pointer (some ⟨gs 0,3,none⟩)) wx:=e3
 clear hent hGf
 by_cases h0:0≤hi
 ·by_cases hst:hi<gf 0 3
  ·go_wp2_with fail
   go_quiet (fail)
   have hbx:Below w.heap.size w (wf.drewN nq):=hbw.trans (Joins.below_draws _ _ _)
   have GX:Hid (Grid (from_ (w.heap.size+1)) (wf.drewN nq) ao1 4 cap1 gs gf):=GF.out.below (Joins.below_draws _ _ _)
   have k3:(wf.drewN nq).cell? ⟨w.heap.size,2,none⟩=some (.int .i64 hi):=by simpa using k2
   clear hix hcell e1 e2 e3 GF hbw hAlt hglt hF hne h1 h2 k1 k2
   have hsx:w.heap.size+1≤(wf.drewN nq).heap.size:=by simp;omega
   generalize wf.drewN nq=wx at *
   obtain⟨Ai,rci,hAlt,hglt,hF,hne,h1,h2,hix,hcell,hent⟩:=GX.out.at hxy.out.2
   obtain⟨e1,e2,e3⟩:=hent 3 hxy.out.1
   replace hix: ∀ wx,(Instr.indexAt 78 (.slice ao1 4 cap1) (.int .i64 0)).run Tryz.prog wx= .ok (.pointer (some ⟨Ai,0,none⟩)) wx:=hix
   replace e3: ∀ wx,(Instr.indexAt 26 (.slice (some ⟨gs 0,0,none⟩) 4 rci) (.int .i64 3)).run Tryz.prog wx= .ok (.pointer (some ⟨gs 0,3,none⟩)) wx:=e3
   have GS:Hid (Grid (from_ (w.heap.size+1)) (wx.setCell ⟨gs 0,3,none⟩ (.int .i64 hi)).drew ao1 4 cap1 gs (farG gp 3 0 lo hi)):=by
    show Grid _ _ _ _ _ _ _
    have:=(GX.out.store hxy.out.2 hxy.out.1 hi).same (G:=from_ (w.heap.size+1)) Same.drew
    unfold farG
    rw[if_pos h0,←hgf.out,Int.min_eq_right (by omega)]
    exact this
   have hbS:Below w.heap.size w (wx.setCell ⟨gs 0,3,none⟩ (.int .i64 hi)).drew:=(hbx.setCell (p:=⟨gs 0,3,none⟩) (Nat.le_of_succ_le hF) _).drew
   have hsS:w.heap.size+1≤(wx.setCell ⟨gs 0,3,none⟩ (.int .i64 hi)).drew.heap.size:=by simp;omega
   clear hent hbx
   go_wp2_with fail
   go_still_tail 8,(by kernel_rfl)
   change wpList _ _ _ _ _ wx.drew
   go_wp2_with fail
   have hend: ∀ wz,Hid (wz=(wx.setCell ⟨gs 0,3,none⟩ (.int .i64 hi)).drew)→Calls Tryz.prog 61 #[.slice ao1 4 cap1] wz (OneEx 4 lo hi w):=fun wz hz=>by
    have h:=hz.out
    subst h
    exact bounds_fin hbS hsS GS.out HT.out
   refine(hend _ rfl).mono ?_
   rintro e wz ⟨v,c,rfl,hP⟩
   go_wp2
   go_ret2
   exact hP.out
  ·go_wp2_with fail
   go_quiet (fail)
   have hbx:Below w.heap.size w (wf.drewN nq):=hbw.trans (Joins.below_draws _ _ _)
   have GS:Hid (Grid (from_ (w.heap.size+1)) (wf.drewN nq) ao1 4 cap1 gs (farG gp 3 0 lo hi)):=by
    show Grid _ _ _ _ _ _ _
    refine(GF.out.below (Joins.below_draws _ _ _)).congr fun a b _ _=>?_
    unfold farG setB
    rw[if_pos h0,←hgf.out,Int.min_eq_left (by omega)]
    split
    ·rename_i e;rw[e.1,e.2]
    ·rfl
   have hsx:w.heap.size+1≤(wf.drewN nq).heap.size:=by simp;omega
   clear hix hcell e1 e2 e3 GF hbw hAlt hglt hF hne h1 h2 k1 k2
   generalize wf.drewN nq=wx at *
   go_wp2_with fail
   refine(bounds_fin hbx hsx GS.out HT.out).mono ?_
   rintro e wz ⟨v,c,rfl,hP⟩
   go_wp2
   go_ret2
   exact hP.out
 ·have hm1:hi= -1:=by omega
  subst hm1
  go_wp2_with fail
  go_quiet (fail)
  have hbx:Below w.heap.size w (wf.drewN nq):=hbw.trans (Joins.below_draws _ _ _)
  have GS:Hid (Grid (from_ (w.heap.size+1)) (wf.drewN nq) ao1 4 cap1 gs (farG gp 3 0 lo (-1))):=by
   show Grid _ _ _ _ _ _ _
   unfold farG
   rw[if_neg (by decide),←hgf.out]
   exact GF.out.below (Joins.below_draws _ _ _)
  have hsx:w.heap.size+1≤(wf.drewN nq).heap.size:=by simp;omega
  clear hix hcell e1 e2 e3 GF hbw hAlt hglt hF hne h1 h2 k1 k2
  generalize wf.drewN nq=wx at *
  go_wp2_with fail
  refine(bounds_fin hbx hsx GS.out HT.out).mono ?_
  rintro e wz ⟨v,c,rfl,hP⟩
  go_wp2
  go_ret2
  exact hP.out
theorem mid_5(lo hi:Int):midG 5 lo hi=farG (lessG (lessG (lessG (lessG (lessG freeG 0 1 0) 2 3 0) 0 2 1) 2 1 1) 1 3 1) 2 1 lo hi:=by
 have hb:backR 5=false:=by decide
 have ho:oddR 5=5:=by unfold oddR;rw[hb];rfl
 unfold midG
 rw[ho]
 rfl
theorem tight_5(lo hi:Int)(hl:0≤lo∧lo≤1073741824)(hh: -1≤hi∧hi≤1073741824):
  (tight 4 5 (at2 (gridL 4 (farG (lessG (lessG (lessG (lessG (lessG freeG 0 1 0) 2 3 0) 0 2 1) 2 1 1) 1 3 1) 2 1 lo hi)))=none∧optL 5 lo hi=none)∨(∃ d,tight 4 5 (at2 (gridL 4 (farG (lessG (lessG (lessG (lessG (lessG freeG 0 1 0) 2 3 0) 0 2 1) 2 1 1) 1 3 1) 2 1 lo hi)))=some d∧optL 5 lo hi=some (gridL 4 d)):=by
 refine opt_tight hl hh id (fun a _=>?_) ?_
 ·unfold sgR
  rw[show backR 5=false from by decide]
  rfl
 ·rw[mid_5]
  exact(((((straight_free.less (x:=0) (y:=1) (by decide) (by decide) 0).less (x:=2) (y:=3) (by decide) (by decide) 0).less (x:=0) (y:=2) (by decide) (by decide) 1).less (x:=2) (y:=1) (by decide) (by decide) 1).less (x:=1) (y:=3) (by decide) (by decide) 1).far (x:=2) (y:=1) (by decide) (by decide) lo hi
set_option maxHeartbeats 4000000 in
set_option maxRecDepth 100000 in
theorem bounds_5(lo hi:Int)(w:World)(hl:0≤lo∧lo≤1073741824)(hh: -1≤hi∧hi≤1073741824):
  Calls Tryz.prog 88 #[.agg #[.int .i64 5,.int .i64 lo,.int .i64 hi]] w (OnePost (optL 5 lo hi) w):=by
 have HT:=Lib.hid (tight_5 lo hi hl hh)
 go_enter Tryz.func88,Tryz.ntmps88
 go_wp2_with fail
 refine(freeMatrix_grid 4 (by omega) _).mono ?_
 rintro e w1 ⟨ao1,cap1,gs,rfl,hb1,hG1⟩
 have k0:=hb1.cell (p:=⟨w.heap.size,0,none⟩) (by simp)
 have k1:=hb1.cell (p:=⟨w.heap.size,1,none⟩) (by simp)
 have k2:=hb1.cell (p:=⟨w.heap.size,2,none⟩) (by simp)
 simp at k0 k1 k2
 have hs1:=hb1.size
 have hbw:Below w.heap.size w w1:=(Joins.below_alloc1 w _).trans (hb1.mono (by simp))
 simp only[World.size_alloc]at hs1 hG1
 have G1:=Lib.hid hG1
 clear hb1 hG1
 go_wp2_with fail
 refine(aheadS 0 1 0 hs1 k1 k2 hbw G1 (by omega) (by omega) (by omega)).mono ?_
 clear k1 k2 hbw G1
 rintro e w2 ⟨rfl,hs2,k1,k2,hbw,G2⟩
 go_wp2_with fail
 refine(aheadS 2 3 0 hs2 k1 k2 hbw G2 (by omega) (by omega) (by omega)).mono ?_
 clear k1 k2 hbw G2
 rintro e w3 ⟨rfl,hs3,k1,k2,hbw,G3⟩
 go_wp2_with fail
 refine(aheadS 0 2 1 hs3 k1 k2 hbw G3 (by omega) (by omega) (by omega)).mono ?_
 clear k1 k2 hbw G3
 rintro e w4 ⟨rfl,hs4,k1,k2,hbw,G4⟩
 go_wp2_with fail
 refine(aheadS 2 1 1 hs4 k1 k2 hbw G4 (by omega) (by omega) (by omega)).mono ?_
 clear k1 k2 hbw G4
 rintro e w5 ⟨rfl,hs5,k1,k2,hbw,G5⟩
 go_wp2_with fail
 refine(aheadS 1 3 1 hs5 k1 k2 hbw G5 (by omega) (by omega) (by omega)).mono ?_
 clear k1 k2 hbw G5
 rintro e w6 ⟨rfl,hs6,k1,k2,hbw,G6⟩
 obtain⟨gp,hgp⟩: ∃ gp,Hid (gp=(lessG (lessG (lessG (lessG (lessG freeG 0 1 0) 2 3 0) 0 2 1) 2 1 1) 1 3 1)):=⟨_,rfl⟩
 rw[←hgp.out]at G6 HT
 go_wp2_with fail
 refine(aheadS 2 1 lo hs6 k1 k2 hbw G6 (by omega) (by omega) (by omega)).mono ?_
 clear k1 k2 hbw
 rintro e wf ⟨rfl,hsf,k1,k2,hbw,GF⟩
 have hGf:=GF.out
 clear GF G6 hgp
 have hxy:Hid (2<4∧1<4):=⟨by omega,by omega⟩
 obtain⟨gf,hgf⟩: ∃ gf,Hid (gf=lessG gp 2 1 lo):=⟨_,rfl⟩
 rw[←hgf.out]at hGf
 have GF:=Lib.hid hGf
 have hmx:=hGf.max
 unfold maxLen at hmx
 obtain⟨hh1,hh2⟩:=hh
 obtain⟨Ai,rci,hAlt,hglt,hF,hne,h1,h2,hix,hcell,hent⟩:=hGf.at hxy.out.2
 obtain⟨e1,e2,e3⟩:=hent 2 hxy.out.1
 replace hix: ∀ wx,(Instr.indexAt 78 (.slice ao1 4 cap1) (.int .i64 1)).run Tryz.prog wx= .ok (.pointer (some ⟨Ai,1,none⟩)) wx:=hix
 replace e3: ∀ wx,(Instr.indexAt 26 (.slice (some ⟨gs 1,0,none⟩) 4 rci) (.int .i64 2)).run Tryz.prog wx= .ok (.pointer (some ⟨gs 1,2,none⟩)) wx:=e3
 clear hent hGf
 by_cases h0:0≤hi
 ·by_cases hst:hi<gf 1 2
  ·go_wp2_with fail
   go_quiet (fail)
   have hbx:Below w.heap.size w (wf.drewN nq):=hbw.trans (Joins.below_draws _ _ _)
   have GX:Hid (Grid (from_ (w.heap.size+1)) (wf.drewN nq) ao1 4 cap1 gs gf):=GF.out.below (Joins.below_draws _ _ _)
   have k3:(wf.drewN nq).cell? ⟨w.heap.size,2,none⟩=some (.int .i64 hi):=by simpa using k2
   clear hix hcell e1 e2 e3 GF hbw hAlt hglt hF hne h1 h2 k1 k2
   have hsx:w.heap.size+1≤(wf.drewN nq).heap.size:=by simp;omega
   generalize wf.drewN nq=wx at *
   obtain⟨Ai,rci,hAlt,hglt,hF,hne,h1,h2,hix,hcell,hent⟩:=GX.out.at hxy.out.2
   obtain⟨e1,e2,e3⟩:=hent 2 hxy.out.1
   replace hix: ∀ wx,(Instr.indexAt 78 (.slice ao1 4 cap1) (.int .i64 1)).run Tryz.prog wx= .ok (.pointer (some ⟨Ai,1,none⟩)) wx:=hix
   replace e3: ∀ wx,(Instr.indexAt 26 (.slice (some ⟨gs 1,0,none⟩) 4 rci) (.int .i64 2)).run Tryz.prog wx= .ok (.pointer (some ⟨gs 1,2,none⟩)) wx:=e3
   have GS:Hid (Grid (from_ (w.heap.size+1)) (wx.setCell ⟨gs 1,2,none⟩ (.int .i64 hi)).drew ao1 4 cap1 gs (farG gp 2 1 lo hi)):=by
    show Grid _ _ _ _ _ _ _
    have:=(GX.out.store hxy.out.2 hxy.out.1 hi).same (G:=from_ (w.heap.size+1)) Same.drew
    unfold farG
    rw[if_pos h0,←hgf.out,Int.min_eq_right (by omega)]
    exact this
   have hbS:Below w.heap.size w (wx.setCell ⟨gs 1,2,none⟩ (.int .i64 hi)).drew:=(hbx.setCell (p:=⟨gs 1,2,none⟩) (Nat.le_of_succ_le hF) _).drew
   have hsS:w.heap.size+1≤(wx.setCell ⟨gs 1,2,none⟩ (.int .i64 hi)).drew.heap.size:=by simp;omega
   clear hent hbx
   go_wp2_with fail
   go_still_tail 8,(by kernel_rfl)
   change wpList _ _ _ _ _ wx.drew
   go_wp2_with fail
   have hend: ∀ wz,Hid (wz=(wx.setCell ⟨gs 1,2,none⟩ (.int .i64 hi)).drew)→Calls Tryz.prog 61 #[.slice ao1 4 cap1] wz (OneEx 5 lo hi w):=fun wz hz=>by
    have h:=hz.out
    subst h
    exact bounds_fin hbS hsS GS.out HT.out
   refine(hend _ rfl).mono ?_
   rintro e wz ⟨v,c,rfl,hP⟩
   go_wp2
   go_ret2
   exact hP.out
  ·go_wp2_with fail
   go_quiet (fail)
   have hbx:Below w.heap.size w (wf.drewN nq):=hbw.trans (Joins.below_draws _ _ _)
   have GS:Hid (Grid (from_ (w.heap.size+1)) (wf.drewN nq) ao1 4 cap1 gs (farG gp 2 1 lo hi)):=by
    show Grid _ _ _ _ _ _ _
    refine(GF.out.below (Joins.below_draws _ _ _)).congr fun a b _ _=>?_
    unfold farG setB
    rw[if_pos h0,←hgf.out,Int.min_eq_left (by omega)]
    split
    ·rename_i e;rw[e.1,e.2]
    ·rfl
   have hsx:w.heap.size+1≤(wf.drewN nq).heap.size:=by simp;omega
   clear hix hcell e1 e2 e3 GF hbw hAlt hglt hF hne h1 h2 k1 k2
   generalize wf.drewN nq=wx at *
   go_wp2_with fail
   refine(bounds_fin hbx hsx GS.out HT.out).mono ?_
   rintro e wz ⟨v,c,rfl,hP⟩
   go_wp2
   go_ret2
   exact hP.out
 ·have hm1:hi= -1:=by omega
  subst hm1
  go_wp2_with fail
  go_quiet (fail)
  have hbx:Below w.heap.size w (wf.drewN nq):=hbw.trans (Joins.below_draws _ _ _)
  have GS:Hid (Grid (from_ (w.heap.size+1)) (wf.drewN nq) ao1 4 cap1 gs (farG gp 2 1 lo (-1))):=by
   show Grid _ _ _ _ _ _ _
   unfold farG
   rw[if_neg (by decide),←hgf.out]
   exact GF.out.below (Joins.below_draws _ _ _)
  have hsx:w.heap.size+1≤(wf.drewN nq).heap.size:=by simp;omega
  clear hix hcell e1 e2 e3 GF hbw hAlt hglt hF hne h1 h2 k1 k2
  generalize wf.drewN nq=wx at *
  go_wp2_with fail
  refine(bounds_fin hbx hsx GS.out HT.out).mono ?_
  rintro e wz ⟨v,c,rfl,hP⟩
  go_wp2
  go_ret2
  exact hP.out
theorem mid_6(lo hi:Int):midG 6 lo hi=farG (lessG (lessG (lessG (lessG (lessG freeG 0 1 0) 2 3 0) 0 2 1) 2 1 1) 1 3 1) 2 1 lo hi:=by
 have hb:backR 6=true:=by decide
 have ho:oddR 6=5:=by unfold oddR;rw[hb];rfl
 unfold midG
 rw[ho]
 rfl
theorem tight_6(lo hi:Int)(hl:0≤lo∧lo≤1073741824)(hh: -1≤hi∧hi≤1073741824):
  (tight 4 5 (at2 (gridL 4 (farG (lessG (lessG (lessG (lessG (lessG freeG 2 3 0) 0 1 0) 2 0 1) 0 3 1) 3 1 1) 0 3 lo hi)))=none∧optL 6 lo hi=none)∨(∃ d,tight 4 5 (at2 (gridL 4 (farG (lessG (lessG (lessG (lessG (lessG freeG 2 3 0) 0 1 0) 2 0 1) 0 3 1) 3 1 1) 0 3 lo hi)))=some d∧optL 6 lo hi=some (gridL 4 d)):=by
 refine opt_tight hl hh sw (fun a _=>?_) ?_
 ·unfold sgR
  rw[show backR 6=true from by decide]
  rfl
 ·rw[mid_6]
  exact(((((turned_free.less (x:=0) (y:=1) (by decide) (by decide) 0).less (x:=2) (y:=3) (by decide) (by decide) 0).less (x:=0) (y:=2) (by decide) (by decide) 1).less (x:=2) (y:=1) (by decide) (by decide) 1).less (x:=1) (y:=3) (by decide) (by decide) 1).far (x:=2) (y:=1) (by decide) (by decide) lo hi
set_option maxHeartbeats 4000000 in
set_option maxRecDepth 100000 in
theorem bounds_6(lo hi:Int)(w:World)(hl:0≤lo∧lo≤1073741824)(hh: -1≤hi∧hi≤1073741824):
  Calls Tryz.prog 88 #[.agg #[.int .i64 6,.int .i64 lo,.int .i64 hi]] w (OnePost (optL 6 lo hi) w):=by
 have HT:=Lib.hid (tight_6 lo hi hl hh)
 go_enter Tryz.func88,Tryz.ntmps88
 go_wp2_with fail
 refine(freeMatrix_grid 4 (by omega) _).mono ?_
 rintro e w1 ⟨ao1,cap1,gs,rfl,hb1,hG1⟩
 have k0:=hb1.cell (p:=⟨w.heap.size,0,none⟩) (by simp)
 have k1:=hb1.cell (p:=⟨w.heap.size,1,none⟩) (by simp)
 have k2:=hb1.cell (p:=⟨w.heap.size,2,none⟩) (by simp)
 simp at k0 k1 k2
 have hs1:=hb1.size
 have hbw:Below w.heap.size w w1:=(Joins.below_alloc1 w _).trans (hb1.mono (by simp))
 simp only[World.size_alloc]at hs1 hG1
 have G1:=Lib.hid hG1
 clear hb1 hG1
 go_wp2_with fail
 refine(aheadS 2 3 0 hs1 k1 k2 hbw G1 (by omega) (by omega) (by omega)).mono ?_
 clear k1 k2 hbw G1
 rintro e w2 ⟨rfl,hs2,k1,k2,hbw,G2⟩
 go_wp2_with fail
 refine(aheadS 0 1 0 hs2 k1 k2 hbw G2 (by omega) (by omega) (by omega)).mono ?_
 clear k1 k2 hbw G2
 rintro e w3 ⟨rfl,hs3,k1,k2,hbw,G3⟩
 go_wp2_with fail
 refine(aheadS 2 0 1 hs3 k1 k2 hbw G3 (by omega) (by omega) (by omega)).mono ?_
 clear k1 k2 hbw G3
 rintro e w4 ⟨rfl,hs4,k1,k2,hbw,G4⟩
 go_wp2_with fail
 refine(aheadS 0 3 1 hs4 k1 k2 hbw G4 (by omega) (by omega) (by omega)).mono ?_
 clear k1 k2 hbw G4
 rintro e w5 ⟨rfl,hs5,k1,k2,hbw,G5⟩
 go_wp2_with fail
 refine(aheadS 3 1 1 hs5 k1 k2 hbw G5 (by omega) (by omega) (by omega)).mono ?_
 clear k1 k2 hbw G5
 rintro e w6 ⟨rfl,hs6,k1,k2,hbw,G6⟩
 obtain⟨gp,hgp⟩: ∃ gp,Hid (gp=(lessG (lessG (lessG (lessG (lessG freeG 2 3 0) 0 1 0) 2 0 1) 0 3 1) 3 1 1)):=⟨_,rfl⟩
 rw[←hgp.out]at G6 HT
 go_wp2_with fail
 refine(aheadS 0 3 lo hs6 k1 k2 hbw G6 (by omega) (by omega) (by omega)).mono ?_
 clear k1 k2 hbw
 rintro e wf ⟨rfl,hsf,k1,k2,hbw,GF⟩
 have hGf:=GF.out
 clear GF G6 hgp
 have hxy:Hid (0<4∧3<4):=⟨by omega,by omega⟩
 obtain⟨gf,hgf⟩: ∃ gf,Hid (gf=lessG gp 0 3 lo):=⟨_,rfl⟩
 rw[←hgf.out]at hGf
 have GF:=Lib.hid hGf
 have hmx:=hGf.max
 unfold maxLen at hmx
 obtain⟨hh1,hh2⟩:=hh
 obtain⟨Ai,rci,hAlt,hglt,hF,hne,h1,h2,hix,hcell,hent⟩:=hGf.at hxy.out.2
 obtain⟨e1,e2,e3⟩:=hent 0 hxy.out.1
 replace hix: ∀ wx,(Instr.indexAt 78 (.slice ao1 4 cap1) (.int .i64 3)).run Tryz.prog wx= .ok (.pointer (some ⟨Ai,3,none⟩)) wx:=hix
 replace e3: ∀ wx,(Instr.indexAt 26 (.slice (some ⟨gs 3,0,none⟩) 4 rci) (.int .i64 0)).run Tryz.prog wx= .ok (.pointer (some ⟨gs 3,0,none⟩)) wx:=e3
 clear hent hGf
 by_cases h0:0≤hi
 ·by_cases hst:hi<gf 3 0
  ·go_wp2_with fail
   go_quiet (fail)
   have hbx:Below w.heap.size w (wf.drewN nq):=hbw.trans (Joins.below_draws _ _ _)
   have GX:Hid (Grid (from_ (w.heap.size+1)) (wf.drewN nq) ao1 4 cap1 gs gf):=GF.out.below (Joins.below_draws _ _ _)
   have k3:(wf.drewN nq).cell? ⟨w.heap.size,2,none⟩=some (.int .i64 hi):=by simpa using k2
   clear hix hcell e1 e2 e3 GF hbw hAlt hglt hF hne h1 h2 k1 k2
   have hsx:w.heap.size+1≤(wf.drewN nq).heap.size:=by simp;omega
   generalize wf.drewN nq=wx at *
   obtain⟨Ai,rci,hAlt,hglt,hF,hne,h1,h2,hix,hcell,hent⟩:=GX.out.at hxy.out.2
   obtain⟨e1,e2,e3⟩:=hent 0 hxy.out.1
   replace hix: ∀ wx,(Instr.indexAt 78 (.slice ao1 4 cap1) (.int .i64 3)).run Tryz.prog wx= .ok (.pointer (some ⟨Ai,3,none⟩)) wx:=hix
   replace e3: ∀ wx,(Instr.indexAt 26 (.slice (some ⟨gs 3,0,none⟩) 4 rci) (.int .i64 0)).run Tryz.prog wx= .ok (.pointer (some ⟨gs 3,0,none⟩)) wx:=e3
   have GS:Hid (Grid (from_ (w.heap.size+1)) (wx.setCell ⟨gs 3,0,none⟩ (.int .i64 hi)).drew ao1 4 cap1 gs (farG gp 0 3 lo hi)):=by
    show Grid _ _ _ _ _ _ _
    have:=(GX.out.store hxy.out.2 hxy.out.1 hi).same (G:=from_ (w.heap.size+1)) Same.drew
    unfold farG
    rw[if_pos h0,←hgf.out,Int.min_eq_right (by omega)]
    exact this
   have hbS:Below w.heap.size w (wx.setCell ⟨gs 3,0,none⟩ (.int .i64 hi)).drew:=(hbx.setCell (p:=⟨gs 3,0,none⟩) (Nat.le_of_succ_le hF) _).drew
   have hsS:w.heap.size+1≤(wx.setCell ⟨gs 3,0,none⟩ (.int .i64 hi)).drew.heap.size:=by simp;omega
   clear hent hbx
   go_wp2_with fail
   go_still_tail 8,(by kernel_rfl)
   change wpList _ _ _ _ _ wx.drew
   go_wp2_with fail
   have hend: ∀ wz,Hid (wz=(wx.setCell ⟨gs 3,0,none⟩ (.int .i64 hi)).drew)→Calls Tryz.prog 61 #[.slice ao1 4 cap1] wz (OneEx 6 lo hi w):=fun wz hz=>by
    have h:=hz.out
    subst h
    exact bounds_fin hbS hsS GS.out HT.out
   refine(hend _ rfl).mono ?_
   rintro e wz ⟨v,c,rfl,hP⟩
   go_wp2
   go_ret2
   exact hP.out
  ·go_wp2_with fail
   go_quiet (fail)
   have hbx:Below w.heap.size w (wf.drewN nq):=hbw.trans (Joins.below_draws _ _ _)
   have GS:Hid (Grid (from_ (w.heap.size+1)) (wf.drewN nq) ao1 4 cap1 gs (farG gp 0 3 lo hi)):=by
    show Grid _ _ _ _ _ _ _
    refine(GF.out.below (Joins.below_draws _ _ _)).congr fun a b _ _=>?_
    unfold farG setB
    rw[if_pos h0,←hgf.out,Int.min_eq_left (by omega)]
    split
    ·rename_i e;rw[e.1,e.2]
    ·rfl
   have hsx:w.heap.size+1≤(wf.drewN nq).heap.size:=by simp;omega
   clear hix hcell e1 e2 e3 GF hbw hAlt hglt hF hne h1 h2 k1 k2
   generalize wf.drewN nq=wx at *
   go_wp2_with fail
   refine(bounds_fin hbx hsx GS.out HT.out).mono ?_
   rintro e wz ⟨v,c,rfl,hP⟩
   go_wp2
   go_ret2
   exact hP.out
 ·have hm1:hi= -1:=by omega
  subst hm1
  go_wp2_with fail
  go_quiet (fail)
  have hbx:Below w.heap.size w (wf.drewN nq):=hbw.trans (Joins.below_draws _ _ _)
  have GS:Hid (Grid (from_ (w.heap.size+1)) (wf.drewN nq) ao1 4 cap1 gs (farG gp 0 3 lo (-1))):=by
   show Grid _ _ _ _ _ _ _
   unfold farG
   rw[if_neg (by decide),←hgf.out]
   exact GF.out.below (Joins.below_draws _ _ _)
  have hsx:w.heap.size+1≤(wf.drewN nq).heap.size:=by simp;omega
  clear hix hcell e1 e2 e3 GF hbw hAlt hglt hF hne h1 h2 k1 k2
  generalize wf.drewN nq=wx at *
  go_wp2_with fail
  refine(bounds_fin hbx hsx GS.out HT.out).mono ?_
  rintro e wz ⟨v,c,rfl,hP⟩
  go_wp2
  go_ret2
  exact hP.out
theorem mid_7(lo hi:Int):midG 7 lo hi=farG (lessG (lessG (lessG (lessG (lessG freeG 0 1 0) 2 3 0) 0 2 0) 2 0 0) 1 3 1) 1 3 lo hi:=by
 have hb:backR 7=false:=by decide
 have ho:oddR 7=7:=by unfold oddR;rw[hb];rfl
 unfold midG
 rw[ho]
 rfl
theorem tight_7(lo hi:Int)(hl:0≤lo∧lo≤1073741824)(hh: -1≤hi∧hi≤1073741824):
  (tight 4 5 (at2 (gridL 4 (farG (lessG (lessG (lessG (lessG (lessG freeG 0 1 0) 2 3 0) 0 2 0) 2 0 0) 1 3 1) 1 3 lo hi)))=none∧optL 7 lo hi=none)∨(∃ d,tight 4 5 (at2 (gridL 4 (farG (lessG (lessG (lessG (lessG (lessG freeG 0 1 0) 2 3 0) 0 2 0) 2 0 0) 1 3 1) 1 3 lo hi)))=some d∧optL 7 lo hi=some (gridL 4 d)):=by
 refine opt_tight hl hh id (fun a _=>?_) ?_
 ·unfold sgR
  rw[show backR 7=false from by decide]
  rfl
 ·rw[mid_7]
  exact(((((straight_free.less (x:=0) (y:=1) (by decide) (by decide) 0).less (x:=2) (y:=3) (by decide) (by decide) 0).less (x:=0) (y:=2) (by decide) (by decide) 0).less (x:=2) (y:=0) (by decide) (by decide) 0).less (x:=1) (y:=3) (by decide) (by decide) 1).far (x:=1) (y:=3) (by decide) (by decide) lo hi
set_option maxHeartbeats 4000000 in
set_option maxRecDepth 100000 in
theorem bounds_7(lo hi:Int)(w:World)(hl:0≤lo∧lo≤1073741824)(hh: -1≤hi∧hi≤1073741824):
  Calls Tryz.prog 88 #[.agg #[.int .i64 7,.int .i64 lo,.int .i64 hi]] w (OnePost (optL 7 lo hi) w):=by
 have HT:=Lib.hid (tight_7 lo hi hl hh)
 go_enter Tryz.func88,Tryz.ntmps88
 go_wp2_with fail
 refine(freeMatrix_grid 4 (by omega) _).mono ?_
 rintro e w1 ⟨ao1,cap1,gs,rfl,hb1,hG1⟩
 have k0:=hb1.cell (p:=⟨w.heap.size,0,none⟩) (by simp)
 have k1:=hb1.cell (p:=⟨w.heap.size,1,none⟩) (by simp)
 have k2:=hb1.cell (p:=⟨w.heap.size,2,none⟩) (by simp)
 simp at k0 k1 k2
 have hs1:=hb1.size
 have hbw:Below w.heap.size w w1:=(Joins.below_alloc1 w _).trans (hb1.mono (by simp))
 simp only[World.size_alloc]at hs1 hG1
 have G1:=Lib.hid hG1
 clear hb1 hG1
 go_wp2_with fail
 refine(aheadS 0 1 0 hs1 k1 k2 hbw G1 (by omega) (by omega) (by omega)).mono ?_
 clear k1 k2 hbw G1
 rintro e w2 ⟨rfl,hs2,k1,k2,hbw,G2⟩
 go_wp2_with fail
 refine(aheadS 2 3 0 hs2 k1 k2 hbw G2 (by omega) (by omega) (by omega)).mono ?_
 clear k1 k2 hbw G2
 rintro e w3 ⟨rfl,hs3,k1,k2,hbw,G3⟩
 go_wp2_with fail
 refine(aheadS 0 2 0 hs3 k1 k2 hbw G3 (by omega) (by omega) (by omega)).mono ?_
 clear k1 k2 hbw G3
 rintro e w4 ⟨rfl,hs4,k1,k2,hbw,G4⟩
 go_wp2_with fail
 refine(aheadS 2 0 0 hs4 k1 k2 hbw G4 (by omega) (by omega) (by omega)).mono ?_
 clear k1 k2 hbw G4
 rintro e w5 ⟨rfl,hs5,k1,k2,hbw,G5⟩
 go_wp2_with fail
 refine(aheadS 1 3 1 hs5 k1 k2 hbw G5 (by omega) (by omega) (by omega)).mono ?_
 clear k1 k2 hbw G5
 rintro e w6 ⟨rfl,hs6,k1,k2,hbw,G6⟩
 obtain⟨gp,hgp⟩: ∃ gp,Hid (gp=(lessG (lessG (lessG (lessG (lessG freeG 0 1 0) 2 3 0) 0 2 0) 2 0 0) 1 3 1)):=⟨_,rfl⟩
 rw[←hgp.out]at G6 HT
 go_wp2_with fail
 refine(aheadS 1 3 lo hs6 k1 k2 hbw G6 (by omega) (by omega) (by omega)).mono ?_
 clear k1 k2 hbw
 rintro e wf ⟨rfl,hsf,k1,k2,hbw,GF⟩
 have hGf:=GF.out
 clear GF G6 hgp
 have hxy:Hid (1<4∧3<4):=⟨by omega,by omega⟩
 obtain⟨gf,hgf⟩: ∃ gf,Hid (gf=lessG gp 1 3 lo):=⟨_,rfl⟩
 rw[←hgf.out]at hGf
 have GF:=Lib.hid hGf
 have hmx:=hGf.max
 unfold maxLen at hmx
 obtain⟨hh1,hh2⟩:=hh
 obtain⟨Ai,rci,hAlt,hglt,hF,hne,h1,h2,hix,hcell,hent⟩:=hGf.at hxy.out.2
 obtain⟨e1,e2,e3⟩:=hent 1 hxy.out.1
 replace hix: ∀ wx,(Instr.indexAt 78 (.slice ao1 4 cap1) (.int .i64 3)).run Tryz.prog wx= .ok (.pointer (some ⟨Ai,3,none⟩)) wx:=hix
 replace e3: ∀ wx,(Instr.indexAt 26 (.slice (some ⟨gs 3,0,none⟩) 4 rci) (.int .i64 1)).run Tryz.prog wx= .ok (.pointer (some ⟨gs 3,1,none⟩)) wx:=e3
 clear hent hGf
 by_cases h0:0≤hi
 ·by_cases hst:hi<gf 3 1
  ·go_wp2_with fail
   go_quiet (fail)
   have hbx:Below w.heap.size w (wf.drewN nq):=hbw.trans (Joins.below_draws _ _ _)
   have GX:Hid (Grid (from_ (w.heap.size+1)) (wf.drewN nq) ao1 4 cap1 gs gf):=GF.out.below (Joins.below_draws _ _ _)
   have k3:(wf.drewN nq).cell? ⟨w.heap.size,2,none⟩=some (.int .i64 hi):=by simpa using k2
   clear hix hcell e1 e2 e3 GF hbw hAlt hglt hF hne h1 h2 k1 k2
   have hsx:w.heap.size+1≤(wf.drewN nq).heap.size:=by simp;omega
   generalize wf.drewN nq=wx at *
   obtain⟨Ai,rci,hAlt,hglt,hF,hne,h1,h2,hix,hcell,hent⟩:=GX.out.at hxy.out.2
   obtain⟨e1,e2,e3⟩:=hent 1 hxy.out.1
   replace hix: ∀ wx,(Instr.indexAt 78 (.slice ao1 4 cap1) (.int .i64 3)).run Tryz.prog wx= .ok (.pointer (some ⟨Ai,3,none⟩)) wx:=hix
   replace e3: ∀ wx,(Instr.indexAt 26 (.slice (some ⟨gs 3,0,none⟩) 4 rci) (.int .i64 1)).run Tryz.prog wx= .ok (.pointer (some ⟨gs 3,1,none⟩)) wx:=e3
   have GS:Hid (Grid (from_ (w.heap.size+1)) (wx.setCell ⟨gs 3,1,none⟩ (.int .i64 hi)).drew ao1 4 cap1 gs (farG gp 1 3 lo hi)):=by
    show Grid _ _ _ _ _ _ _
    have:=(GX.out.store hxy.out.2 hxy.out.1 hi).same (G:=from_ (w.heap.size+1)) Same.drew
    unfold farG
    rw[if_pos h0,←hgf.out,Int.min_eq_right (by omega)]
    exact this
   have hbS:Below w.heap.size w (wx.setCell ⟨gs 3,1,none⟩ (.int .i64 hi)).drew:=(hbx.setCell (p:=⟨gs 3,1,none⟩) (Nat.le_of_succ_le hF) _).drew
   have hsS:w.heap.size+1≤(wx.setCell ⟨gs 3,1,none⟩ (.int .i64 hi)).drew.heap.size:=by simp;omega
   clear hent hbx
   go_wp2_with fail
   go_still_tail 8,(by kernel_rfl)
   change wpList _ _ _ _ _ wx.drew
   go_wp2_with fail
   have hend: ∀ wz,Hid (wz=(wx.setCell ⟨gs 3,1,none⟩ (.int .i64 hi)).drew)→Calls Tryz.prog 61 #[.slice ao1 4 cap1] wz (OneEx 7 lo hi w):=fun wz hz=>by
    have h:=hz.out
    subst h
    exact bounds_fin hbS hsS GS.out HT.out
   refine(hend _ rfl).mono ?_
   rintro e wz ⟨v,c,rfl,hP⟩
   go_wp2
   go_ret2
   exact hP.out
  ·go_wp2_with fail
   go_quiet (fail)
   have hbx:Below w.heap.size w (wf.drewN nq):=hbw.trans (Joins.below_draws _ _ _)
   have GS:Hid (Grid (from_ (w.heap.size+1)) (wf.drewN nq) ao1 4 cap1 gs (farG gp 1 3 lo hi)):=by
    show Grid _ _ _ _ _ _ _
    refine(GF.out.below (Joins.below_draws _ _ _)).congr fun a b _ _=>?_
    unfold farG setB
    rw[if_pos h0,←hgf.out,Int.min_eq_left (by omega)]
    split
    ·rename_i e;rw[e.1,e.2]
    ·rfl
   have hsx:w.heap.size+1≤(wf.drewN nq).heap.size:=by simp;omega
   clear hix hcell e1 e2 e3 GF hbw hAlt hglt hF hne h1 h2 k1 k2
   generalize wf.drewN nq=wx at *
   go_wp2_with fail
   refine(bounds_fin hbx hsx GS.out HT.out).mono ?_
   rintro e wz ⟨v,c,rfl,hP⟩
   go_wp2
   go_ret2
   exact hP.out
 ·have hm1:hi= -1:=by omega
  subst hm1
  go_wp2_with fail
  go_quiet (fail)
  have hbx:Below w.heap.size w (wf.drewN nq):=hbw.trans (Joins.below_draws _ _ _)
  have GS:Hid (Grid (from_ (w.heap.size+1)) (wf.drewN nq) ao1 4 cap1 gs (farG gp 1 3 lo (-1))):=by
   show Grid _ _ _ _ _ _ _
   unfold farG
   rw[if_neg (by decide),←hgf.out]
   exact GF.out.below (Joins.below_draws _ _ _)
  have hsx:w.heap.size+1≤(wf.drewN nq).heap.size:=by simp;omega
  clear hix hcell e1 e2 e3 GF hbw hAlt hglt hF hne h1 h2 k1 k2
  generalize wf.drewN nq=wx at *
  go_wp2_with fail
  refine(bounds_fin hbx hsx GS.out HT.out).mono ?_
  rintro e wz ⟨v,c,rfl,hP⟩
  go_wp2
  go_ret2
  exact hP.out
theorem mid_8(lo hi:Int):midG 8 lo hi=farG (lessG (lessG (lessG (lessG (lessG freeG 0 1 0) 2 3 0) 0 2 0) 2 0 0) 1 3 1) 1 3 lo hi:=by
 have hb:backR 8=true:=by decide
 have ho:oddR 8=7:=by unfold oddR;rw[hb];rfl
 unfold midG
 rw[ho]
 rfl
theorem tight_8(lo hi:Int)(hl:0≤lo∧lo≤1073741824)(hh: -1≤hi∧hi≤1073741824):
  (tight 4 5 (at2 (gridL 4 (farG (lessG (lessG (lessG (lessG (lessG freeG 2 3 0) 0 1 0) 2 0 0) 0 2 0) 3 1 1) 3 1 lo hi)))=none∧optL 8 lo hi=none)∨(∃ d,tight 4 5 (at2 (gridL 4 (farG (lessG (lessG (lessG (lessG (lessG freeG 2 3 0) 0 1 0) 2 0 0) 0 2 0) 3 1 1) 3 1 lo hi)))=some d∧optL 8 lo hi=some (gridL 4 d)):=by
 refine opt_tight hl hh sw (fun a _=>?_) ?_
 ·unfold sgR
  rw[show backR 8=true from by decide]
  rfl
 ·rw[mid_8]
  exact(((((turned_free.less (x:=0) (y:=1) (by decide) (by decide) 0).less (x:=2) (y:=3) (by decide) (by decide) 0).less (x:=0) (y:=2) (by decide) (by decide) 0).less (x:=2) (y:=0) (by decide) (by decide) 0).less (x:=1) (y:=3) (by decide) (by decide) 1).far (x:=1) (y:=3) (by decide) (by decide) lo hi
set_option maxHeartbeats 4000000 in
set_option maxRecDepth 100000 in
theorem bounds_8(lo hi:Int)(w:World)(hl:0≤lo∧lo≤1073741824)(hh: -1≤hi∧hi≤1073741824):
  Calls Tryz.prog 88 #[.agg #[.int .i64 8,.int .i64 lo,.int .i64 hi]] w (OnePost (optL 8 lo hi) w):=by
 have HT:=Lib.hid (tight_8 lo hi hl hh)
 go_enter Tryz.func88,Tryz.ntmps88
 go_wp2_with fail
 refine(freeMatrix_grid 4 (by omega) _).mono ?_
 rintro e w1 ⟨ao1,cap1,gs,rfl,hb1,hG1⟩
 have k0:=hb1.cell (p:=⟨w.heap.size,0,none⟩) (by simp)
 have k1:=hb1.cell (p:=⟨w.heap.size,1,none⟩) (by simp)
 have k2:=hb1.cell (p:=⟨w.heap.size,2,none⟩) (by simp)
 simp at k0 k1 k2
 have hs1:=hb1.size
 have hbw:Below w.heap.size w w1:=(Joins.below_alloc1 w _).trans (hb1.mono (by simp))
 simp only[World.size_alloc]at hs1 hG1
 have G1:=Lib.hid hG1
 clear hb1 hG1
 go_wp2_with fail
 refine(aheadS 2 3 0 hs1 k1 k2 hbw G1 (by omega) (by omega) (by omega)).mono ?_
 clear k1 k2 hbw G1
 rintro e w2 ⟨rfl,hs2,k1,k2,hbw,G2⟩
 go_wp2_with fail
 refine(aheadS 0 1 0 hs2 k1 k2 hbw G2 (by omega) (by omega) (by omega)).mono ?_
 clear k1 k2 hbw G2
 rintro e w3 ⟨rfl,hs3,k1,k2,hbw,G3⟩
 go_wp2_with fail
 refine(aheadS 2 0 0 hs3 k1 k2 hbw G3 (by omega) (by omega) (by omega)).mono ?_
 clear k1 k2 hbw G3
 rintro e w4 ⟨rfl,hs4,k1,k2,hbw,G4⟩
 go_wp2_with fail
 refine(aheadS 0 2 0 hs4 k1 k2 hbw G4 (by omega) (by omega) (by omega)).mono ?_
 clear k1 k2 hbw G4
 rintro e w5 ⟨rfl,hs5,k1,k2,hbw,G5⟩
 go_wp2_with fail
 refine(aheadS 3 1 1 hs5 k1 k2 hbw G5 (by omega) (by omega) (by omega)).mono ?_
 clear k1 k2 hbw G5
 rintro e w6 ⟨rfl,hs6,k1,k2,hbw,G6⟩
 obtain⟨gp,hgp⟩: ∃ gp,Hid (gp=(lessG (lessG (lessG (lessG (lessG freeG 2 3 0) 0 1 0) 2 0 0) 0 2 0) 3 1 1)):=⟨_,rfl⟩
 rw[←hgp.out]at G6 HT
 go_wp2_with fail
 refine(aheadS 3 1 lo hs6 k1 k2 hbw G6 (by omega) (by omega) (by omega)).mono ?_
 clear k1 k2 hbw
 rintro e wf ⟨rfl,hsf,k1,k2,hbw,GF⟩
 have hGf:=GF.out
 clear GF G6 hgp
 have hxy:Hid (3<4∧1<4):=⟨by omega,by omega⟩
 obtain⟨gf,hgf⟩: ∃ gf,Hid (gf=lessG gp 3 1 lo):=⟨_,rfl⟩
 rw[←hgf.out]at hGf
 have GF:=Lib.hid hGf
 have hmx:=hGf.max
 unfold maxLen at hmx
 obtain⟨hh1,hh2⟩:=hh
 obtain⟨Ai,rci,hAlt,hglt,hF,hne,h1,h2,hix,hcell,hent⟩:=hGf.at hxy.out.2
 obtain⟨e1,e2,e3⟩:=hent 3 hxy.out.1
 replace hix: ∀ wx,(Instr.indexAt 78 (.slice ao1 4 cap1) (.int .i64 1)).run Tryz.prog wx= .ok (.pointer (some ⟨Ai,1,none⟩)) wx:=hix
 replace e3: ∀ wx,(Instr.indexAt 26 (.slice (some ⟨gs 1,0,none⟩) 4 rci) (.int .i64 3)).run Tryz.prog wx= .ok (.pointer (some ⟨gs 1,3,none⟩)) wx:=e3
 clear hent hGf
 by_cases h0:0≤hi
 ·by_cases hst:hi<gf 1 3
  ·go_wp2_with fail
   go_quiet (fail)
   have hbx:Below w.heap.size w (wf.drewN nq):=hbw.trans (Joins.below_draws _ _ _)
   have GX:Hid (Grid (from_ (w.heap.size+1)) (wf.drewN nq) ao1 4 cap1 gs gf):=GF.out.below (Joins.below_draws _ _ _)
   have k3:(wf.drewN nq).cell? ⟨w.heap.size,2,none⟩=some (.int .i64 hi):=by simpa using k2
   clear hix hcell e1 e2 e3 GF hbw hAlt hglt hF hne h1 h2 k1 k2
   have hsx:w.heap.size+1≤(wf.drewN nq).heap.size:=by simp;omega
   generalize wf.drewN nq=wx at *
   obtain⟨Ai,rci,hAlt,hglt,hF,hne,h1,h2,hix,hcell,hent⟩:=GX.out.at hxy.out.2
   obtain⟨e1,e2,e3⟩:=hent 3 hxy.out.1
   replace hix: ∀ wx,(Instr.indexAt 78 (.slice ao1 4 cap1) (.int .i64 1)).run Tryz.prog wx= .ok (.pointer (some ⟨Ai,1,none⟩)) wx:=hix
   replace e3: ∀ wx,(Instr.indexAt 26 (.slice (some ⟨gs 1,0,none⟩) 4 rci) (.int .i64 3)).run Tryz.prog wx= .ok (.pointer (some ⟨gs 1,3,none⟩)) wx:=e3
   have GS:Hid (Grid (from_ (w.heap.size+1)) (wx.setCell ⟨gs 1,3,none⟩ (.int .i64 hi)).drew ao1 4 cap1 gs (farG gp 3 1 lo hi)):=by
    show Grid _ _ _ _ _ _ _
    have:=(GX.out.store hxy.out.2 hxy.out.1 hi).same (G:=from_ (w.heap.size+1)) Same.drew
    unfold farG
    rw[if_pos h0,←hgf.out,Int.min_eq_right (by omega)]
    exact this
   have hbS:Below w.heap.size w (wx.setCell ⟨gs 1,3,none⟩ (.int .i64 hi)).drew:=(hbx.setCell (p:=⟨gs 1,3,none⟩) (Nat.le_of_succ_le hF) _).drew
   have hsS:w.heap.size+1≤(wx.setCell ⟨gs 1,3,none⟩ (.int .i64 hi)).drew.heap.size:=by simp;omega
   clear hent hbx
   go_wp2_with fail
   go_still_tail 8,(by kernel_rfl)
   change wpList _ _ _ _ _ wx.drew
   go_wp2_with fail
   have hend: ∀ wz,Hid (wz=(wx.setCell ⟨gs 1,3,none⟩ (.int .i64 hi)).drew)→Calls Tryz.prog 61 #[.slice ao1 4 cap1] wz (OneEx 8 lo hi w):=fun wz hz=>by
    have h:=hz.out
    subst h
    exact bounds_fin hbS hsS GS.out HT.out
   refine(hend _ rfl).mono ?_
   rintro e wz ⟨v,c,rfl,hP⟩
   go_wp2
   go_ret2
   exact hP.out
  ·go_wp2_with fail
   go_quiet (fail)
   have hbx:Below w.heap.size w (wf.drewN nq):=hbw.trans (Joins.below_draws _ _ _)
   have GS:Hid (Grid (from_ (w.heap.size+1)) (wf.drewN nq) ao1 4 cap1 gs (farG gp 3 1 lo hi)):=by
    show Grid _ _ _ _ _ _ _
    refine(GF.out.below (Joins.below_draws _ _ _)).congr fun a b _ _=>?_
    unfold farG setB
    rw[if_pos h0,←hgf.out,Int.min_eq_left (by omega)]
    split
    ·rename_i e;rw[e.1,e.2]
    ·rfl
   have hsx:w.heap.size+1≤(wf.drewN nq).heap.size:=by simp;omega
   clear hix hcell e1 e2 e3 GF hbw hAlt hglt hF hne h1 h2 k1 k2
   generalize wf.drewN nq=wx at *
   go_wp2_with fail
   refine(bounds_fin hbx hsx GS.out HT.out).mono ?_
   rintro e wz ⟨v,c,rfl,hP⟩
   go_wp2
   go_ret2
   exact hP.out
 ·have hm1:hi= -1:=by omega
  subst hm1
  go_wp2_with fail
  go_quiet (fail)
  have hbx:Below w.heap.size w (wf.drewN nq):=hbw.trans (Joins.below_draws _ _ _)
  have GS:Hid (Grid (from_ (w.heap.size+1)) (wf.drewN nq) ao1 4 cap1 gs (farG gp 3 1 lo (-1))):=by
   show Grid _ _ _ _ _ _ _
   unfold farG
   rw[if_neg (by decide),←hgf.out]
   exact GF.out.below (Joins.below_draws _ _ _)
  have hsx:w.heap.size+1≤(wf.drewN nq).heap.size:=by simp;omega
  clear hix hcell e1 e2 e3 GF hbw hAlt hglt hF hne h1 h2 k1 k2
  generalize wf.drewN nq=wx at *
  go_wp2_with fail
  refine(bounds_fin hbx hsx GS.out HT.out).mono ?_
  rintro e wz ⟨v,c,rfl,hP⟩
  go_wp2
  go_ret2
  exact hP.out
theorem mid_9(lo hi:Int):midG 9 lo hi=farG (lessG (lessG (lessG (lessG freeG 0 1 0) 2 3 0) 2 0 1) 1 3 1) 2 0 lo hi:=by
 have hb:backR 9=false:=by decide
 have ho:oddR 9=9:=by unfold oddR;rw[hb];rfl
 unfold midG
 rw[ho]
 rfl
theorem tight_9(lo hi:Int)(hl:0≤lo∧lo≤1073741824)(hh: -1≤hi∧hi≤1073741824):
  (tight 4 5 (at2 (gridL 4 (farG (lessG (lessG (lessG (lessG freeG 0 1 0) 2 3 0) 2 0 1) 1 3 1) 2 0 lo hi)))=none∧optL 9 lo hi=none)∨(∃ d,tight 4 5 (at2 (gridL 4 (farG (lessG (lessG (lessG (lessG freeG 0 1 0) 2 3 0) 2 0 1) 1 3 1) 2 0 lo hi)))=some d∧optL 9 lo hi=some (gridL 4 d)):=by
 refine opt_tight hl hh id (fun a _=>?_) ?_
 ·unfold sgR
  rw[show backR 9=false from by decide]
  rfl
 ·rw[mid_9]
  exact((((straight_free.less (x:=0) (y:=1) (by decide) (by decide) 0).less (x:=2) (y:=3) (by decide) (by decide) 0).less (x:=2) (y:=0) (by decide) (by decide) 1).less (x:=1) (y:=3) (by decide) (by decide) 1).far (x:=2) (y:=0) (by decide) (by decide) lo hi
set_option maxHeartbeats 4000000 in
set_option maxRecDepth 100000 in
theorem bounds_9(lo hi:Int)(w:World)(hl:0≤lo∧lo≤1073741824)(hh: -1≤hi∧hi≤1073741824):
  Calls Tryz.prog 88 #[.agg #[.int .i64 9,.int .i64 lo,.int .i64 hi]] w (OnePost (optL 9 lo hi) w):=by
 have HT:=Lib.hid (tight_9 lo hi hl hh)
 go_enter Tryz.func88,Tryz.ntmps88
 go_wp2_with fail
 refine(freeMatrix_grid 4 (by omega) _).mono ?_
 rintro e w1 ⟨ao1,cap1,gs,rfl,hb1,hG1⟩
 have k0:=hb1.cell (p:=⟨w.heap.size,0,none⟩) (by simp)
 have k1:=hb1.cell (p:=⟨w.heap.size,1,none⟩) (by simp)
 have k2:=hb1.cell (p:=⟨w.heap.size,2,none⟩) (by simp)
 simp at k0 k1 k2
 have hs1:=hb1.size
 have hbw:Below w.heap.size w w1:=(Joins.below_alloc1 w _).trans (hb1.mono (by simp))
 simp only[World.size_alloc]at hs1 hG1
 have G1:=Lib.hid hG1
 clear hb1 hG1
 go_wp2_with fail
 refine(aheadS 0 1 0 hs1 k1 k2 hbw G1 (by omega) (by omega) (by omega)).mono ?_
 clear k1 k2 hbw G1
 rintro e w2 ⟨rfl,hs2,k1,k2,hbw,G2⟩
 go_wp2_with fail
 refine(aheadS 2 3 0 hs2 k1 k2 hbw G2 (by omega) (by omega) (by omega)).mono ?_
 clear k1 k2 hbw G2
 rintro e w3 ⟨rfl,hs3,k1,k2,hbw,G3⟩
 go_wp2_with fail
 refine(aheadS 2 0 1 hs3 k1 k2 hbw G3 (by omega) (by omega) (by omega)).mono ?_
 clear k1 k2 hbw G3
 rintro e w4 ⟨rfl,hs4,k1,k2,hbw,G4⟩
 go_wp2_with fail
 refine(aheadS 1 3 1 hs4 k1 k2 hbw G4 (by omega) (by omega) (by omega)).mono ?_
 clear k1 k2 hbw G4
 rintro e w5 ⟨rfl,hs5,k1,k2,hbw,G5⟩
 obtain⟨gp,hgp⟩: ∃ gp,Hid (gp=(lessG (lessG (lessG (lessG freeG 0 1 0) 2 3 0) 2 0 1) 1 3 1)):=⟨_,rfl⟩
 rw[←hgp.out]at G5 HT
 go_wp2_with fail
 refine(aheadS 2 0 lo hs5 k1 k2 hbw G5 (by omega) (by omega) (by omega)).mono ?_
 clear k1 k2 hbw
 rintro e wf ⟨rfl,hsf,k1,k2,hbw,GF⟩
 have hGf:=GF.out
 clear GF G5 hgp
 have hxy:Hid (2<4∧0<4):=⟨by omega,by omega⟩
 obtain⟨gf,hgf⟩: ∃ gf,Hid (gf=lessG gp 2 0 lo):=⟨_,rfl⟩
 rw[←hgf.out]at hGf
 have GF:=Lib.hid hGf
 have hmx:=hGf.max
 unfold maxLen at hmx
 obtain⟨hh1,hh2⟩:=hh
 obtain⟨Ai,rci,hAlt,hglt,hF,hne,h1,h2,hix,hcell,hent⟩:=hGf.at hxy.out.2
 obtain⟨e1,e2,e3⟩:=hent 2 hxy.out.1
 replace hix: ∀ wx,(Instr.indexAt 78 (.slice ao1 4 cap1) (.int .i64 0)).run Tryz.prog wx= .ok (.pointer (some ⟨Ai,0,none⟩)) wx:=hix
 replace e3: ∀ wx,(Instr.indexAt 26 (.slice (some ⟨gs 0,0,none⟩) 4 rci) (.int .i64 2)).run Tryz.prog wx= .ok (.pointer (some ⟨gs 0,2,none⟩)) wx:=e3
 clear hent hGf
 by_cases h0:0≤hi
 ·by_cases hst:hi<gf 0 2
  ·go_wp2_with fail
   go_quiet (fail)
   have hbx:Below w.heap.size w (wf.drewN nq):=hbw.trans (Joins.below_draws _ _ _)
   have GX:Hid (Grid (from_ (w.heap.size+1)) (wf.drewN nq) ao1 4 cap1 gs gf):=GF.out.below (Joins.below_draws _ _ _)
   have k3:(wf.drewN nq).cell? ⟨w.heap.size,2,none⟩=some (.int .i64 hi):=by simpa using k2
   clear hix hcell e1 e2 e3 GF hbw hAlt hglt hF hne h1 h2 k1 k2
   have hsx:w.heap.size+1≤(wf.drewN nq).heap.size:=by simp;omega
   generalize wf.drewN nq=wx at *
   obtain⟨Ai,rci,hAlt,hglt,hF,hne,h1,h2,hix,hcell,hent⟩:=GX.out.at hxy.out.2
   obtain⟨e1,e2,e3⟩:=hent 2 hxy.out.1
   replace hix: ∀ wx,(Instr.indexAt 78 (.slice ao1 4 cap1) (.int .i64 0)).run Tryz.prog wx= .ok (.pointer (some ⟨Ai,0,none⟩)) wx:=hix
   replace e3: ∀ wx,(Instr.indexAt 26 (.slice (some ⟨gs 0,0,none⟩) 4 rci) (.int .i64 2)).run Tryz.prog wx= .ok (.pointer (some ⟨gs 0,2,none⟩)) wx:=e3
   have GS:Hid (Grid (from_ (w.heap.size+1)) (wx.setCell ⟨gs 0,2,none⟩ (.int .i64 hi)).drew ao1 4 cap1 gs (farG gp 2 0 lo hi)):=by
    show Grid _ _ _ _ _ _ _
    have:=(GX.out.store hxy.out.2 hxy.out.1 hi).same (G:=from_ (w.heap.size+1)) Same.drew
    unfold farG
    rw[if_pos h0,←hgf.out,Int.min_eq_right (by omega)]
    exact this
   have hbS:Below w.heap.size w (wx.setCell ⟨gs 0,2,none⟩ (.int .i64 hi)).drew:=(hbx.setCell (p:=⟨gs 0,2,none⟩) (Nat.le_of_succ_le hF) _).drew
   have hsS:w.heap.size+1≤(wx.setCell ⟨gs 0,2,none⟩ (.int .i64 hi)).drew.heap.size:=by simp;omega
   clear hent hbx
   go_wp2_with fail
   go_still_tail 8,(by kernel_rfl)
   change wpList _ _ _ _ _ wx.drew
   go_wp2_with fail
   have hend: ∀ wz,Hid (wz=(wx.setCell ⟨gs 0,2,none⟩ (.int .i64 hi)).drew)→Calls Tryz.prog 61 #[.slice ao1 4 cap1] wz (OneEx 9 lo hi w):=fun wz hz=>by
    have h:=hz.out
    subst h
    exact bounds_fin hbS hsS GS.out HT.out
   refine(hend _ rfl).mono ?_
   rintro e wz ⟨v,c,rfl,hP⟩
   go_wp2
   go_ret2
   exact hP.out
  ·go_wp2_with fail
   go_quiet (fail)
   have hbx:Below w.heap.size w (wf.drewN nq):=hbw.trans (Joins.below_draws _ _ _)
   have GS:Hid (Grid (from_ (w.heap.size+1)) (wf.drewN nq) ao1 4 cap1 gs (farG gp 2 0 lo hi)):=by
    show Grid _ _ _ _ _ _ _
    refine(GF.out.below (Joins.below_draws _ _ _)).congr fun a b _ _=>?_
    unfold farG setB
    rw[if_pos h0,←hgf.out,Int.min_eq_left (by omega)]
    split
    ·rename_i e;rw[e.1,e.2]
    ·rfl
   have hsx:w.heap.size+1≤(wf.drewN nq).heap.size:=by simp;omega
   clear hix hcell e1 e2 e3 GF hbw hAlt hglt hF hne h1 h2 k1 k2
   generalize wf.drewN nq=wx at *
   go_wp2_with fail
   refine(bounds_fin hbx hsx GS.out HT.out).mono ?_
   rintro e wz ⟨v,c,rfl,hP⟩
   go_wp2
   go_ret2
   exact hP.out
 ·have hm1:hi= -1:=by omega
  subst hm1
  go_wp2_with fail
  go_quiet (fail)
  have hbx:Below w.heap.size w (wf.drewN nq):=hbw.trans (Joins.below_draws _ _ _)
  have GS:Hid (Grid (from_ (w.heap.size+1)) (wf.drewN nq) ao1 4 cap1 gs (farG gp 2 0 lo (-1))):=by
   show Grid _ _ _ _ _ _ _
   unfold farG
   rw[if_neg (by decide),←hgf.out]
   exact GF.out.below (Joins.below_draws _ _ _)
  have hsx:w.heap.size+1≤(wf.drewN nq).heap.size:=by simp;omega
  clear hix hcell e1 e2 e3 GF hbw hAlt hglt hF hne h1 h2 k1 k2
  generalize wf.drewN nq=wx at *
  go_wp2_with fail
  refine(bounds_fin hbx hsx GS.out HT.out).mono ?_
  rintro e wz ⟨v,c,rfl,hP⟩
  go_wp2
  go_ret2
  exact hP.out
theorem mid_10(lo hi:Int):midG 10 lo hi=farG (lessG (lessG (lessG (lessG freeG 0 1 0) 2 3 0) 2 0 1) 1 3 1) 2 0 lo hi:=by
 have hb:backR 10=true:=by decide
 have ho:oddR 10=9:=by unfold oddR;rw[hb];rfl
 unfold midG
 rw[ho]
 rfl
theorem tight_10(lo hi:Int)(hl:0≤lo∧lo≤1073741824)(hh: -1≤hi∧hi≤1073741824):
  (tight 4 5 (at2 (gridL 4 (farG (lessG (lessG (lessG (lessG freeG 2 3 0) 0 1 0) 0 2 1) 3 1 1) 0 2 lo hi)))=none∧optL 10 lo hi=none)∨(∃ d,tight 4 5 (at2 (gridL 4 (farG (lessG (lessG (lessG (lessG freeG 2 3 0) 0 1 0) 0 2 1) 3 1 1) 0 2 lo hi)))=some d∧optL 10 lo hi=some (gridL 4 d)):=by
 refine opt_tight hl hh sw (fun a _=>?_) ?_
 ·unfold sgR
  rw[show backR 10=true from by decide]
  rfl
 ·rw[mid_10]
  exact((((turned_free.less (x:=0) (y:=1) (by decide) (by decide) 0).less (x:=2) (y:=3) (by decide) (by decide) 0).less (x:=2) (y:=0) (by decide) (by decide) 1).less (x:=1) (y:=3) (by decide) (by decide) 1).far (x:=2) (y:=0) (by decide) (by decide) lo hi
set_option maxHeartbeats 4000000 in
set_option maxRecDepth 100000 in
theorem bounds_10(lo hi:Int)(w:World)(hl:0≤lo∧lo≤1073741824)(hh: -1≤hi∧hi≤1073741824):
  Calls Tryz.prog 88 #[.agg #[.int .i64 10,.int .i64 lo,.int .i64 hi]] w (OnePost (optL 10 lo hi) w):=by
 have HT:=Lib.hid (tight_10 lo hi hl hh)
 go_enter Tryz.func88,Tryz.ntmps88
 go_wp2_with fail
 refine(freeMatrix_grid 4 (by omega) _).mono ?_
 rintro e w1 ⟨ao1,cap1,gs,rfl,hb1,hG1⟩
 have k0:=hb1.cell (p:=⟨w.heap.size,0,none⟩) (by simp)
 have k1:=hb1.cell (p:=⟨w.heap.size,1,none⟩) (by simp)
 have k2:=hb1.cell (p:=⟨w.heap.size,2,none⟩) (by simp)
 simp at k0 k1 k2
 have hs1:=hb1.size
 have hbw:Below w.heap.size w w1:=(Joins.below_alloc1 w _).trans (hb1.mono (by simp))
 simp only[World.size_alloc]at hs1 hG1
 have G1:=Lib.hid hG1
 clear hb1 hG1
 go_wp2_with fail
 refine(aheadS 2 3 0 hs1 k1 k2 hbw G1 (by omega) (by omega) (by omega)).mono ?_
 clear k1 k2 hbw G1
 rintro e w2 ⟨rfl,hs2,k1,k2,hbw,G2⟩
 go_wp2_with fail
 refine(aheadS 0 1 0 hs2 k1 k2 hbw G2 (by omega) (by omega) (by omega)).mono ?_
 clear k1 k2 hbw G2
 rintro e w3 ⟨rfl,hs3,k1,k2,hbw,G3⟩
 go_wp2_with fail
 refine(aheadS 0 2 1 hs3 k1 k2 hbw G3 (by omega) (by omega) (by omega)).mono ?_
 clear k1 k2 hbw G3
 rintro e w4 ⟨rfl,hs4,k1,k2,hbw,G4⟩
 go_wp2_with fail
 refine(aheadS 3 1 1 hs4 k1 k2 hbw G4 (by omega) (by omega) (by omega)).mono ?_
 clear k1 k2 hbw G4
 rintro e w5 ⟨rfl,hs5,k1,k2,hbw,G5⟩
 obtain⟨gp,hgp⟩: ∃ gp,Hid (gp=(lessG (lessG (lessG (lessG freeG 2 3 0) 0 1 0) 0 2 1) 3 1 1)):=⟨_,rfl⟩
 rw[←hgp.out]at G5 HT
 go_wp2_with fail
 refine(aheadS 0 2 lo hs5 k1 k2 hbw G5 (by omega) (by omega) (by omega)).mono ?_
 clear k1 k2 hbw
 rintro e wf ⟨rfl,hsf,k1,k2,hbw,GF⟩
 have hGf:=GF.out
 clear GF G5 hgp
 have hxy:Hid (0<4∧2<4):=⟨by omega,by omega⟩
 obtain⟨gf,hgf⟩: ∃ gf,Hid (gf=lessG gp 0 2 lo):=⟨_,rfl⟩
 rw[←hgf.out]at hGf
 have GF:=Lib.hid hGf
 have hmx:=hGf.max
 unfold maxLen at hmx
 obtain⟨hh1,hh2⟩:=hh
 obtain⟨Ai,rci,hAlt,hglt,hF,hne,h1,h2,hix,hcell,hent⟩:=hGf.at hxy.out.2
 obtain⟨e1,e2,e3⟩:=hent 0 hxy.out.1
 replace hix: ∀ wx,(Instr.indexAt 78 (.slice ao1 4 cap1) (.int .i64 2)).run Tryz.prog wx= .ok (.pointer (some ⟨Ai,2,none⟩)) wx:=hix
 replace e3: ∀ wx,(Instr.indexAt 26 (.slice (some ⟨gs 2,0,none⟩) 4 rci) (.int .i64 0)).run Tryz.prog wx= .ok (.pointer (some ⟨gs 2,0,none⟩)) wx:=e3
 clear hent hGf
 by_cases h0:0≤hi
 ·by_cases hst:hi<gf 2 0
  ·go_wp2_with fail
   go_quiet (fail)
   have hbx:Below w.heap.size w (wf.drewN nq):=hbw.trans (Joins.below_draws _ _ _)
   have GX:Hid (Grid (from_ (w.heap.size+1)) (wf.drewN nq) ao1 4 cap1 gs gf):=GF.out.below (Joins.below_draws _ _ _)
   have k3:(wf.drewN nq).cell? ⟨w.heap.size,2,none⟩=some (.int .i64 hi):=by simpa using k2
   clear hix hcell e1 e2 e3 GF hbw hAlt hglt hF hne h1 h2 k1 k2
   have hsx:w.heap.size+1≤(wf.drewN nq).heap.size:=by simp;omega
   generalize wf.drewN nq=wx at *
   obtain⟨Ai,rci,hAlt,hglt,hF,hne,h1,h2,hix,hcell,hent⟩:=GX.out.at hxy.out.2
   obtain⟨e1,e2,e3⟩:=hent 0 hxy.out.1
   replace hix: ∀ wx,(Instr.indexAt 78 (.slice ao1 4 cap1) (.int .i64 2)).run Tryz.prog wx= .ok (.pointer (some ⟨Ai,2,none⟩)) wx:=hix
   replace e3: ∀ wx,(Instr.indexAt 26 (.slice (some ⟨gs 2,0,none⟩) 4 rci) (.int .i64 0)).run Tryz.prog wx= .ok (.pointer (some ⟨gs 2,0,none⟩)) wx:=e3
   have GS:Hid (Grid (from_ (w.heap.size+1)) (wx.setCell ⟨gs 2,0,none⟩ (.int .i64 hi)).drew ao1 4 cap1 gs (farG gp 0 2 lo hi)):=by
    show Grid _ _ _ _ _ _ _
    have:=(GX.out.store hxy.out.2 hxy.out.1 hi).same (G:=from_ (w.heap.size+1)) Same.drew
    unfold farG
    rw[if_pos h0,←hgf.out,Int.min_eq_right (by omega)]
    exact this
   have hbS:Below w.heap.size w (wx.setCell ⟨gs 2,0,none⟩ (.int .i64 hi)).drew:=(hbx.setCell (p:=⟨gs 2,0,none⟩) (Nat.le_of_succ_le hF) _).drew
   have hsS:w.heap.size+1≤(wx.setCell ⟨gs 2,0,none⟩ (.int .i64 hi)).drew.heap.size:=by simp;omega
   clear hent hbx
   go_wp2_with fail
   go_still_tail 8,(by kernel_rfl)
   change wpList _ _ _ _ _ wx.drew
   go_wp2_with fail
   have hend: ∀ wz,Hid (wz=(wx.setCell ⟨gs 2,0,none⟩ (.int .i64 hi)).drew)→Calls Tryz.prog 61 #[.slice ao1 4 cap1] wz (OneEx 10 lo hi w):=fun wz hz=>by
    have h:=hz.out
    subst h
    exact bounds_fin hbS hsS GS.out HT.out
   refine(hend _ rfl).mono ?_
   rintro e wz ⟨v,c,rfl,hP⟩
   go_wp2
   go_ret2
   exact hP.out
  ·go_wp2_with fail
   go_quiet (fail)
   have hbx:Below w.heap.size w (wf.drewN nq):=hbw.trans (Joins.below_draws _ _ _)
   have GS:Hid (Grid (from_ (w.heap.size+1)) (wf.drewN nq) ao1 4 cap1 gs (farG gp 0 2 lo hi)):=by
    show Grid _ _ _ _ _ _ _
    refine(GF.out.below (Joins.below_draws _ _ _)).congr fun a b _ _=>?_
    unfold farG setB
    rw[if_pos h0,←hgf.out,Int.min_eq_left (by omega)]
    split
    ·rename_i e;rw[e.1,e.2]
    ·rfl
   have hsx:w.heap.size+1≤(wf.drewN nq).heap.size:=by simp;omega
   clear hix hcell e1 e2 e3 GF hbw hAlt hglt hF hne h1 h2 k1 k2
   generalize wf.drewN nq=wx at *
   go_wp2_with fail
   refine(bounds_fin hbx hsx GS.out HT.out).mono ?_
   rintro e wz ⟨v,c,rfl,hP⟩
   go_wp2
   go_ret2
   exact hP.out
 ·have hm1:hi= -1:=by omega
  subst hm1
  go_wp2_with fail
  go_quiet (fail)
  have hbx:Below w.heap.size w (wf.drewN nq):=hbw.trans (Joins.below_draws _ _ _)
  have GS:Hid (Grid (from_ (w.heap.size+1)) (wf.drewN nq) ao1 4 cap1 gs (farG gp 0 2 lo (-1))):=by
   show Grid _ _ _ _ _ _ _
   unfold farG
   rw[if_neg (by decide),←hgf.out]
   exact GF.out.below (Joins.below_draws _ _ _)
  have hsx:w.heap.size+1≤(wf.drewN nq).heap.size:=by simp;omega
  clear hix hcell e1 e2 e3 GF hbw hAlt hglt hF hne h1 h2 k1 k2
  generalize wf.drewN nq=wx at *
  go_wp2_with fail
  refine(bounds_fin hbx hsx GS.out HT.out).mono ?_
  rintro e wz ⟨v,c,rfl,hP⟩
  go_wp2
  go_ret2
  exact hP.out
theorem mid_11(lo hi:Int):midG 11 lo hi=farG (lessG (lessG (lessG (lessG (lessG freeG 0 1 0) 2 3 0) 2 0 1) 1 3 0) 3 1 0) 2 0 lo hi:=by
 have hb:backR 11=false:=by decide
 have ho:oddR 11=11:=by unfold oddR;rw[hb];rfl
 unfold midG
 rw[ho]
 rfl
theorem tight_11(lo hi:Int)(hl:0≤lo∧lo≤1073741824)(hh: -1≤hi∧hi≤1073741824):
  (tight 4 5 (at2 (gridL 4 (farG (lessG (lessG (lessG (lessG (lessG freeG 0 1 0) 2 3 0) 2 0 1) 1 3 0) 3 1 0) 2 0 lo hi)))=none∧optL 11 lo hi=none)∨(∃ d,tight 4 5 (at2 (gridL 4 (farG (lessG (lessG (lessG (lessG (lessG freeG 0 1 0) 2 3 0) 2 0 1) 1 3 0) 3 1 0) 2 0 lo hi)))=some d∧optL 11 lo hi=some (gridL 4 d)):=by
 refine opt_tight hl hh id (fun a _=>?_) ?_
 ·unfold sgR
  rw[show backR 11=false from by decide]
  rfl
 ·rw[mid_11]
  exact(((((straight_free.less (x:=0) (y:=1) (by decide) (by decide) 0).less (x:=2) (y:=3) (by decide) (by decide) 0).less (x:=2) (y:=0) (by decide) (by decide) 1).less (x:=1) (y:=3) (by decide) (by decide) 0).less (x:=3) (y:=1) (by decide) (by decide) 0).far (x:=2) (y:=0) (by decide) (by decide) lo hi
set_option maxHeartbeats 4000000 in
set_option maxRecDepth 100000 in
theorem bounds_11(lo hi:Int)(w:World)(hl:0≤lo∧lo≤1073741824)(hh: -1≤hi∧hi≤1073741824):
  Calls Tryz.prog 88 #[.agg #[.int .i64 11,.int .i64 lo,.int .i64 hi]] w (OnePost (optL 11 lo hi) w):=by
 have HT:=Lib.hid (tight_11 lo hi hl hh)
 go_enter Tryz.func88,Tryz.ntmps88
 go_wp2_with fail
 refine(freeMatrix_grid 4 (by omega) _).mono ?_
 rintro e w1 ⟨ao1,cap1,gs,rfl,hb1,hG1⟩
 have k0:=hb1.cell (p:=⟨w.heap.size,0,none⟩) (by simp)
 have k1:=hb1.cell (p:=⟨w.heap.size,1,none⟩) (by simp)
 have k2:=hb1.cell (p:=⟨w.heap.size,2,none⟩) (by simp)
 simp at k0 k1 k2
 have hs1:=hb1.size
 have hbw:Below w.heap.size w w1:=(Joins.below_alloc1 w _).trans (hb1.mono (by simp))
 simp only[World.size_alloc]at hs1 hG1
 have G1:=Lib.hid hG1
 clear hb1 hG1
 go_wp2_with fail
 refine(aheadS 0 1 0 hs1 k1 k2 hbw G1 (by omega) (by omega) (by omega)).mono ?_
 clear k1 k2 hbw G1
 rintro e w2 ⟨rfl,hs2,k1,k2,hbw,G2⟩
 go_wp2_with fail
 refine(aheadS 2 3 0 hs2 k1 k2 hbw G2 (by omega) (by omega) (by omega)).mono ?_
 clear k1 k2 hbw G2
 rintro e w3 ⟨rfl,hs3,k1,k2,hbw,G3⟩
 go_wp2_with fail
 refine(aheadS 2 0 1 hs3 k1 k2 hbw G3 (by omega) (by omega) (by omega)).mono ?_
 clear k1 k2 hbw G3
 rintro e w4 ⟨rfl,hs4,k1,k2,hbw,G4⟩
 go_wp2_with fail
 refine(aheadS 1 3 0 hs4 k1 k2 hbw G4 (by omega) (by omega) (by omega)).mono ?_
 clear k1 k2 hbw G4
 rintro e w5 ⟨rfl,hs5,k1,k2,hbw,G5⟩
 go_wp2_with fail
 refine(aheadS 3 1 0 hs5 k1 k2 hbw G5 (by omega) (by omega) (by omega)).mono ?_
 clear k1 k2 hbw G5
 rintro e w6 ⟨rfl,hs6,k1,k2,hbw,G6⟩
 obtain⟨gp,hgp⟩: ∃ gp,Hid (gp=(lessG (lessG (lessG (lessG (lessG freeG 0 1 0) 2 3 0) 2 0 1) 1 3 0) 3 1 0)):=⟨_,rfl⟩
 rw[←hgp.out]at G6 HT
 go_wp2_with fail
 refine(aheadS 2 0 lo hs6 k1 k2 hbw G6 (by omega) (by omega) (by omega)).mono ?_
 clear k1 k2 hbw
 rintro e wf ⟨rfl,hsf,k1,k2,hbw,GF⟩
 have hGf:=GF.out
 clear GF G6 hgp
 have hxy:Hid (2<4∧0<4):=⟨by omega,by omega⟩
 obtain⟨gf,hgf⟩: ∃ gf,Hid (gf=lessG gp 2 0 lo):=⟨_,rfl⟩
 rw[←hgf.out]at hGf
 have GF:=Lib.hid hGf
 have hmx:=hGf.max
 unfold maxLen at hmx
 obtain⟨hh1,hh2⟩:=hh
 obtain⟨Ai,rci,hAlt,hglt,hF,hne,h1,h2,hix,hcell,hent⟩:=hGf.at hxy.out.2
 obtain⟨e1,e2,e3⟩:=hent 2 hxy.out.1
 replace hix: ∀ wx,(Instr.indexAt 78 (.slice ao1 4 cap1) (.int .i64 0)).run Tryz.prog wx= .ok (.pointer (some ⟨Ai,0,none⟩)) wx:=hix
 replace e3: ∀ wx,(Instr.indexAt 26 (.slice (some ⟨gs 0,0,none⟩) 4 rci) (.int .i64 2)).run Tryz.prog wx= .ok (.pointer (some ⟨gs 0,2,none⟩)) wx:=e3
 clear hent hGf
 by_cases h0:0≤hi
 ·by_cases hst:hi<gf 0 2
  ·go_wp2_with fail
   go_quiet (fail)
   have hbx:Below w.heap.size w (wf.drewN nq):=hbw.trans (Joins.below_draws _ _ _)
   have GX:Hid (Grid (from_ (w.heap.size+1)) (wf.drewN nq) ao1 4 cap1 gs gf):=GF.out.below (Joins.below_draws _ _ _)
   have k3:(wf.drewN nq).cell? ⟨w.heap.size,2,none⟩=some (.int .i64 hi):=by simpa using k2
   clear hix hcell e1 e2 e3 GF hbw hAlt hglt hF hne h1 h2 k1 k2
   have hsx:w.heap.size+1≤(wf.drewN nq).heap.size:=by simp;omega
   generalize wf.drewN nq=wx at *
   obtain⟨Ai,rci,hAlt,hglt,hF,hne,h1,h2,hix,hcell,hent⟩:=GX.out.at hxy.out.2
   obtain⟨e1,e2,e3⟩:=hent 2 hxy.out.1
   replace hix: ∀ wx,(Instr.indexAt 78 (.slice ao1 4 cap1) (.int .i64 0)).run Tryz.prog wx= .ok (.pointer (some ⟨Ai,0,none⟩)) wx:=hix
   replace e3: ∀ wx,(Instr.indexAt 26 (.slice (some ⟨gs 0,0,none⟩) 4 rci) (.int .i64 2)).run Tryz.prog wx= .ok (.pointer (some ⟨gs 0,2,none⟩)) wx:=e3
   have GS:Hid (Grid (from_ (w.heap.size+1)) (wx.setCell ⟨gs 0,2,none⟩ (.int .i64 hi)).drew ao1 4 cap1 gs (farG gp 2 0 lo hi)):=by
    show Grid _ _ _ _ _ _ _
    have:=(GX.out.store hxy.out.2 hxy.out.1 hi).same (G:=from_ (w.heap.size+1)) Same.drew
    unfold farG
    rw[if_pos h0,←hgf.out,Int.min_eq_right (by omega)]
    exact this
   have hbS:Below w.heap.size w (wx.setCell ⟨gs 0,2,none⟩ (.int .i64 hi)).drew:=(hbx.setCell (p:=⟨gs 0,2,none⟩) (Nat.le_of_succ_le hF) _).drew
   have hsS:w.heap.size+1≤(wx.setCell ⟨gs 0,2,none⟩ (.int .i64 hi)).drew.heap.size:=by simp;omega
   clear hent hbx
   go_wp2_with fail
   go_still_tail 8,(by kernel_rfl)
   change wpList _ _ _ _ _ wx.drew
   go_wp2_with fail
   have hend: ∀ wz,Hid (wz=(wx.setCell ⟨gs 0,2,none⟩ (.int .i64 hi)).drew)→Calls Tryz.prog 61 #[.slice ao1 4 cap1] wz (OneEx 11 lo hi w):=fun wz hz=>by
    have h:=hz.out
    subst h
    exact bounds_fin hbS hsS GS.out HT.out
   refine(hend _ rfl).mono ?_
   rintro e wz ⟨v,c,rfl,hP⟩
   go_wp2
   go_ret2
   exact hP.out
  ·go_wp2_with fail
   go_quiet (fail)
   have hbx:Below w.heap.size w (wf.drewN nq):=hbw.trans (Joins.below_draws _ _ _)
   have GS:Hid (Grid (from_ (w.heap.size+1)) (wf.drewN nq) ao1 4 cap1 gs (farG gp 2 0 lo hi)):=by
    show Grid _ _ _ _ _ _ _
    refine(GF.out.below (Joins.below_draws _ _ _)).congr fun a b _ _=>?_
    unfold farG setB
    rw[if_pos h0,←hgf.out,Int.min_eq_left (by omega)]
    split
    ·rename_i e;rw[e.1,e.2]
    ·rfl
   have hsx:w.heap.size+1≤(wf.drewN nq).heap.size:=by simp;omega
   clear hix hcell e1 e2 e3 GF hbw hAlt hglt hF hne h1 h2 k1 k2
   generalize wf.drewN nq=wx at *
   go_wp2_with fail
   refine(bounds_fin hbx hsx GS.out HT.out).mono ?_
   rintro e wz ⟨v,c,rfl,hP⟩
   go_wp2
   go_ret2
   exact hP.out
 ·have hm1:hi= -1:=by omega
  subst hm1
  go_wp2_with fail
  go_quiet (fail)
  have hbx:Below w.heap.size w (wf.drewN nq):=hbw.trans (Joins.below_draws _ _ _)
  have GS:Hid (Grid (from_ (w.heap.size+1)) (wf.drewN nq) ao1 4 cap1 gs (farG gp 2 0 lo (-1))):=by
   show Grid _ _ _ _ _ _ _
   unfold farG
   rw[if_neg (by decide),←hgf.out]
   exact GF.out.below (Joins.below_draws _ _ _)
  have hsx:w.heap.size+1≤(wf.drewN nq).heap.size:=by simp;omega
  clear hix hcell e1 e2 e3 GF hbw hAlt hglt hF hne h1 h2 k1 k2
  generalize wf.drewN nq=wx at *
  go_wp2_with fail
  refine(bounds_fin hbx hsx GS.out HT.out).mono ?_
  rintro e wz ⟨v,c,rfl,hP⟩
  go_wp2
  go_ret2
  exact hP.out
theorem mid_12(lo hi:Int):midG 12 lo hi=farG (lessG (lessG (lessG (lessG (lessG freeG 0 1 0) 2 3 0) 2 0 1) 1 3 0) 3 1 0) 2 0 lo hi:=by
 have hb:backR 12=true:=by decide
 have ho:oddR 12=11:=by unfold oddR;rw[hb];rfl
 unfold midG
 rw[ho]
 rfl
theorem tight_12(lo hi:Int)(hl:0≤lo∧lo≤1073741824)(hh: -1≤hi∧hi≤1073741824):
  (tight 4 5 (at2 (gridL 4 (farG (lessG (lessG (lessG (lessG (lessG freeG 2 3 0) 0 1 0) 0 2 1) 3 1 0) 1 3 0) 0 2 lo hi)))=none∧optL 12 lo hi=none)∨(∃ d,tight 4 5 (at2 (gridL 4 (farG (lessG (lessG (lessG (lessG (lessG freeG 2 3 0) 0 1 0) 0 2 1) 3 1 0) 1 3 0) 0 2 lo hi)))=some d∧optL 12 lo hi=some (gridL 4 d)):=by
 refine opt_tight hl hh sw (fun a _=>?_) ?_
 ·unfold sgR
  rw[show backR 12=true from by decide]
  rfl
 ·rw[mid_12]
  exact(((((turned_free.less (x:=0) (y:=1) (by decide) (by decide) 0).less (x:=2) (y:=3) (by decide) (by decide) 0).less (x:=2) (y:=0) (by decide) (by decide) 1).less (x:=1) (y:=3) (by decide) (by decide) 0).less (x:=3) (y:=1) (by decide) (by decide) 0).far (x:=2) (y:=0) (by decide) (by decide) lo hi
set_option maxHeartbeats 4000000 in
set_option maxRecDepth 100000 in
theorem bounds_12(lo hi:Int)(w:World)(hl:0≤lo∧lo≤1073741824)(hh: -1≤hi∧hi≤1073741824):
  Calls Tryz.prog 88 #[.agg #[.int .i64 12,.int .i64 lo,.int .i64 hi]] w (OnePost (optL 12 lo hi) w):=by
 have HT:=Lib.hid (tight_12 lo hi hl hh)
 go_enter Tryz.func88,Tryz.ntmps88
 go_wp2_with fail
 refine(freeMatrix_grid 4 (by omega) _).mono ?_
 rintro e w1 ⟨ao1,cap1,gs,rfl,hb1,hG1⟩
 have k0:=hb1.cell (p:=⟨w.heap.size,0,none⟩) (by simp)
 have k1:=hb1.cell (p:=⟨w.heap.size,1,none⟩) (by simp)
 have k2:=hb1.cell (p:=⟨w.heap.size,2,none⟩) (by simp)
 simp at k0 k1 k2
 have hs1:=hb1.size
 have hbw:Below w.heap.size w w1:=(Joins.below_alloc1 w _).trans (hb1.mono (by simp))
 simp only[World.size_alloc]at hs1 hG1
 have G1:=Lib.hid hG1
 clear hb1 hG1
 go_wp2_with fail
 refine(aheadS 2 3 0 hs1 k1 k2 hbw G1 (by omega) (by omega) (by omega)).mono ?_
 clear k1 k2 hbw G1
 rintro e w2 ⟨rfl,hs2,k1,k2,hbw,G2⟩
 go_wp2_with fail
 refine(aheadS 0 1 0 hs2 k1 k2 hbw G2 (by omega) (by omega) (by omega)).mono ?_
 clear k1 k2 hbw G2
 rintro e w3 ⟨rfl,hs3,k1,k2,hbw,G3⟩
 go_wp2_with fail
 refine(aheadS 0 2 1 hs3 k1 k2 hbw G3 (by omega) (by omega) (by omega)).mono ?_
 clear k1 k2 hbw G3
 rintro e w4 ⟨rfl,hs4,k1,k2,hbw,G4⟩
 go_wp2_with fail
 refine(aheadS 3 1 0 hs4 k1 k2 hbw G4 (by omega) (by omega) (by omega)).mono ?_
 clear k1 k2 hbw G4
 rintro e w5 ⟨rfl,hs5,k1,k2,hbw,G5⟩
 go_wp2_with fail
 refine(aheadS 1 3 0 hs5 k1 k2 hbw G5 (by omega) (by omega) (by omega)).mono ?_
 clear k1 k2 hbw G5
 rintro e w6 ⟨rfl,hs6,k1,k2,hbw,G6⟩
 obtain⟨gp,hgp⟩: ∃ gp,Hid (gp=(lessG (lessG (lessG (lessG (lessG freeG 2 3 0) 0 1 0) 0 2 1) 3 1 0) 1 3 0)):=⟨_,rfl⟩
 rw[←hgp.out]at G6 HT
 go_wp2_with fail
 refine(aheadS 0 2 lo hs6 k1 k2 hbw G6 (by omega) (by omega) (by omega)).mono ?_
 clear k1 k2 hbw
 rintro e wf ⟨rfl,hsf,k1,k2,hbw,GF⟩
 have hGf:=GF.out
 clear GF G6 hgp
 have hxy:Hid (0<4∧2<4):=⟨by omega,by omega⟩
 obtain⟨gf,hgf⟩: ∃ gf,Hid (gf=lessG gp 0 2 lo):=⟨_,rfl⟩
 rw[←hgf.out]at hGf
 have GF:=Lib.hid hGf
 have hmx:=hGf.max
 unfold maxLen at hmx
 obtain⟨hh1,hh2⟩:=hh
 obtain⟨Ai,rci,hAlt,hglt,hF,hne,h1,h2,hix,hcell,hent⟩:=hGf.at hxy.out.2
 obtain⟨e1,e2,e3⟩:=hent 0 hxy.out.1
 replace hix: ∀ wx,(Instr.indexAt 78 (.slice ao1 4 cap1) (.int .i64 2)).run Tryz.prog wx= .ok (.pointer (some ⟨Ai,2,none⟩)) wx:=hix
 replace e3: ∀ wx,(Instr.indexAt 26 (.slice (some ⟨gs 2,0,none⟩) 4 rci) (.int .i64 0)).run Tryz.prog wx= .ok (.pointer (some ⟨gs 2,0,none⟩)) wx:=e3
 clear hent hGf
 by_cases h0:0≤hi
 ·by_cases hst:hi<gf 2 0
  ·go_wp2_with fail
   go_quiet (fail)
   have hbx:Below w.heap.size w (wf.drewN nq):=hbw.trans (Joins.below_draws _ _ _)
   have GX:Hid (Grid (from_ (w.heap.size+1)) (wf.drewN nq) ao1 4 cap1 gs gf):=GF.out.below (Joins.below_draws _ _ _)
   have k3:(wf.drewN nq).cell? ⟨w.heap.size,2,none⟩=some (.int .i64 hi):=by simpa using k2
   clear hix hcell e1 e2 e3 GF hbw hAlt hglt hF hne h1 h2 k1 k2
   have hsx:w.heap.size+1≤(wf.drewN nq).heap.size:=by simp;omega
   generalize wf.drewN nq=wx at *
   obtain⟨Ai,rci,hAlt,hglt,hF,hne,h1,h2,hix,hcell,hent⟩:=GX.out.at hxy.out.2
   obtain⟨e1,e2,e3⟩:=hent 0 hxy.out.1
   replace hix: ∀ wx,(Instr.indexAt 78 (.slice ao1 4 cap1) (.int .i64 2)).run Tryz.prog wx= .ok (.pointer (some ⟨Ai,2,none⟩)) wx:=hix
   replace e3: ∀ wx,(Instr.indexAt 26 (.slice (some ⟨gs 2,0,none⟩) 4 rci) (.int .i64 0)).run Tryz.prog wx= .ok (.pointer (some ⟨gs 2,0,none⟩)) wx:=e3
   have GS:Hid (Grid (from_ (w.heap.size+1)) (wx.setCell ⟨gs 2,0,none⟩ (.int .i64 hi)).drew ao1 4 cap1 gs (farG gp 0 2 lo hi)):=by
    show Grid _ _ _ _ _ _ _
    have:=(GX.out.store hxy.out.2 hxy.out.1 hi).same (G:=from_ (w.heap.size+1)) Same.drew
    unfold farG
    rw[if_pos h0,←hgf.out,Int.min_eq_right (by omega)]
    exact this
   have hbS:Below w.heap.size w (wx.setCell ⟨gs 2,0,none⟩ (.int .i64 hi)).drew:=(hbx.setCell (p:=⟨gs 2,0,none⟩) (Nat.le_of_succ_le hF) _).drew
   have hsS:w.heap.size+1≤(wx.setCell ⟨gs 2,0,none⟩ (.int .i64 hi)).drew.heap.size:=by simp;omega
   clear hent hbx
   go_wp2_with fail
   go_still_tail 8,(by kernel_rfl)
   change wpList _ _ _ _ _ wx.drew
   go_wp2_with fail
   have hend: ∀ wz,Hid (wz=(wx.setCell ⟨gs 2,0,none⟩ (.int .i64 hi)).drew)→Calls Tryz.prog 61 #[.slice ao1 4 cap1] wz (OneEx 12 lo hi w):=fun wz hz=>by
    have h:=hz.out
    subst h
    exact bounds_fin hbS hsS GS.out HT.out
   refine(hend _ rfl).mono ?_
   rintro e wz ⟨v,c,rfl,hP⟩
   go_wp2
   go_ret2
   exact hP.out
  ·go_wp2_with fail
   go_quiet (fail)
   have hbx:Below w.heap.size w (wf.drewN nq):=hbw.trans (Joins.below_draws _ _ _)
   have GS:Hid (Grid (from_ (w.heap.size+1)) (wf.drewN nq) ao1 4 cap1 gs (farG gp 0 2 lo hi)):=by
    show Grid _ _ _ _ _ _ _
    refine(GF.out.below (Joins.below_draws _ _ _)).congr fun a b _ _=>?_
    unfold farG setB
    rw[if_pos h0,←hgf.out,Int.min_eq_left (by omega)]
    split
    ·rename_i e;rw[e.1,e.2]
    ·rfl
   have hsx:w.heap.size+1≤(wf.drewN nq).heap.size:=by simp;omega
   clear hix hcell e1 e2 e3 GF hbw hAlt hglt hF hne h1 h2 k1 k2
   generalize wf.drewN nq=wx at *
   go_wp2_with fail
   refine(bounds_fin hbx hsx GS.out HT.out).mono ?_
   rintro e wz ⟨v,c,rfl,hP⟩
   go_wp2
   go_ret2
   exact hP.out
 ·have hm1:hi= -1:=by omega
  subst hm1
  go_wp2_with fail
  go_quiet (fail)
  have hbx:Below w.heap.size w (wf.drewN nq):=hbw.trans (Joins.below_draws _ _ _)
  have GS:Hid (Grid (from_ (w.heap.size+1)) (wf.drewN nq) ao1 4 cap1 gs (farG gp 0 2 lo (-1))):=by
   show Grid _ _ _ _ _ _ _
   unfold farG
   rw[if_neg (by decide),←hgf.out]
   exact GF.out.below (Joins.below_draws _ _ _)
  have hsx:w.heap.size+1≤(wf.drewN nq).heap.size:=by simp;omega
  clear hix hcell e1 e2 e3 GF hbw hAlt hglt hF hne h1 h2 k1 k2
  generalize wf.drewN nq=wx at *
  go_wp2_with fail
  refine(bounds_fin hbx hsx GS.out HT.out).mono ?_
  rintro e wz ⟨v,c,rfl,hP⟩
  go_wp2
  go_ret2
  exact hP.out
theorem mid_13(lo hi:Int):midG 13 lo hi=farG (lessG (lessG (lessG (lessG (lessG (lessG freeG 0 1 0) 2 3 0) 0 2 0) 2 0 0) 1 3 0) 3 1 0) 0 2 lo hi:=by
 have hb:backR 13=false:=by decide
 have ho:oddR 13=13:=by unfold oddR;rw[hb];rfl
 unfold midG
 rw[ho]
 rfl
theorem tight_13(lo hi:Int)(hl:0≤lo∧lo≤1073741824)(hh: -1≤hi∧hi≤1073741824):
  (tight 4 5 (at2 (gridL 4 (farG (lessG (lessG (lessG (lessG (lessG (lessG freeG 0 1 0) 2 3 0) 0 2 0) 2 0 0) 1 3 0) 3 1 0) 0 2 lo hi)))=none∧optL 13 lo hi=none)∨(∃ d,tight 4 5 (at2 (gridL 4 (farG (lessG (lessG (lessG (lessG (lessG (lessG freeG 0 1 0) 2 3 0) 0 2 0) 2 0 0) 1 3 0) 3 1 0) 0 2 lo hi)))=some d∧optL 13 lo hi=some (gridL 4 d)):=by
 refine opt_tight hl hh id (fun a _=>?_) ?_
 ·unfold sgR
  rw[show backR 13=false from by decide]
  rfl
 ·rw[mid_13]
  exact((((((straight_free.less (x:=0) (y:=1) (by decide) (by decide) 0).less (x:=2) (y:=3) (by decide) (by decide) 0).less (x:=0) (y:=2) (by decide) (by decide) 0).less (x:=2) (y:=0) (by decide) (by decide) 0).less (x:=1) (y:=3) (by decide) (by decide) 0).less (x:=3) (y:=1) (by decide) (by decide) 0).far (x:=0) (y:=2) (by decide) (by decide) lo hi
set_option maxHeartbeats 4000000 in
set_option maxRecDepth 100000 in
theorem bounds_13(lo hi:Int)(w:World)(hl:0≤lo∧lo≤1073741824)(hh: -1≤hi∧hi≤1073741824):
  Calls Tryz.prog 88 #[.agg #[.int .i64 13,.int .i64 lo,.int .i64 hi]] w (OnePost (optL 13 lo hi) w):=by
 have HT:=Lib.hid (tight_13 lo hi hl hh)
 go_enter Tryz.func88,Tryz.ntmps88
 go_wp2_with fail
 refine(freeMatrix_grid 4 (by omega) _).mono ?_
 rintro e w1 ⟨ao1,cap1,gs,rfl,hb1,hG1⟩
 have k0:=hb1.cell (p:=⟨w.heap.size,0,none⟩) (by simp)
 have k1:=hb1.cell (p:=⟨w.heap.size,1,none⟩) (by simp)
 have k2:=hb1.cell (p:=⟨w.heap.size,2,none⟩) (by simp)
 simp at k0 k1 k2
 have hs1:=hb1.size
 have hbw:Below w.heap.size w w1:=(Joins.below_alloc1 w _).trans (hb1.mono (by simp))
 simp only[World.size_alloc]at hs1 hG1
 have G1:=Lib.hid hG1
 clear hb1 hG1
 go_wp2_with fail
 refine(aheadS 0 1 0 hs1 k1 k2 hbw G1 (by omega) (by omega) (by omega)).mono ?_
 clear k1 k2 hbw G1
 rintro e w2 ⟨rfl,hs2,k1,k2,hbw,G2⟩
 go_wp2_with fail
 refine(aheadS 2 3 0 hs2 k1 k2 hbw G2 (by omega) (by omega) (by omega)).mono ?_
 clear k1 k2 hbw G2
 rintro e w3 ⟨rfl,hs3,k1,k2,hbw,G3⟩
 go_wp2_with fail
 refine(aheadS 0 2 0 hs3 k1 k2 hbw G3 (by omega) (by omega) (by omega)).mono ?_
 clear k1 k2 hbw G3
 rintro e w4 ⟨rfl,hs4,k1,k2,hbw,G4⟩
 go_wp2_with fail
 refine(aheadS 2 0 0 hs4 k1 k2 hbw G4 (by omega) (by omega) (by omega)).mono ?_
 clear k1 k2 hbw G4
 rintro e w5 ⟨rfl,hs5,k1,k2,hbw,G5⟩
 go_wp2_with fail
 refine(aheadS 1 3 0 hs5 k1 k2 hbw G5 (by omega) (by omega) (by omega)).mono ?_
 clear k1 k2 hbw G5
 rintro e w6 ⟨rfl,hs6,k1,k2,hbw,G6⟩
 go_wp2_with fail
 refine(aheadS 3 1 0 hs6 k1 k2 hbw G6 (by omega) (by omega) (by omega)).mono ?_
 clear k1 k2 hbw G6
 rintro e w7 ⟨rfl,hs7,k1,k2,hbw,G7⟩
 obtain⟨gp,hgp⟩: ∃ gp,Hid (gp=(lessG (lessG (lessG (lessG (lessG (lessG freeG 0 1 0) 2 3 0) 0 2 0) 2 0 0) 1 3 0) 3 1 0)):=⟨_,rfl⟩
 rw[←hgp.out]at G7 HT
 go_wp2_with fail
 refine(aheadS 0 2 lo hs7 k1 k2 hbw G7 (by omega) (by omega) (by omega)).mono ?_
 clear k1 k2 hbw
 rintro e wf ⟨rfl,hsf,k1,k2,hbw,GF⟩
 have hGf:=GF.out
 clear GF G7 hgp
 have hxy:Hid (0<4∧2<4):=⟨by omega,by omega⟩
 obtain⟨gf,hgf⟩: ∃ gf,Hid (gf=lessG gp 0 2 lo):=⟨_,rfl⟩
 rw[←hgf.out]at hGf
 have GF:=Lib.hid hGf
 have hmx:=hGf.max
 unfold maxLen at hmx
 obtain⟨hh1,hh2⟩:=hh
 obtain⟨Ai,rci,hAlt,hglt,hF,hne,h1,h2,hix,hcell,hent⟩:=hGf.at hxy.out.2
 obtain⟨e1,e2,e3⟩:=hent 0 hxy.out.1
 replace hix: ∀ wx,(Instr.indexAt 78 (.slice ao1 4 cap1) (.int .i64 2)).run Tryz.prog wx= .ok (.pointer (some ⟨Ai,2,none⟩)) wx:=hix
 replace e3: ∀ wx,(Instr.indexAt 26 (.slice (some ⟨gs 2,0,none⟩) 4 rci) (.int .i64 0)).run Tryz.prog wx= .ok (.pointer (some ⟨gs 2,0,none⟩)) wx:=e3
 clear hent hGf
 by_cases h0:0≤hi
 ·by_cases hst:hi<gf 2 0
  ·go_wp2_with fail
   go_quiet (fail)
   have hbx:Below w.heap.size w (wf.drewN nq):=hbw.trans (Joins.below_draws _ _ _)
   have GX:Hid (Grid (from_ (w.heap.size+1)) (wf.drewN nq) ao1 4 cap1 gs gf):=GF.out.below (Joins.below_draws _ _ _)
   have k3:(wf.drewN nq).cell? ⟨w.heap.size,2,none⟩=some (.int .i64 hi):=by simpa using k2
   clear hix hcell e1 e2 e3 GF hbw hAlt hglt hF hne h1 h2 k1 k2
   have hsx:w.heap.size+1≤(wf.drewN nq).heap.size:=by simp;omega
   generalize wf.drewN nq=wx at *
   obtain⟨Ai,rci,hAlt,hglt,hF,hne,h1,h2,hix,hcell,hent⟩:=GX.out.at hxy.out.2
   obtain⟨e1,e2,e3⟩:=hent 0 hxy.out.1
   replace hix: ∀ wx,(Instr.indexAt 78 (.slice ao1 4 cap1) (.int .i64 2)).run Tryz.prog wx= .ok (.pointer (some ⟨Ai,2,none⟩)) wx:=hix
   replace e3: ∀ wx,(Instr.indexAt 26 (.slice (some ⟨gs 2,0,none⟩) 4 rci) (.int .i64 0)).run Tryz.prog wx= .ok (.pointer (some ⟨gs 2,0,none⟩)) wx:=e3
   have GS:Hid (Grid (from_ (w.heap.size+1)) (wx.setCell ⟨gs 2,0,none⟩ (.int .i64 hi)).drew ao1 4 cap1 gs (farG gp 0 2 lo hi)):=by
    show Grid _ _ _ _ _ _ _
    have:=(GX.out.store hxy.out.2 hxy.out.1 hi).same (G:=from_ (w.heap.size+1)) Same.drew
    unfold farG
    rw[if_pos h0,←hgf.out,Int.min_eq_right (by omega)]
    exact this
   have hbS:Below w.heap.size w (wx.setCell ⟨gs 2,0,none⟩ (.int .i64 hi)).drew:=(hbx.setCell (p:=⟨gs 2,0,none⟩) (Nat.le_of_succ_le hF) _).drew
   have hsS:w.heap.size+1≤(wx.setCell ⟨gs 2,0,none⟩ (.int .i64 hi)).drew.heap.size:=by simp;omega
   clear hent hbx
   go_wp2_with fail
   go_still_tail 8,(by kernel_rfl)
   change wpList _ _ _ _ _ wx.drew
   go_wp2_with fail
   have hend: ∀ wz,Hid (wz=(wx.setCell ⟨gs 2,0,none⟩ (.int .i64 hi)).drew)→Calls Tryz.prog 61 #[.slice ao1 4 cap1] wz (OneEx 13 lo hi w):=fun wz hz=>by
    have h:=hz.out
    subst h
    exact bounds_fin hbS hsS GS.out HT.out
   refine(hend _ rfl).mono ?_
   rintro e wz ⟨v,c,rfl,hP⟩
   go_wp2
   go_ret2
   exact hP.out
  ·go_wp2_with fail
   go_quiet (fail)
   have hbx:Below w.heap.size w (wf.drewN nq):=hbw.trans (Joins.below_draws _ _ _)
   have GS:Hid (Grid (from_ (w.heap.size+1)) (wf.drewN nq) ao1 4 cap1 gs (farG gp 0 2 lo hi)):=by
    show Grid _ _ _ _ _ _ _
    refine(GF.out.below (Joins.below_draws _ _ _)).congr fun a b _ _=>?_
    unfold farG setB
    rw[if_pos h0,←hgf.out,Int.min_eq_left (by omega)]
    split
    ·rename_i e;rw[e.1,e.2]
    ·rfl
   have hsx:w.heap.size+1≤(wf.drewN nq).heap.size:=by simp;omega
   clear hix hcell e1 e2 e3 GF hbw hAlt hglt hF hne h1 h2 k1 k2
   generalize wf.drewN nq=wx at *
   go_wp2_with fail
   refine(bounds_fin hbx hsx GS.out HT.out).mono ?_
   rintro e wz ⟨v,c,rfl,hP⟩
   go_wp2
   go_ret2
   exact hP.out
 ·have hm1:hi= -1:=by omega
  subst hm1
  go_wp2_with fail
  go_quiet (fail)
  have hbx:Below w.heap.size w (wf.drewN nq):=hbw.trans (Joins.below_draws _ _ _)
  have GS:Hid (Grid (from_ (w.heap.size+1)) (wf.drewN nq) ao1 4 cap1 gs (farG gp 0 2 lo (-1))):=by
   show Grid _ _ _ _ _ _ _
   unfold farG
   rw[if_neg (by decide),←hgf.out]
   exact GF.out.below (Joins.below_draws _ _ _)
  have hsx:w.heap.size+1≤(wf.drewN nq).heap.size:=by simp;omega
  clear hix hcell e1 e2 e3 GF hbw hAlt hglt hF hne h1 h2 k1 k2
  generalize wf.drewN nq=wx at *
  go_wp2_with fail
  refine(bounds_fin hbx hsx GS.out HT.out).mono ?_
  rintro e wz ⟨v,c,rfl,hP⟩
  go_wp2
  go_ret2
  exact hP.out
theorem bounds_any(r lo hi:Int)(w:World)(hr:1≤r∧r≤13)(hl:0≤lo∧lo≤1073741824)(hh: -1≤hi∧hi≤1073741824):
  Calls Tryz.prog 88 #[.agg #[.int .i64 r,.int .i64 lo,.int .i64 hi]] w (OnePost (optL r lo hi) w):=by
 rcases thirteen hr with rfl|rfl|rfl|rfl|rfl|rfl|rfl|rfl|rfl|rfl|rfl|rfl|rfl
 ·exact bounds_1 lo hi w hl hh
 ·exact bounds_2 lo hi w hl hh
 ·exact bounds_3 lo hi w hl hh
 ·exact bounds_4 lo hi w hl hh
 ·exact bounds_5 lo hi w hl hh
 ·exact bounds_6 lo hi w hl hh
 ·exact bounds_7 lo hi w hl hh
 ·exact bounds_8 lo hi w hl hh
 ·exact bounds_9 lo hi w hl hh
 ·exact bounds_10 lo hi w hl hh
 ·exact bounds_11 lo hi w hl hh
 ·exact bounds_12 lo hi w hl hh
 ·exact bounds_13 lo hi w hl hh
end Go.Proofs.YtncmghnhfipklaaGreatDoor
