/-
  A square matrix of one's own as an entry of own memory.
-/
import Derived.Test.YtncmghnhfipklaaGreatDoorPu13
import Derived.Test.YtncmghnhfipklaaGreatDoorPu01
import Derived.Test.YtncmghnhfipklaaGreatDoorPu03
import Derived.Deep.Quiet
import Derived.Test.YtncmghnhfipklaaGreatDoorPu14
namespace Go.Proofs.YtncmghnhfipklaaGreatDoor
open Go.RowKit
set_option linter.unusedVariables false
set_option linter.unusedSimpArgs false
def gblk(A n:Nat)(gs:Nat→Nat):Nat→Prop:=fun y=>0<n∧(y=A∨ ∃ r,r<n∧y=gs r)
structure GridX (w:World) (A n cap:Nat) (gs rcs:Nat→Nat) (g:Mx):Prop where
 grid:Grid (gblk A n gs) w (some ⟨A,0,none⟩) n cap gs g
 row: ∀ r,r<n→w.cell? ⟨A,r,none⟩=some (.slice (some ⟨gs r,0,none⟩) n (rcs r))∧n≤rcs r∧rcs r≤9223372036854775807
def grd(A n cap:Nat)(gs rcs:Nat→Nat)(g:Mx):Ent:=⟨gblk A n gs,fun _ w=>GridX w A n cap gs rcs g⟩
section
variable {ao:Option Addr} {A n cap:Nat} {gs rcs:Nat→Nat} {g:Mx} {w w' :World} {F:Nat→Prop}
theorem GridX.in_(h:GridX w A n cap gs rcs g){y:Nat}(hy:gblk A n gs y):y<w.heap.size:=by
 obtain⟨hn,hy⟩:=hy
 rcases hy with rfl|⟨r,hr,rfl⟩
 ·obtain⟨A',rc,cur,e',hA,hne,hlt, -⟩:=h.grid.row 0 hn
  injection e' with e'
  injection e' with e'
  subst e'
  exact hlt
 ·obtain⟨A',rc,cur,e,hA,hne,hlt,hc,h1,h2,hh,hcur,hF⟩:=h.grid.row r hr
  exact(Array.getElem?_eq_some_iff.1 hh).1
theorem GridX.same(h:GridX w A n cap gs rcs g)(hs:Same (gblk A n gs) (gblk A n gs) w w'):GridX w' A n cap gs rcs g:=by
 refine⟨h.grid.same hs,fun r hr=>⟨?_,(h.row r hr).2⟩⟩
 have hm:gblk A n gs A:=⟨by omega,.inl rfl⟩
 exact(World.cell?_of_block (w:=w) (a:=⟨A,r,none⟩) (hs.2 A hm (h.in_ hm)).2).trans (h.row r hr).1
theorem Grid.fix(h:Grid F w ao n cap gs g)(hn:0<n): ∃ A rcs,ao=some ⟨A,0,none⟩∧GridX w A n cap gs rcs g∧ ∀ y,gblk A n gs y→F y∧y<w.heap.size:=by
 obtain⟨A,rc0,cur0,e,hA0,hne0,hlt0, -⟩:=h.row 0 hn
 subst e
 have key: ∀ r,∃ rc,r<n→F (gs r)∧gs r<w.heap.size∧w.cell? ⟨A,r,none⟩=some (.slice (some ⟨gs r,0,none⟩) n rc)∧n≤rc∧rc≤maxLen:=fun r=>by
  by_cases hr:r<n
  ·obtain⟨A',rc,cur,e,hA,hne,hlt,hc,h1,h2,hh,hcur,hF⟩:=h.row r hr
   injection e with e
   injection e with e
   subst e
   exact⟨rc,fun _=>⟨hF,(Array.getElem?_eq_some_iff.1 hh).1,hc,h1,h2⟩⟩
  ·exact⟨0,fun h=>absurd h hr⟩
 obtain⟨rcs,hk⟩:=Classical.axiomOfChoice key
 refine⟨A,rcs,rfl,⟨⟨h.le,h.max,h.nil,fun r hr=>?_,h.apart⟩,fun r hr=>⟨(hk r hr).2.2.1,(hk r hr).2.2.2.1,(hk r hr).2.2.2.2⟩⟩,fun y hy=>?_⟩
 ·obtain⟨A',rc,cur,e,hA,hne,hlt,hc,h1,h2,hh,hcur,hF⟩:=h.row r hr
  injection e with e
  injection e with e
  subst e
  exact⟨A,rc,cur,rfl,⟨hn,.inl rfl⟩,hne,hlt,hc,h1,h2,hh,hcur,⟨hn,.inr ⟨r,hr,rfl⟩⟩⟩
 ·rcases hy.2 with rfl|⟨r,hr,rfl⟩
  ·exact⟨hA0,hlt0⟩
  ·exact⟨(hk r hr).1,(hk r hr).2.1⟩
theorem grd_firm:(grd A n cap gs rcs g).firm:=fun F G w w' hsz _ hz hlt h=>GridX.same h ⟨hsz,fun k hk hkl=>⟨hk,hz k hk hkl⟩⟩
theorem GridX.ixA(h:GridX w A n cap gs rcs g){i:Nat}(hi:i<n)(wx:World):(Instr.indexAt 78 (.slice (some ⟨A,0,none⟩) n cap) (.int .i64 i)).run Tryz.prog wx= .ok (.pointer (some ⟨A,i,none⟩)) wx:=by
 have hle:=h.grid.le
 simp[Instr.indexAt,run_underlying Tryz.underlying78,asIntOf,size_ints wx,Addr.add]
 rw[if_pos (by omega)]
 by_cases e0:i=0
 ·rw[if_pos e0,e0]
 ·rw[if_neg e0]
theorem GridX.ixR(h:GridX w A n cap gs rcs g){i j:Nat}(hi:i<n)(hj:j<n)(wx:World):(Instr.indexAt 26 (.slice (some ⟨gs i,0,none⟩) n (rcs i)) (.int .i64 j)).run Tryz.prog wx= .ok (.pointer (some ⟨gs i,j,none⟩)) wx:=by
 have hle:=(h.row i hi).2.1
 simp[Instr.indexAt,run_underlying Tryz.underlying26,asIntOf,size_int wx,Addr.add]
 rw[if_pos (by omega)]
 by_cases e0:j=0
 ·rw[if_pos e0,e0]
 ·rw[if_neg e0]
theorem GridX.val(h:GridX w A n cap gs rcs g){i j:Nat}(hi:i<n)(hj:j<n):w.cell? ⟨gs i,j,none⟩=some (.int .i64 (g i j)):=by
 obtain⟨A',rc,cur,e,hA,hne,hlt,hc,h1,h2,hh,hcur,hF⟩:=h.grid.row i hi
 simp only[World.cell?,hh]
 simpa using hcur j hj
theorem GridX.frz(h:GridX w A n cap gs rcs g){i:Nat}(hi:i<n)(j:Nat):w.frozen? ⟨gs i,j,none⟩=false:=by
 obtain⟨A',rc,cur,e,hA,hne,hlt,hc,h1,h2,hh,hcur,hF⟩:=h.grid.row i hi
 exact Lib.frozen_of_heap hh j
theorem GridX.ne(h:GridX w A n cap gs rcs g){i:Nat}(hi:i<n):gs i≠A:=by
 obtain⟨A',rc,cur,e,hA,hne,hlt,hc,h1,h2,hh,hcur,hF⟩:=h.grid.row i hi
 injection e with e
 injection e with e
 subst e
 exact hne
theorem GridX.store(h:GridX w A n cap gs rcs g){i j:Nat}(hi:i<n)(hj:j<n)(v:Int):GridX (w.setCell ⟨gs i,j,none⟩ (.int .i64 v)) A n cap gs rcs (setB g i j v):=
 ⟨h.grid.store hi hj v,fun r hr=>⟨by rw[World.cell?_setCell_other _ _ _ _ (by intro e;injection e with e1;exact h.ne hi e1)];exact(h.row r hr).1,(h.row r hr).2⟩⟩
end
section
variable {At:PS→World→Prop} {b:Nat} {u w w' :World} {s:PS} {L:List Ent} {ao:Option Addr} {A n cap:Nat} {gs rcs:Nat→Nat} {g:Mx}
theorem Mem.grid(M:Mem At b u w s L)(hb:Below w.heap.size w w')(h:GridX w' A n cap gs rcs g)(hf: ∀ y,gblk A n gs y→w.heap.size≤y∧y<w'.heap.size):Mem At b u w' s (grd A n cap gs rcs g::L):=
 M.push hb grd_firm (fun z hz=>hf z hz) (fun G _=>h)
theorem Mem.grid_{i:Nat}(M:Mem At b u w s L)(hi:L[i]?=some (grd A n cap gs rcs g)):GridX w A n cap gs rcs g:=M.say _ (Mem.of_get hi)
theorem Mem.grow{i r:Nat}(M:Mem At b u w s L)(hi:L[i]?=some (grd A n cap gs rcs g))(hr:r<n):w.cell? ⟨A,r,none⟩=some (.slice (some ⟨gs r,0,none⟩) n (rcs r)):=((M.grid_ hi).row r hr).1
theorem Mem.gval{i r c:Nat}(M:Mem At b u w s L)(hi:L[i]?=some (grd A n cap gs rcs g))(hr:r<n)(hc:c<n):w.cell? ⟨gs r,c,none⟩=some (.int .i64 (g r c)):=(M.grid_ hi).val hr hc
theorem Mem.gput{i r c:Nat}(M:Mem At b u w s L)(hi:L[i]?=some (grd A n cap gs rcs g))(hr:r<n)(hc:c<n)(v:Int):Mem At b u (w.setCell ⟨gs r,c,none⟩ (.int .i64 v)) s (L.set i (grd A n cap gs rcs (setB g r c v))):=by
 have G:=M.grid_ hi
 have hmem:gblk A n gs (gs r):=⟨by omega,.inr ⟨r,hr,rfl⟩⟩
 have hlow:=M.low _ (Mem.of_get hi) (gs r) hmem
 have hbl:=M.lt
 have hrest: ∀ k,k≠gs r→(w.setCell ⟨gs r,c,none⟩ (.int .i64 v)).heap[k]?=w.heap[k]?:=fun k hk=>Below.heap_setCell _ _ _ _ hk
 refine M.setAt hi (M.stay s w _ (hrest b (by omega)) M.at_) (M.but.put hlow.1 hbl _) (by simp) (fun k _ _ hk=>hrest k (fun e=>hk (by rw[e];exact hmem))) grd_firm (fun z hz=>?_) (fun z hz=> .inr hz) (fun F _ _=>(G.store hr hc v))
 have:=M.low _ (Mem.of_get hi) z hz
 exact⟨this.1,by simpa using this.2⟩
end
section
variable {P:Program} {dst:Option Tmp} {oty:TypeId} {pos:String} {after:Array Edge} {gu:Option (Nat×Bool)} {l l' :List Value} {ds:List Deferred} {Q:Exit→Act→World→Prop} {K:Act→World→Prop}
variable {At:PS→World→Prop} {b:Nat} {u w:World} {s:PS} {L:List Ent} {ty A n cap i j:Nat} {gs rcs:Nat→Nat} {g:Mx} {y:Operand}
theorem q_gput{r c:Nat}{v:Int}(M:Mem At b u w s L)(hi:L[i]?=some (grd A n cap gs rcs g))(hr:r<n)(hc:c<n)[hx:Nth l j (.pointer (some ⟨gs r,c,none⟩))][hy:EvI l y (.int .i64 v)][hT:OneI P ty][hd:PutI l dst undef l'](h: ∀ w',Mem At b u w' s (L.set i (grd A n cap gs rcs (setB g r c v)))→K ⟨l'.toArray,ds⟩ w'):OWP P ⟨dst,.store ty (.tmp j) y,oty,pos,after,gu⟩ ⟨l.toArray,ds⟩ w K Q:=by
 have G:=M.grid_ hi
 have hrun:=run_store_one (b:=gs r) (p:=c) (v:=Value.int .i64 v) hT.one (by rw[G.val hr hc];rfl) (G.frz hr c) rfl
 refine owp_of ?_
 unfold Oper.wp execOp
 simp only[eval_tmp hx.nth,hy.ev,Instr.storeAt,Instr.sureAddr,Sem.run_bind,Sem.run_pure,Result.andThen_ok,hrun]
 have:=h _ (M.gput hi hr hc v)
 simp only[Oper.upon]
 rw[hd.put]
 exact this
end
section
variable {At:PS→World→Prop} {b g:Nat} {u w w' :World} {s s' :PS} {L L' :List Ent}
theorem Mem.graft(M:Mem At b u w s L)(M' :Mem (StaysB g w) g w w' s' L'):Mem At b u w' s (L' ++L):=by
 have M1:=M.below M'.new
 have hsz:=M.size
 have hin: ∀ e∈L,∀ k,e.blk k→k<w.heap.size:=fun e he k hk=>(M.low e he k hk).2
 have hout: ∀ e∈L',∀ k,e.blk k→w.heap.size≤k∧k<w'.heap.size:=fun e he k hk=>M'.low e he k hk
 have hfree: ∀ k,free_ w w' L' k→free_ u w' (L' ++L) k:=fun k hk=>⟨Nat.le_trans hsz hk.1,hk.2.1,fun e he hek=>by
  rcases List.mem_append.1 he with h|h
  ·exact hk.2.2 e h hek
  ·have:=hin e h k hek;have:=hk.1;omega⟩
 have hfree2: ∀ k,k<w.heap.size→free_ u w L k→free_ u w' (L' ++L) k:=fun k hkl hk=>⟨hk.1,Nat.lt_of_lt_of_le hk.2.1 M'.new.size,fun e he hek=>by
  rcases List.mem_append.1 he with h|h
  ·have:=(hout e h k hek).1;omega
  ·exact hk.2.2 e h hek⟩
 refine⟨M1.at_,M1.stay,M1.but,M1.lt,fun e he=>?_,fun e he=>?_,fun e he z hz=>?_,?_⟩
 ·rcases List.mem_append.1 he with h|h
  ·exact M'.firm e h _ _ w' w' (Nat.le_refl _) (fun k _ hk=>⟨hfree k hk,rfl⟩) (fun z _ _=>rfl) (fun z hz=>(hout e h z hz).2) (M'.say e h)
  ·exact M.firm e h _ _ w w' M'.new.size (fun k hkl hk=>⟨hfree2 k hkl hk,M'.new.block k hkl⟩) (fun z hz hlt=>M'.new.block z hlt) (fun z hz=>hin e h z hz) (M.say e h)
 ·rcases List.mem_append.1 he with h|h
  ·exact M'.firm e h
  ·exact M.firm e h
 ·rcases List.mem_append.1 he with h|h
  ·exact⟨Nat.le_trans hsz (hout e h z hz).1,(hout e h z hz).2⟩
  ·exact M1.low e h z hz
 ·refine List.pairwise_append.2 ⟨M'.apart,M.apart,fun e he f hf z hz hfz=>?_⟩
  have h1:=(hout e he z hz).1
  have h2:=hin f hf z hfz
  omega
end
end Go.Proofs.YtncmghnhfipklaaGreatDoor
/-
  Regions that draw, where every operation reads, reckons, or calls what leaves the elder blocks alone: one walk of the lexical order serves them all.
-/
namespace Go.Proofs.YtncmghnhfipklaaGreatDoor
open Go.RowKit
set_option linter.unusedVariables false
set_option linter.unusedSimpArgs false
@[irreducible] def QSP (P:Program) (o:Oper) (a:Act) (C:World→Prop) (K:Act→Prop):Prop:=o.quiet P a C K
theorem qsp_eq{P:Program}{o:Oper}{a:Act}{C:World→Prop}{K:Act→Prop}:QSP P o a C K=o.quiet P a C K:=by unfold QSP;rfl
theorem qsp_of{P:Program}{o:Oper}{a:Act}{C:World→Prop}{K:Act→Prop}(h:o.quiet P a C K):QSP P o a C K:=qsp_eq▸h
theorem qsp_out{P:Program}{o:Oper}{a:Act}{C:World→Prop}{K:Act→Prop}(h:QSP P o a C K):o.quiet P a C K:=qsp_eq▸h
section
variable {P:Program} {ops:Array Oper} {opsl rest:List Oper} {o:Oper} {a:Act} {C:World→Prop} {Q:Act→Prop} {K:Act→Prop} {dst:Option Tmp} {op:Op} {oty:TypeId} {pos:String} {after:Array Edge} {g:Option (Nat×Bool)} {gi:Nat} {want:Bool} {t:Tmp} {l l' :List Value} {ds:List Deferred}
theorem c_load{d:Nat}{ty:TypeId}{x:Operand}{x0:Value}[h0:Nth l d x0](hi: ∃ w,C w)(h: ∀ w,C w→OWP P ⟨some d,.load ty x,oty,pos,after,g⟩ ⟨l.toArray,ds⟩ w (fun a' w' =>w' =w∧a' =⟨l'.toArray,ds⟩) (fun _ _ _=>False))(hk:K ⟨l'.toArray,ds⟩):QSP P ⟨some d,.load ty x,oty,pos,after,g⟩ ⟨l.toArray,ds⟩ C K:=by
 have hl:d<l.length:=(List.getElem?_eq_some_iff.1 h0.nth).1
 have key: ∀ w,C w→ ∃ y,(Instr.loadAt ty (Act.eval ⟨l.toArray,ds⟩ x)).run P w= .ok y w∧l' =l.set d y:=fun w hw=>by
  have h2:=owp_out (h w hw)
  unfold Oper.wp execOp at h2
  simp only[Sem.run_bind]at h2
  cases hr:(Instr.loadAt ty (Act.eval ⟨l.toArray,ds⟩ x)).run P w with
  |ok y w' =>
   rw[hr]at h2
   simp only[Result.andThen_ok,Sem.run_pure]at h2
   obtain⟨e1,e2⟩:=h2
   refine⟨y,by rw[e1],?_⟩
   simp only[Act.put,Act.mk.injEq,and_true]at e2
   have e3:=congrArg Array.toList e2
   simpa using e3.symm
  |halt e w' =>
   rw[hr]at h2
   revert h2
   cases e<;>(intro h2;exact absurd h2 (by simp[Result.andThen,Oper.upon]))
 obtain⟨w0,hw0⟩:=hi
 obtain⟨y0, -,e0⟩:=key w0 hw0
 refine qsp_of ⟨y0,fun w hw=>?_,by rw[put_set,←e0];exact hk⟩
 obtain⟨y,hr,e⟩:=key w hw
 unfold Oper.quietAt execOp
 simp only[Sem.run_bind,hr,Result.andThen_ok,Sem.run_pure]
 refine⟨rfl,?_⟩
 have e3:=congrArg (fun x:List Value=>x[d]?) (e.symm.trans e0)
 simpa[hl]using e3
end
section
variable {P:Program} {At:PS→World→Prop} {b:Nat} {u w:World} {s:PS} {L:List Ent}
end
end Go.Proofs.YtncmghnhfipklaaGreatDoor
/-
  What plans read out of a matrix: small functions of the program and of the reference. Printed by plg.py.
-/
namespace Go.Proofs.YtncmghnhfipklaaGreatDoor
open Go.RowKit
set_option linter.unusedVariables false
set_option linter.unusedSimpArgs false
def LinesAt(w0:World)(ao:Option Addr)(n cap:Nat)(g:Mx):Prop:=
 ∀ i,i<n→ ∃ A off ra rc,(∀ wx,(Instr.indexAt 78 (.slice ao n cap) (.int .i64 i)).run Tryz.prog wx= .ok (.pointer (some ⟨A,off+i,none⟩)) wx)∧
  (∀ wx,Below w0.heap.size w0 wx→wx.cell? ⟨A,off+i,none⟩=some (.slice ra n rc))∧ ∀ j,j<n→ ∃ B o,(∀ wx,(Instr.indexAt 26 (.slice ra n rc) (.int .i64 j)).run Tryz.prog wx= .ok (.pointer (some ⟨B,o+j,none⟩)) wx)∧
   ∀ wx,Below w0.heap.size w0 wx→wx.cell? ⟨B,o+j,none⟩=some (.int .i64 (g i j))
theorem LinesAt.below{w0 w1:World}{ao:Option Addr}{n cap:Nat}{g:Mx}(h:LinesAt w0 ao n cap g)(hb:Below w0.heap.size w0 w1):LinesAt w1 ao n cap g:=fun i hi=>by
 obtain⟨A,off,ra,rc,h1,h2,h3⟩:=h i hi
 refine⟨A,off,ra,rc,h1,fun wx hx=>h2 wx (hb.trans (hx.mono hb.size)),fun j hj=>?_⟩
 obtain⟨B,o,h4,h5⟩:=h3 j hj
 exact⟨B,o,h4,fun wx hx=>h5 wx (hb.trans (hx.mono hb.size))⟩
theorem pstart_any(n:Nat)(hn:n≤1000)(w:World):Calls Tryz.prog 77 #[.int .i64 n] w fun e w' =>e= .returned (.int .i64 ((2*n:Nat):Int))∧Below w.heap.size w w' :=by
 go_enter Tryz.func77,Tryz.ntmps77
 go_wp2
 go_ret
 exact⟨rfl,Below.refl _ _⟩
theorem pend_any(n:Nat)(hn:n≤1000)(w:World):Calls Tryz.prog 26 #[.int .i64 n] w fun e w' =>e= .returned (.int .i64 ((2*n+1:Nat):Int))∧Below w.heap.size w w' :=by
 go_enter Tryz.func26,Tryz.ntmps26
 go_wp2
 go_ret
 exact⟨rfl,Below.refl _ _⟩
theorem later_any(b n:Int)(hb: -4611686018427387904≤b∧b≤NOB)(hn:0≤n∧n≤NOB)(w:World):Calls Tryz.prog 24 #[.int .i64 b,.int .i64 n] w fun e w' =>e= .returned (.int .i64 (plusF b n))∧Below w.heap.size w w' :=by
 unfold NOB at hb hn
 unfold plusF NOB
 by_cases h:b=1152921504606846976
 ·subst h
  go_enter Tryz.func24,Tryz.ntmps24
  go_wp2
  go_ret
  exact⟨rfl,Below.refl _ _⟩
 ·rw[if_neg h]
  have hq:(b==1152921504606846976)=false:=by simpa using h
  go_enter Tryz.func24,Tryz.ntmps24
  go_wp2
  all_goals(go_ret;exact⟨ret_int (by omega),Below.refl _ _⟩)
theorem rplus_any(b n:Int)(hb: -4611686018427387904≤b∧b≤NOB)(hn:0≤n∧n≤NOB)(w:World):Calls Tryz.prog 33 #[.int .i64 b,.int .i64 n] w fun e w' =>e= .returned (.int .i64 (plusF b n))∧Below w.heap.size w w' :=by
 unfold NOB at hb hn
 unfold plusF NOB
 by_cases h:b=1152921504606846976
 ·subst h
  go_enter Tryz.func33,Tryz.ntmps33
  go_wp2
  go_ret
  exact⟨rfl,Below.refl _ _⟩
 ·rw[if_neg h]
  have hq:(b==1152921504606846976)=false:=by simpa using h
  by_cases h0:b+n<0
  ·go_enter Tryz.func33,Tryz.ntmps33
   go_wp2
   go_ret
   exact⟨ret_int (by omega),Below.refl _ _⟩
  ·go_enter Tryz.func33,Tryz.ntmps33
   go_wp2
   go_ret
   exact⟨ret_int (by omega),Below.refl _ _⟩
end Go.Proofs.YtncmghnhfipklaaGreatDoor
/-
  Regions that draw: what reads (or reckons) is taken first, whatever the order; what is left comes in one order: one walk.
-/
namespace Go.Proofs.YtncmghnhfipklaaGreatDoor
open Go.RowKit
set_option linter.unusedVariables false
set_option linter.unusedSimpArgs false
section
variable {P:Program} {ops:Array Oper} {md:Region.Mode} {C:World→Prop} {Q:Exit→Act→World→Prop}
def ReadsV(P:Program)(ops:Array Oper)(C:World→Prop)(o:Oper)(v:Value)(a:Act):Prop:=
 Region.wanted o (yielded ops a.tmps)=true∧ ∀ w,C w→(execOp a.eval o).run P w= .ok (.value v) w
def depB(md:Region.Mode)(ops:Array Oper):Nat→Nat→Nat→Bool
 |0,_,_=>false
 |f+1,j,i=>match ops[j]? with|none=>false|some o=>o.after.any fun e=>Region.binds md e&&(e.on==i||depB md ops f e.on i)
def need(md:Region.Mode)(ops:Array Oper)(fs:List Nat)(j:Nat):Bool:=fs.any fun i=>!(depB md ops ops.size j i)
def Closed(md:Region.Mode)(ops:Array Oper)(listed:Array Bool):Prop:= ∀ k o,ops[k]?=some o→listed.getD k false=true→ ∀ e∈o.after,Region.binds md e=true→listed.getD e.on false=true
theorem getD_true_of{listed:Array Bool}{i:Nat}(h:listed.getD i true=false):listed.getD i false=false:=by
 rcases Nat.lt_or_ge i listed.size with h' |h'
 ·simp[h']at h ⊢;exact h
 ·simp[Array.getElem?_eq_none h']at h
theorem dep_none{md:Region.Mode}{ops:Array Oper}{listed:Array Bool}(hc:Closed md ops listed){i:Nat}(hi:listed.getD i false=false): ∀ (f j:Nat),(∀ o,ops[j]?=some o→ ∀ e∈o.after,Region.binds md e=true→listed.getD e.on false=true)→depB md ops f j i=false
 |0,_,_=>rfl
 |f+1,j,h=>by
  unfold depB
  cases ho:ops[j]? with
  |none=>rfl
  |some o=>
   simp only
   rw[Array.any_eq_false']
   intro e he q
   rw[Bool.and_eq_true,Bool.or_eq_true,beq_iff_eq]at q
   have h1:=h o ho e he q.1
   rcases q.2 with q2|q2
   ·rw[q2,hi]at h1;cases h1
   ·rw[dep_none hc hi f e.on (fun o' ho' e' he' hb' =>hc _ o' ho' h1 e' he' hb')]at q2;cases q2
theorem closed_start{md:Region.Mode}{ops:Array Oper}{n:Nat}:Closed md ops (Array.replicate n false):=fun k o _ h=>by
 rcases Nat.lt_or_ge k n with h' |h' <;>simp[h']at h
theorem closed_step{md:Region.Mode}{ops:Array Oper}{listed:Array Bool}(hc:Closed md ops listed){j:Nat}(hj:j∈Region.ready md ops listed):Closed md ops (listed.setIfInBounds j true):=fun k o ho hk e he hb=>by
 obtain⟨-,oj,hoj,hall⟩:=mem_ready.1 hj
 refine getD_set_true ?_
 by_cases hkj:j=k
 ·subst hkj
  obtain rfl:o=oj:=by rw[hoj]at ho;injection ho with ho;exact ho.symm
  exact hall e he hb
 ·rw[getD_set_ne false hkj]at hk
  exact hc k o ho hk e he hb
def wpAnyC(P:Program)(md:Region.Mode)(ops:Array Oper)(fs:List Nat)(C:World→Prop)(Q:Exit→Act→World→Prop):Nat→Array Bool→Act→World→Prop
 |0,listed,a,w=>Region.ready md ops listed=[]∧Q .normal a w
 |f+1,listed,a,w=>(Region.ready md ops listed=[]→Q .normal a w)∧ ∀ i∈Region.ready md ops listed,wpOp P ops Q i (fun a' w' =>(need md ops fs i=true→C w')∧wpAnyC P md ops fs C Q f (listed.setIfInBounds i true) a' w') a w
theorem wpAny_of_C{fs:List Nat}: ∀ (f:Nat) (listed:Array Bool) (a:Act) (w:World),wpAnyC P md ops fs C Q f listed a w→wpAny P md ops Q f listed a w
 |0,_,_,_,h=>h
 |f+1,_,_,_,h=>⟨h.1,fun i hi=>wpOp_mono (fun a' w' h' =>wpAny_of_C f _ a' w' h'.2) (h.2 i hi)⟩
theorem ReadsV.of_same{o:Oper}{v:Value}{a a' :Act}(hy:ReadsV P ops C o v a)(he:execOp a'.eval o=execOp a.eval o)
  (hw:Region.wanted o (yielded ops a'.tmps)=Region.wanted o (yielded ops a.tmps)):ReadsV P ops C o v a' :=by
 unfold ReadsV at *
 rw[he,hw]
 exact hy
theorem ReadsV.wpOp{i:Nat}{o:Oper}{v:Value}{a:Act}(hi:ops[i]?=some o)(hy:ReadsV P ops C o v a){K:Act→World→Prop}{w:World}(hC:C w)(h:K (a.put o.dst v) w):wpOp P ops Q i K a w:=by
 unfold Go.wpOp
 simp only[hi]
 simp only[hy.1,if_true,Oper.wp,hy.2 w hC,Oper.upon]
 exact .inl h
theorem wpOpC_put{j:Nat}{oi oj:Oper}{v:Value}(hj:ops[j]?=some oj)(hap:oi.apart ops oj=true)
  (hsi: ∀ cs b,oi.op≠ .select cs b)(hsj: ∀ cs b,oj.op≠ .select cs b)
  (hQ: ∀ c a w,Q (.panic c) (a.put oi.dst v) w→Q (.panic c) a w){K:Act→World→Prop}{a:Act}{w:World}
  (hy:ReadsV P ops C oi v a)(h:wpOp P ops Q j K (a.put oi.dst v) w):
  wpOp P ops Q j (fun a' w' =>ReadsV P ops C oi v a' ∧K (a'.put oi.dst v) w') a w:=by
 obtain⟨h1,h2,h3⟩:=Oper.apart_spec hap
 have keep: ∀ (a:Act),ReadsV P ops C oi v a→ ∀ u,ReadsV P ops C oi v (a.put oj.dst u):=fun a hy u=>
  hy.of_same (execOp_put oi hsi a oj.dst u h3) (wanted_put oi a oj.dst u h3)
 have keepD: ∀ d,ReadsV P ops C oi v {a with defers:=d::a.defers}:=fun d=>hy.of_same rfl rfl
 unfold wpOp at *
 simp only[hj]at *
 rw[wanted_put oj a oi.dst v h1]at h
 split
 ·rename_i hw
  simp only[hw,if_true]at h
  rcases h with h|⟨hasks,hlets⟩
  case inr=>exact .inr ⟨by unfold Oper.asks at *;rw[execOp_put oj hsj a oi.dst v h1]at hasks;exact hasks,hlets⟩
  refine .inl ?_
  unfold Oper.wp at *
  rw[execOp_put oj hsj a oi.dst v h1]at h
  generalize (execOp a.eval oj).run P w=r at *
  cases r with
  |ok n w' =>
   cases n<;>simp only[Oper.upon]at h ⊢
   case value u=>exact⟨keep a hy u,by rw[←Act.put_comm a v u h2];exact h⟩
   case skip=>exact⟨keep a hy _,by rw[←Act.put_comm a v undef h2];exact h⟩
   case defer d=>
    refine⟨keep _ (keepD d) _,?_⟩
    rw[←Act.put_comm _ v undef h2,←Act.put_defers]
    exact h
   case enter f args=>
    refine Calls.mono h fun e w'' he=>?_
    cases e with
    |returned u=>exact⟨keep a hy u,by rw[←Act.put_comm a v u h2];exact he⟩
    |panicked c=>exact hQ _ _ _ he
    |outgrown=>exact he
   case row row args=>exact Rows.mono h fun u w'' he=>⟨keep a hy u,by rw[←Act.put_comm a v u h2];exact he⟩
  |halt x w' =>
   cases x<;>simp only[Oper.upon]at h ⊢
   case panic u=>exact hQ _ _ _ h
 ·rename_i hw
  simp only[hw]at h
  exact⟨keep a hy _,by rw[←Act.put_comm a v undef h2];exact h⟩
theorem wpAnyC_first{fs:List Nat}{i:Nat}{oi:Oper}{v:Value}(hfs:i∈fs)(hi:ops[i]?=some oi)(hsel: ∀ (j:Nat) (o:Oper) cs b,ops[j]?=some o→o.op≠ .select cs b)
  (hQ: ∀ c a w,Q (.panic c) (a.put oi.dst v) w→Q (.panic c) a w):
  ∀ (fuel:Nat) (listed:Array Bool) (a:Act) (w:World),Closed md ops listed→C w→
   (∀ j oj,ops[j]?=some oj→j≠i→listed.getD j true=false→(∀ e∈oj.after,Region.binds md e=true→e.on≠i)→oi.apart ops oj=true)→
   i∈Region.ready md ops listed→ReadsV P ops C oi v a→
   wpAnyC P md ops fs C Q fuel (listed.setIfInBounds i true) (a.put oi.dst v) w→wpAnyC P md ops fs C Q (fuel+1) listed a w:=by
 intro fuel
 induction fuel with
 |zero=>
  intro listed a w _ hC _ hr hy H
  refine⟨fun h=>(by rw[h]at hr;cases hr),fun j hj=>?_⟩
  by_cases hji:j=i
  ·subst hji;exact hy.wpOp hi hC ⟨fun _=>hC,H⟩
  ·have:=ready_mono hj hji
   rw[H.1]at this
   cases this
 |succ fuel ih=>
  intro listed a w hcl hC hfree hr hy H
  refine⟨fun h=>(by rw[h]at hr;cases hr),fun j hj=>?_⟩
  by_cases hji:j=i
  ·subst hji;exact hy.wpOp hi hC ⟨fun _=>hC,H⟩
  ·have h1:=H.2 j (ready_mono hj hji)
   obtain⟨hjun,oj,hoj,hall⟩:=mem_ready.1 hj
   have hnot: ∀ e∈oj.after,Region.binds md e=true→e.on≠i:=fun e he hb heq=>by
    have h1:=hall e he hb
    have h0:=(mem_ready.1 hr).1
    rw[heq]at h1
    rcases Nat.lt_or_ge i listed.size with h' |h'
    ·simp[h']at h0 h1;rw[h0]at h1;cases h1
    ·simp[Array.getElem?_eq_none h']at h1
   have h2:=wpOpC_put hoj (hfree j oj hoj hji hjun hnot) (fun cs b=>hsel i oi cs b hi) (fun cs b=>hsel j oj cs b hoj) hQ hy h1
   have hfree' : ∀ k ok,ops[k]?=some ok→k≠i→(listed.setIfInBounds j true).getD k true=false→
     (∀ e∈ok.after,Region.binds md e=true→e.on≠i)→oi.apart ops ok=true:=fun k ok hk hki hun hno=>by
    refine hfree k ok hk hki ?_ hno
    by_cases hjk:j=k
    ·subst hjk;exact hjun
    ·rw[getD_set_ne true hjk]at hun;exact hun
   have hneed:need md ops fs j=true:=by
    unfold need
    refine List.any_eq_true.2 ⟨i,hfs,?_⟩
    rw[dep_none hcl (getD_true_of (mem_ready.1 hr).1) _ j (fun o ho e he hb=>by
     obtain rfl:o=oj:=by rw[hoj]at ho;injection ho with ho;exact ho.symm
     exact hall e he hb)]
    rfl
   refine wpOp_mono (fun a' w' h3=>⟨h3.2.1,ih (listed.setIfInBounds j true) a' w' (closed_step hcl hj) (h3.2.1 hneed) hfree' (ready_mono hr (Ne.symm hji)) h3.1 ?_⟩) h2
   rw[Array.setIfInBounds_comm _ _ hji]
   exact h3.2.2
def wpMix(P:Program)(ops:Array Oper)(gs:List Nat)(C:World→Prop)(Q:Exit→Act→World→Prop):List (Bool×Nat)→Act→World→Prop
 |[],a,w=>Q .normal a w
 |(true,k)::ks,a,w=>C w∧ ∃ o v,ops[k]?=some o∧ReadsV P ops C o v a∧wpMix P ops gs C Q ks (a.put o.dst v) w
 |(false,k)::ks,a,w=>wpOp P ops Q k (fun a' w' =>(need .any ops gs k=true→C w')∧wpMix P ops gs C Q ks a' w') a w
def mixB(ops:Array Oper)(gs:List Nat):List (Bool×Nat)→Array Bool→Bool
 |[],listed=>(Region.ready .any ops listed).isEmpty
 |(true,k)::ks,listed=>gs.contains k&&((Region.ready .any ops listed).contains k&&Region.free .any ops listed k)&&mixB ops gs ks (listed.setIfInBounds k true)
 |(false,k)::ks,listed=>decide (Region.ready .any ops listed=[k])&&mixB ops gs ks (listed.setIfInBounds k true)
theorem wpAnyC_mix{gs:List Nat}(hs:Region.noSelect ops=true)(hQ: ∀ c t t' ds w,Q (.panic c) ⟨t,ds⟩ w→Q (.panic c) ⟨t',ds⟩ w):
  ∀ (ks:List (Bool×Nat)) (listed:Array Bool) (a:Act) (w:World),Closed .any ops listed→mixB ops gs ks listed=true→wpMix P ops gs C Q ks a w→wpAnyC P .any ops gs C Q ks.length listed a w
 |[],_,_,_,_,hB,h=>⟨by simpa[mixB]using hB,h⟩
 |(true,k)::ks,listed,a,w,hcl,hB,⟨hC,o,v,ho,hy,h⟩=>by
  simp only[mixB,Bool.and_eq_true]at hB
  obtain⟨⟨hg,hr,hf⟩,hB'⟩:=hB
  exact wpAnyC_first (by simpa using hg) ho (Region.noSelect_spec hs) (fun c a1 w1=>by cases o.dst with|none=>exact id|some d=>exact hQ c _ _ a1.defers w1) _ listed a w hcl hC (Region.free_spec ho hf) (by simpa using hr) hy (wpAnyC_mix hs hQ ks _ _ _ (closed_step hcl (by simpa using hr)) hB' h)
 |(false,k)::ks,listed,a,w,hcl,hB,h=>by
  simp only[mixB,Bool.and_eq_true,decide_eq_true_eq]at hB
  refine⟨fun h1=>(by rw[hB.1]at h1;cases h1),fun i hi=>?_⟩
  rw[hB.1]at hi
  have hik:i=k:=by simpa using hi
  subst hik
  exact wpOp_mono (fun a' w' h' =>⟨h'.1,wpAnyC_mix hs hQ ks _ a' w' (closed_step hcl (by rw[hB.1];exact hi)) hB.2 h'.2⟩) h
def regB(ops:Array Oper)(gs:List Nat)(ks:List (Bool×Nat)):Bool:=Region.noSelect ops&&decide (ks.length=ops.size)&&mixB ops gs ks (Array.replicate ops.size false)
end
@[irreducible] def RSP (P:Program) (ops:Array Oper) (o:Oper) (a:Act) (C:World→Prop) (K:Act→Prop):Prop:= ∃ v,ReadsV P ops C o v a∧K (a.put o.dst v)
theorem rsp_out{P:Program}{ops:Array Oper}{o:Oper}{a:Act}{C:World→Prop}{K:Act→Prop}(h:RSP P ops o a C K): ∃ v,ReadsV P ops C o v a∧K (a.put o.dst v):=by unfold RSP at h;exact h
theorem rsp_of{P:Program}{ops:Array Oper}{o:Oper}{a:Act}{C:World→Prop}{K:Act→Prop}(h: ∃ v,ReadsV P ops C o v a∧K (a.put o.dst v)):RSP P ops o a C K:=by unfold RSP;exact h
section
variable {P:Program} {opsl:List Oper} {gs:List Nat} {ks:List (Bool×Nat)} {k:Nat} {o:Oper} {a:Act} {C:World→Prop} {Q:Exit→Act→World→Prop} {w:World}
theorem m_read(ho:opsl[k]?=some o)(hC:C w)(h: ∀ K:Act→Prop,(∀ a,wpMix P opsl.toArray gs C Q ks a w→K a)→RSP P opsl.toArray o a C K):wpMix P opsl.toArray gs C Q ((true,k)::ks) a w:=by
 obtain⟨v,h1,h2⟩:=rsp_out (h _ fun _ h=>h)
 exact⟨hC,o,v,by simpa using ho,h1,h2⟩
theorem m_step(ho:opsl[k]?=some o)(hg:o.guard=none)(h: ∀ K:Act→World→Prop,(∀ a w,C w→wpMix P opsl.toArray gs C Q ks a w→K a w)→OWP P o a w K Q):wpMix P opsl.toArray gs C Q ((false,k)::ks) a w:=
 wpOp_step (by simpa using ho) fun K hK=>by rw[if_pos (wanted_none hg)];exact owp_out (h K fun a' w' h1 h2=>hK a' w' ⟨fun _=>h1,h2⟩)
theorem m_last(ho:opsl[k]?=some o)(hg:o.guard=none)(hn:need .any opsl.toArray gs k=false)(h: ∀ K:Act→World→Prop,(∀ a w,wpMix P opsl.toArray gs C Q ks a w→K a w)→OWP P o a w K Q):wpMix P opsl.toArray gs C Q ((false,k)::ks) a w:=
 wpOp_step (by simpa using ho) fun K hK=>by rw[if_pos (wanted_none hg)];exact owp_out (h K fun a' w' h2=>hK a' w' ⟨fun q=>(by rw[hn]at q;cases q),h2⟩)
theorem m_nil(h:Q .normal a w):wpMix P opsl.toArray gs C Q [] a w:=h
end
section
variable {P:Program} {ops:Array Oper} {C:World→Prop} {K:Act→Prop} {op:Op} {oty:TypeId} {pos:String} {after:Array Edge} {l l' :List Value} {ds:List Deferred} {o:Oper} {a:Act}
theorem r_pure{v:Value}(hg:o.guard=none)(hr: ∀ w,(execOp a.eval o).run P w= .ok (.value v) w)(h:K (a.put o.dst v)):RSP P ops o a C K:=
 rsp_of ⟨v,⟨wanted_none hg,fun w _=>hr w⟩,h⟩
theorem r_load{d:Nat}{ty:TypeId}{x:Operand}{x0:Value}[h0:Nth l d x0](hi: ∃ w,C w)(h: ∀ w,C w→OWP P ⟨some d,.load ty x,oty,pos,after,none⟩ ⟨l.toArray,ds⟩ w (fun a' w' =>w' =w∧a' =⟨l'.toArray,ds⟩) (fun _ _ _=>False))(hk:K ⟨l'.toArray,ds⟩):RSP P ops ⟨some d,.load ty x,oty,pos,after,none⟩ ⟨l.toArray,ds⟩ C K:=by
 have h1:=qsp_out (c_load (l' :=l') (K:=K) hi h hk)
 obtain⟨v,h2,h3⟩:=h1
 refine rsp_of ⟨v,⟨wanted_none rfl,fun w hw=>?_⟩,h3⟩
 have h4:=h2 w hw
 unfold Oper.quietAt execOp at h4
 unfold execOp
 simp only[Sem.run_bind]at h4 ⊢
 cases hr:(Instr.loadAt ty (Act.eval ⟨l.toArray,ds⟩ x)).run P w with
 |ok y w' =>
  rw[hr]at h4
  simp only[Result.andThen_ok,Sem.run_pure]at h4 ⊢
  obtain⟨e1,e2⟩:=h4
  rw[e1,e2]
 |halt e w' =>
  rw[hr]at h4
  exact absurd h4 (by cases e<;>simp[Result.andThen,Oper.quietUpon])
end
class SubI (K L:List Ent):Prop where
 sub:K.Sublist L
instance (priority:=1100){L:List Ent}:SubI L L:=⟨List.Sublist.refl L⟩
instance (priority:=1050){L:List Ent}:SubI [] L:=⟨List.nil_sublist L⟩
instance (priority:=1020){K L:List Ent}{e:Ent}[h:SubI K L]:SubI (e::K) (e::L):=⟨h.sub.cons_cons e⟩
instance {K L:List Ent}{e:Ent}[h:SubI K L]:SubI K (e::L):=⟨h.sub.cons e⟩
section
variable {P:Program} {At:PS→World→Prop} {b:Nat} {u w:World} {s:PS} {L:List Ent}
theorem Mem.sub{K L:List Ent}(M:Mem At b u w s L)(h:K.Sublist L):Mem At b u w s K:=by
 induction h with
 |slnil=>exact M
 |cons a _ ih=>exact ih M.drop
 |cons_cons a h ih=>
  have h1: ∀ (K L:List Ent),K.Sublist L→ ∀ A,Mem At b u w s (A++L)→Mem At b u w s (A++K):=by
   intro K L h
   induction h with
   |slnil=>exact fun _ M=>M
   |cons a _ ih=>exact fun A M=>ih A (M.cut A)
   |cons_cons a _ ih=>
    intro A M
    have:=ih (A++[a]) (by simpa using M)
    simpa using this
  exact h1 _ _ (h.cons_cons a) [] M
theorem Mem.kept{K L:List Ent}[h:SubI K L](M:Mem At b u w s L):Mem At b u w s K:=M.sub h.sub
theorem wp_region_first{K:List Ent}{id:Nat}{Q:Exit→Act→World→Prop}{a:Act}{l:List Oper}(gs:List Nat)(ks:List (Bool×Nat))(hKL: ∀ wx,Mem At b u wx s L→Mem At b u wx s K)(M:Mem At b u w s L)(hm:P.follows .mixedOrders=true)(hB:regB l.toArray gs ks=true)
  (hQ: ∀ c t t' ds w,Q (.panic c) ⟨t,ds⟩ w→Q (.panic c) ⟨t',ds⟩ w)
  (h: ∀ w',Mem At b u w' s L→wpMix P l.toArray gs (fun wx=>Mem At b u wx s K) Q ks a w'):(Code.region id l.toArray true).wp P Q a w:=by
 simp only[regB,Bool.and_eq_true,decide_eq_true_eq]at hB
 obtain⟨⟨h1,h2⟩,h3⟩:=hB
 refine wp_region_any hm (wpAny_of_C (fs:=gs) (C:=fun wx=>Mem At b u wx s K) _ _ _ _ ?_)
 rw[←h2]
 exact wpAnyC_mix h1 hQ ks _ _ _ closed_start (by rw[h2];exact h3) (h _ M.drew)
end
end Go.Proofs.YtncmghnhfipklaaGreatDoor
