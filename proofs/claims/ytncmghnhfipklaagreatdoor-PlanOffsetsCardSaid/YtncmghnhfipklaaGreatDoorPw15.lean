/-
  slices.Clone of patterns, and an append to what it gave.
-/
import Derived.Test.YtncmghnhfipklaaGreatDoorPw14
import Derived.Test.YtncmghnhfipklaaGreatDoorPw04
namespace Go.Proofs.YtncmghnhfipklaaGreatDoor
open Go.RowKit
set_option linter.unusedVariables false
set_option linter.unusedSimpArgs false
theorem run_append_none{P:Program}{t e:TypeId}{i:TypeInfo}(ht:P.underlying t=some (.slice e))(hi:P.info? e=some i)(w:World)(vo:Option Addr)(n vc:Nat)(h:n≤vc):
  (Builtin.append_ #[t,t] t #[.slice vo n vc,.slice none 0 0]).run P w= .ok (.slice vo n vc) w:=by
 cases vo<;>simp[Builtin.append_,run_underlying ht,sizeOf,typeInfo,hi,Builtin.lenOf,Builtin.firstCells,storeCells,h]
theorem patF_one: ∀ (F:Nat→Prop) (w:World) (row:List Value) (x:Pat),patF F w row x→ ∀ u∈row,u.oneCell' =true:=by
 rintro F w row x ⟨ao,n,cap,rfl, -⟩ u hu
 simp only[patC,cndC,opdC,List.cons_append,List.nil_append,List.mem_cons,List.not_mem_nil,or_false,List.append_assoc,List.mem_append]at hu
 (repeat' rcases hu with hu|hu)<;>rfl
def LowB(w:World):Nat→Prop:=fun b=>b<w.heap.size
section
variable {F:Nat→Prop} {w:World} {a:Option Addr} {n c:Nat} {l:List Pat}
set_option maxHeartbeats 4000000 in
theorem cloneP_any(hX:SlF F w 18 patF a n c l)(h0:0<n)(h1:n≤1000):
  Calls Tryz.prog 47 #[.slice a n c] w fun e w' => ∃ v,e= .returned v∧OwnF (LowB w) w.heap.size w' 61 18 patF v l∧Below w.heap.size w w' :=by
 obtain⟨ht,i,z,hi,hz,hs,hzs,hk, -,hb0,hb1⟩:=rowPat.open
 have hb2:=Joins.below_alloc1 w (.cells #[] 61)
 have hX2:SlF (LowB w) (w.alloc (.cells #[] 61)) 18 patF a n c l:=hX.same patF_firm ⟨hb2.size,fun b hF hlt=>⟨hlt,hb2.block b hlt⟩⟩
 have hbytes:(([]:List Pat).length+n)*i.bytes≤140737488355328:=by
  have:(([]:List Pat).length+n)*i.bytes≤1000*1000000:=Nat.mul_le_mul (by simpa using h1) hb1
  omega
 have hO:OwnF (LowB w) w.heap.size (w.alloc (.cells #[] 61)) 61 18 patF (.slice (some ⟨w.heap.size,0,none⟩) 0 0) ([]:List Pat):=⟨[],owns_literal w _ _,fun i hi=>absurd hi (Nat.not_lt_zero i)⟩
 obtain⟨v',w',hrun,hown,hbel, -⟩:=run_append_rows (P:=Tryz.prog) ht hi hz hs rfl hzs hk patF_firm patF_one hO hX2 h0 hbytes hb0 hb2.size (fun row x hr=>patF_firm _ _ _ _ _ _ ⟨Nat.le_refl _,fun b hb _=>⟨⟨hb,by simp[Value.ownBlock];unfold LowB at hb;omega⟩,rfl⟩⟩ hr)
 obtain⟨b,off,row,e, -⟩:=hX.2.2.2.2 0 (by have:=hX.len;omega)
 subst e
 have hnilq:=fun wx=>Lib.run_eql_slice_nil (P:=Tryz.prog) wx 40 61 (some ⟨b,off,none⟩) n c 0 0 Tryz.underlying40
 have RES:Hid (∃ v,Ending.returned v' = .returned v∧OwnF (LowB w) w.heap.size w' 61 18 patF v l∧Below w.heap.size w w'):=⟨v',rfl,by simpa using hown,hb2.trans hbel⟩
 clear hown hbel hO hX2 hX hb2 ht hi hz hs hzs hk hb0 hb1 hbytes
 go_enter Tryz.func47,Tryz.ntmps47
 go_wp2_with (at_builtin;refine wpList_append_run rfl _ _ 40 rfl rfl rfl rfl hrun ?_)
 go_ret
 exact RES.out
theorem appP_run{B:Nat}{w' :World}{G H:Nat→Prop}{v:Value}(hO:OwnF G B w' 61 18 patF v l)(hl:l.length≤1000)(hB:B≤w'.heap.size){m:List Pat}{mo:Option Addr}{mn mc:Nat}(hm:SlF H w' 18 patF mo mn mc m)(h1:mn≤1000)(hnil:mn=0→mo=none)(hH: ∀ b,H b→b<w'.heap.size→G b∧b<B):
  ∃ v2 w2,(Builtin.append_ #[40,40] 40 #[v,.slice mo mn mc]).run Tryz.prog w' = .ok v2 w2∧OwnF G B w2 61 18 patF v2 (l++m)∧Below B w' w2:=by
 obtain⟨ht,i,z,hi,hz,hs,hzs,hk, -,hb0,hb1⟩:=rowPat.open
 rcases Nat.eq_zero_or_pos mn with e|hp
 ·have e1:=hnil e
  subst e1
  have hc:mc=0:=hm.2.2.2.1 rfl
  have hm0:m=[]:=List.eq_nil_of_length_eq_zero (by have:=hm.len;omega)
  subst hc e hm0
  have hO' :=hO
  obtain⟨rs,h3, -⟩:=hO'
  rcases h3.2 with⟨rfl,h0⟩|⟨g,cap,cur,rfl,hg,hh,hnc,hcm,hsz,htk⟩
  ·exact⟨_,_,run_append_none ht hi w' _ _ _ (Nat.le_refl _),by simpa using hO,Below.refl _ _⟩
  ·exact⟨_,_,run_append_none ht hi w' _ _ _ hnc,by simpa using hO,Below.refl _ _⟩
 ·have hbytes:(l.length+mn)*i.bytes≤140737488355328:=by
   have:(l.length+mn)*i.bytes≤2000*1000000:=Nat.mul_le_mul (by omega) hb1
   omega
  have hbase:=hO.base
  obtain⟨v2,w2,hrun,hown,hbel, -⟩:=run_append_rows (P:=Tryz.prog) ht hi hz hs rfl hzs hk patF_firm patF_one hO hm hp hbytes hb0 hB (fun row x hr=>patF_firm _ _ _ _ _ _ ⟨Nat.le_refl _,fun b hb hlt=>⟨⟨(hH b hb hlt).1,fun q=>by have:=hbase b q;have:=(hH b hb hlt).2;omega⟩,rfl⟩⟩ hr)
  exact⟨v2,w2,hrun,hown,hbel⟩
end
theorem lnk_congr{m:Nat}{o:Mx}{a b:Nat}{g g' :Mx}(ha:a<m)(hb:b<m)(h:EqM (2*m) g g'):EqM (2*m) (lnkG o a b g) (lnkG o a b g'):=
 fold_par (rowL o a b) (rowL o a b) (EqM (2*m)) 4 g g' h fun r t t' hr T=>
  fold_par (celL o a b r) (celL o a b r) (EqM (2*m)) 4 t t' T fun c t t' hc T x y hx hy=>by
   unfold celL setB
   rw[T _ _ (atG_lt ha hb) (atG_lt ha hb),T x y hx hy]
theorem linkF_stuck{x:Rul}{l:List Pat}{j:Nat}(h:linkF x l j=none): ∀ k,j+k≤x.links.length→linkF x l (j+k)=none
 |0,_=>h
 |k+1,hk=>by
  rw[←Nat.add_assoc,linkF_next (by omega),linkF_stuck h k (by omega)]
  rfl
theorem whole_stuck{x:Rul}{more l:List Pat}{j:Nat}(hl:x.whens++more=l)(h:linkF x l j=none)(hj:j≤x.links.length):wholeF x more=none:=by
 unfold wholeF
 rw[hl,show x.links.length=j+(x.links.length - j)by omega,linkF_stuck h _ (by omega)]
section
variable {At:PS→World→Prop} {b:Nat} {u w:World} {s:PS} {L:List Ent} {e1 e2 e3 y:Ent}
theorem Mem.sink3(M:Mem At b u w s (y::e1::e2::e3::L)):Mem At b u w s (e1::e2::e3::y::L):=M.perm (List.perm_middle (l₁:=[e1,e2,e3])).symm
theorem Mem.rise3(M:Mem At b u w s (e1::e2::e3::y::L)):Mem At b u w s (y::e1::e2::e3::L):=M.perm (List.perm_middle (l₁:=[e1,e2,e3]))
end
section
variable {g:Nat} {w0 wE:World} {L:List Ent} {zf A cap nc N:Nat} {na:Option Addr} {gs rcs:Nat→Nat} {G G0 g1:Mx} {l:List Pat} {k:Lnk} {ao:Option Addr} {n c:Nat} {F:Nat→Prop}
theorem link_some(hN:l.length=N)(M:Mem (StaysB g w0) g w0 wE ⟨0,0⟩ (grd A (2*N) cap gs rcs G::own zf [.slice na N nc,.slice (some ⟨A,0,none⟩) (2*N) cap] 107::dat (fun F w=>SlF F w 1 (plainF strC) na N nc (l.map Pat.var))::L))(X:SlF F w0 3 (plainF optC) ao n c k.opts)(h6:N≤1000)(hk: ∀ o∈k.opts,optE o.rel o.lo o.hi=0)(hE:EqM (2*N) G G0)(hs:stepF l (some G0) k=some g1):
  Calls Tryz.prog 48 #[.pointer (some ⟨zf,0,none⟩),.agg #[.string k.left,.slice ao n c,.string k.right]] wE fun e w' => ∃ G',e= .returned (.bool true)∧Mem (StaysB g w0) g w0 w' ⟨0,0⟩ (grd A (2*N) cap gs rcs G' ::own zf [.slice na N nc,.slice (some ⟨A,0,none⟩) (2*N) cap] 107::dat (fun F w=>SlF F w 1 (plainF strC) na N nc (l.map Pat.var))::L)∧EqM (2*N) G' g1:=by
 subst hN
 unfold stepF at hs
 simp only at hs
 by_cases hp:patI l k.left<l.length∧patI l k.right<l.length
 ·rw[if_pos hp]at hs
  rcases listO_good hk with hc|⟨hc,hg⟩
  ·rw[if_neg hc]at hs
   cases hs
  ·rw[if_pos hc]at hs
   injection hs with hs
   subst hs
   refine(link_good M X h6 rfl hp.1 hp.2 hc hg.len (fun i hi=>?_)).mono ?_
   ·have h1:=hg.len
    have h2:=hg.row i (by omega)
    rw[h1]
    rw[show(listO k.opts).getD i []=(listO k.opts)[i]by simp[List.getD,List.getElem?_eq_getElem hi]]at h2
    exact h2
   ·rintro e w' ⟨rfl,M'⟩
    exact⟨_,rfl,M',lnk_congr hp.1 hp.2 hE⟩
 ·rw[if_neg hp]at hs
  injection hs with hs
  subst hs
  refine(link_none M hp).mono ?_
  rintro e w' ⟨rfl,M'⟩
  exact⟨_,rfl,M',hE⟩
theorem link_fail(hN:l.length=N)(M:Mem (StaysB g w0) g w0 wE ⟨0,0⟩ (grd A (2*N) cap gs rcs G::own zf [.slice na N nc,.slice (some ⟨A,0,none⟩) (2*N) cap] 107::dat (fun F w=>SlF F w 1 (plainF strC) na N nc (l.map Pat.var))::L))(X:SlF F w0 3 (plainF optC) ao n c k.opts)(h6:N≤1000)(hk: ∀ o∈k.opts,optE o.rel o.lo o.hi=0)(hE:EqM (2*N) G G0)(hs:stepF l (some G0) k=none):
  Calls Tryz.prog 48 #[.pointer (some ⟨zf,0,none⟩),.agg #[.string k.left,.slice ao n c,.string k.right]] wE fun e w' =>e= .returned (.bool false)∧Mem (StaysB g w0) g w0 w' ⟨0,0⟩ (grd A (2*N) cap gs rcs G::own zf [.slice na N nc,.slice (some ⟨A,0,none⟩) (2*N) cap] 107::dat (fun F w=>SlF F w 1 (plainF strC) na N nc (l.map Pat.var))::L):=by
 subst hN
 unfold stepF at hs
 simp only at hs
 by_cases hp:patI l k.left<l.length∧patI l k.right<l.length
 ·rw[if_pos hp]at hs
  by_cases hc:codeO k.opts (listO k.opts)=0
  ·rw[if_pos hc]at hs
   cases hs
  ·exact link_bad M X h6 hp.1 hp.2 hc
 ·rw[if_neg hp]at hs
  cases hs
end
section
variable {F:Nat→Prop} {w:World} {A off n cap zf:Nat} {ao:Option Addr} {ra:Nat→Option Addr} {rc B o:Nat→Nat} {G G' :Mx}
theorem LinX.lines(hI:LinI ao cap A off n ra rc B o)(h:LinX F w A off n ra rc B o G):LinesAt w ao n cap G:=fun i hi=>
 ⟨A,off,ra i,rc i,hI.row i hi,fun wx hb=>by rw[(bcell hb).1 _ _ (h.row i hi).2.1];exact(h.row i hi).2.2,fun j hj=>
  ⟨B i,o i,hI.val i hi j hj,fun wx hb=>by rw[(bcell hb).1 _ _ (h.val i hi j hj).2.1];exact(h.val i hi j hj).2.2⟩⟩
theorem LinX.congr(h:LinX F w A off n ra rc B o G)(e:EqM n G G'):LinX F w A off n ra rc B o G' :=⟨h.row,fun i hi j hj=>by rw[←e i j hi hj];exact h.val i hi j hj⟩
def FrmD(zf n:Nat)(G:Mx)(F:Nat→Prop)(w:World):Prop:= ∃ ao cap A off ra rc B o,LinI ao cap A off n ra rc B o∧F zf∧zf<w.heap.size∧w.cell? ⟨zf,1,none⟩=some (.slice ao n cap)∧LinX F w A off n ra rc B o G
theorem frmD_firm:FirmD (FrmD zf n G):=fun F F' w w' hs ⟨ao,cap,A,off,ra,rc,B,o,h1,h2,h3,h4,h5⟩=>by
 have h6:=hs.2 zf h2 h3
 exact⟨ao,cap,A,off,ra,rc,B,o,h1,h6.1,Nat.lt_of_lt_of_le h3 hs.1,(World.cell?_of_block (w:=w) (a:=⟨zf,1,none⟩) h6.2).trans h4,h5.same hs⟩
theorem behind_D{g:Nat}(hg:g<w.heap.size)(h:FrmD zf n G F w){k p:Nat}(hp:p<n)(h1:1≤k)(hk:2*k≤n)(hkm:k≤1000):
  Calls Tryz.prog 25 #[.pointer (some ⟨zf,0,none⟩),.int .i64 k,.int .i64 p] w fun e w' =>e= .returned (.int .i64 (latF G k p))∧Below w.heap.size w w' :=by
 obtain⟨ao,cap,A,off,ra,rc,B,o,hI,h2,h3,h4,h5⟩:=h
 exact behind_any hg (fun wx hb=>by rw[(bcell hb).1 _ _ h3];exact h4) (h5.lines hI) hp h1 hk hkm
theorem delay_D{g:Nat}(hg:g<w.heap.size)(h:FrmD zf n G F w){k:Nat}(hk:2*k+1<n)(hkm:k≤1000):
  Calls Tryz.prog 23 #[.pointer (some ⟨zf,0,none⟩),.int .i64 k] w fun e w' =>e= .returned (.int .i64 (max (leastF G k) 0))∧Below w.heap.size w w' :=by
 obtain⟨ao,cap,A,off,ra,rc,B,o,hI,h2,h3,h4,h5⟩:=h
 exact delay_any hg (fun wx hb=>by rw[(bcell hb).1 _ _ h3];exact h4) (h5.lines hI) hk hkm
end
section
variable {g:Nat} {w0:World} {x:Rul} {more:List Pat} {wa la mo:Option Addr} {wn wc ln lc mn mc:Nat} {F F2 F3:Nat→Prop} {s1 s2:ByteArray} {v2 v3 v6:Value}
theorem Mem.lift3{At:PS→World→Prop}{b:Nat}{u w:World}{s:PS}{L:List Ent}{e1 e2 y:Ent}(M:Mem At b u w s (e1::e2::y::L)):Mem At b u w s (y::e1::e2::L):=M.perm (List.perm_middle (l₁:=[e1,e2]))
theorem fresh_N{l:List Pat}{a:Option Addr}{n c:Nat}(hg:g<w0.heap.size)(X:SlF F w0 18 patF a n c l)(h1:1≤n)(h6:n≤6):Calls Tryz.prog 46 #[.slice a n c] w0 fun e w' => ∃ zf na nc A cap gs rcs G,e= .returned (.pointer (some ⟨zf,0,none⟩))∧Mem (StaysB g w0) g w0 w' ⟨0,0⟩ (FrmL zf na n nc A (2*n) cap gs rcs G l)∧EqM (2*n) G (fr0 n):=by
 have h:=fresh_any hg X h1 h6
 have e:(l.map Pat.var).length=n:=by rw[List.length_map];exact X.len.symm
 rw[e]at h
 exact h
theorem win_put{n m i j:Nat}{wq nn:Nat→Int}{G:Mx}{v:Int}(h:EqM (2*n) G (winI n m wq nn i j))(hw:wq i=1)(hij:j≠i)(hi:i<m)(hj:j<m)(hm:m≤n)(hv:nn i=v)(hn:v≤NOB):EqM (2*n) (setB G (2*j+1) (2*i+1) (min (G (2*j+1) (2*i+1)) v)) (winI n m wq nn i (j+1)):=fun r c hr hc=>by
 rw[←winI_step hw hij hi hj (by rw[hv];exact hn),hv]
 unfold setB
 rw[h r c hr hc,h _ _ (by omega) (by omega)]
theorem clos_yes{n:Nat}{G G0:Mx}{F:Nat→Prop}{w:World}{ao:Option Addr}{cap:Nat}(hn:n≤12)(hS:Small n G)(hk:okb n (shutF n G)=true)(h:SlF F w 1 lineF ao n cap (gridL n G)):
  Calls Tryz.prog 49 #[.slice ao n cap] w fun e w' => ∃ ao' cap',e= .returned (.tuple #[.slice ao' n cap',.int .i64 0])∧Below w.heap.size w w' ∧SlF (from_ w.heap.size) w' 1 lineF ao' n cap' (gridL n (shutF n G)):=by
 have hc:=clos_small hn hS
 refine(close_any F ao n cap (gridL n G) w h).mono ?_
 rintro e w' ⟨ao',n',cap',rfl,h2,h3⟩
 rw[hc.1,hc.2 hk,if_pos hk]at *
 obtain rfl:n' =n:=h3.len.trans gridL_len
 exact⟨ao',cap',rfl,h2,h3⟩
theorem clos_no{n:Nat}{G:Mx}{F:Nat→Prop}{w:World}{ao:Option Addr}{cap:Nat}(hn:n≤12)(hS:Small n G)(hk:okb n (shutF n G)=false)(h:SlF F w 1 lineF ao n cap (gridL n G)):
  Calls Tryz.prog 49 #[.slice ao n cap] w fun e w' => ∃ ao' n' cap',e= .returned (.tuple #[.slice ao' n' cap',.int .i64 16])∧Below w.heap.size w w' :=by
 have hc:=clos_small hn hS
 refine(close_any F ao n cap (gridL n G) w h).mono ?_
 rintro e w' ⟨ao',n',cap',rfl,h2,h3⟩
 rw[hc.1,if_neg (by rw[hk];decide)]
 exact⟨ao',n',cap',rfl,h2⟩
theorem gridL_at{n:Nat}{g:Mx}: ∀ i (hi:i<(gridL n g).length),(gridL n g)[i].length=(gridL n g).length:=fun i hi=>by simp[gridL]
theorem small_eq{n:Nat}{G G' :Mx}(e:EqM n G G')(h:Small n G'):Small n G:=⟨fun a b ha hb=>by rw[e a b ha hb];exact h.1 a b ha hb,fun a ha=>by rw[e a a ha ha];exact h.2 a ha⟩
theorem whole_is{l:List Pat}{N:Nat}{gj:Mx}(hl:x.whens++more=l)(hN:l.length=N)(hj:linkF x l x.links.length=some gj):(okb (2*N) (shutF (2*N) gj)=true→wholeF x more=some (shutF (2*N) gj))∧(okb (2*N) (shutF (2*N) gj)=false→wholeF x more=none):=by
 subst hl
 unfold wholeF npts
 rw[hj,hN]
 exact⟨fun h=>if_pos h,fun h=>if_neg (by rw[h];decide)⟩
def WholP(x:Rul)(more:List Pat)(w0:World)(e:Ending)(w' :World):Prop:=
 Below w0.heap.size w0 w' ∧((wholeF x more=none∧ ∃ p,e= .returned (.tuple #[.pointer p,.bool false]))∨ ∃ G zf,wholeF x more=some G∧e= .returned (.tuple #[.pointer (some ⟨zf,0,none⟩),.bool true])∧FrmD zf (npts x more) G (from_ w0.heap.size) w')
set_option maxRecDepth 8000 in
set_option maxHeartbeats 8000000 in
theorem whole_any(hg:g<w0.heap.size)(X:SlF F w0 18 patF wa wn wc x.whens)(Y:SlF F2 w0 3 lnkF la ln lc x.links)(Z:SlF F3 w0 18 patF mo mn mc more)(hR:RulPl x)(hmore:more.length≤1)(hnil:mn=0→mo=none):
  Calls Tryz.prog 22 #[.agg #[.string s1,.slice wa wn wc,v2,v3,.slice la ln lc,.string s2,v6],.slice mo mn mc] w0 (WholP x more w0):=by
 have M:=Mem.begin hg ⟨0,0⟩
 have HX:=Lib.hid X
 have HY:=Lib.hid Y
 have HCL:Hid (∀ wx,Below w0.heap.size w0 wx→Calls Tryz.prog 47 #[.slice wa wn wc] wx fun e w' => ∃ v,e= .returned v∧OwnF (LowB wx) wx.heap.size w' 61 18 patF v x.whens∧Below wx.heap.size wx w'):=fun wx hx=>cloneP_any (X.below patF_firm hx) (by have:=X.len;have:=hR.w1;omega) (by have:=X.len;have:=hR.w3;omega)
 have HAP:Hid (∀ (wx wy:World) (v:Value),Below w0.heap.size w0 wx→Below wx.heap.size wx wy→OwnF (LowB wx) wx.heap.size wy 61 18 patF v x.whens→ ∃ v2 w2,(Builtin.append_ #[40,40] 40 #[v,.slice mo mn mc]).run Tryz.prog wy= .ok v2 w2∧OwnF (LowB wx) wx.heap.size w2 61 18 patF v2 (x.whens++more)∧Below wx.heap.size wy w2):=fun wx wy v hx hy hO=>by
  have Z1:SlF (LowB w0) w0 18 patF mo mn mc more:=Z.same patF_firm ⟨Nat.le_refl _,fun b _ hlt=>⟨hlt,rfl⟩⟩
  have Z2:=(Z1.below patF_firm hx).below patF_firm hy
  refine appP_run hO (by have:=hR.w3;omega) hy.size Z2 (by have:=Z.len;omega) hnil fun b hb _=>?_
  unfold LowB at hb ⊢
  have:=hx.size
  exact⟨by omega,by omega⟩
 obtain⟨N,HN⟩: ∃ N,Hid ((x.whens++more).length=N):=⟨_,Lib.hid rfl⟩
 have hN1:1≤N:=by have h:=HN.out;rw[List.length_append]at h;have:=hR.w1;omega
 have hN6:N≤4:=by have h:=HN.out;rw[List.length_append]at h;have:=hR.w3;omega
 have hwN:wn≤N:=by have h:=HN.out;rw[List.length_append]at h;have:=X.len;omega
 have hle:=X.le
 have hle2:=Y.le
 have NW:=Lib.hid X.len
 have NL:=Lib.hid Y.len
 have HR:=Lib.hid hR
 obtain⟨l,HL⟩: ∃ l,Hid (x.whens++more=l):=⟨_,Lib.hid rfl⟩
 rw[HL.out]at HN HAP
 clear hR X Y Z hmore hnil
 go_enter Tryz.func22,Tryz.ntmps22
 go_wp2_with (first|(go_at_call 47;have hq:=HCL.out _ M.new;with_reducible refine hq.mono ?_;clear hq;go_loud (rintro e w5 ⟨v5,rfl,hO5,hb5⟩;obtain⟨v6',w6,hrun6,hO6,hb6⟩:=HAP.out _ _ _ M.new hb5 hO5))|(at_builtin;go_loud (refine wpList_append_run rfl _ _ 40 rfl rfl rfl rfl hrun6 ?_;replace M:=M.below (hb5.trans hb6);obtain⟨ra6,rc6,e6,hS6⟩:=hO6.done (G:=fun _=>True) patF_firm (by decide) (fun _ _ _=>trivial);rw[HN.out]at e6 hS6;subst e6;clear hO6 hO5 hrun6 hb5 hb6))|(go_at_call 46;go_loud (have hq:=fresh_N (Nat.lt_of_lt_of_le M.lt M.but.size) hS6 hN1 (by omega);with_reducible refine hq.mono ?_;clear hq;rintro e w7 ⟨zf,na,nc,A,cap,gs,rcs,G,rfl,M7,hE⟩;replace M:=M.graft M7;(simp only[FrmL,List.cons_append,List.nil_append]at M);clear M7 hS6))|(with_reducible (first|(refine wB M ?_;clear M;intro zb w1 M)|refine wq M ?_)))
 replace M:=M.lift3
 go_loopg [23] wn (fun f i wr=> ∃ (j:Nat) (G' :Mx),j+f=wn∧i= .int .i64 j∧Mem (StaysB g w0) g w0 wr ⟨0,0⟩ (grd A (2*N) cap gs rcs G' ::own zf [.slice na N nc,.slice (some ⟨A,0,none⟩) (2*N) cap] 107::dat (fun F w=>SlF F w 1 (plainF strC) na N nc (l.map Pat.var))::own zb [.string s1,.slice wa wn wc,v2,v3,.slice la ln lc,.string s2,v6] 47::[])∧Hid (EqM (2*N) G' (winI N wn (fun i=>(x.whens.getD i pat0).window) (fun i=>(x.whens.getD i pat0).n) j 0)))
 case atStart=>exact⟨0,_,by omega,rfl,M,Lib.hid (by rw[winI_zero];exact hE)⟩
 case round=>
  clear M hE
  obtain⟨i,G',hi,rfl,M,HG⟩:=hrel
  by_cases hlt:i<wn
  ·have hil:i<x.whens.length:=by have:=NW.out;omega
   obtain⟨cp,op,rowp,hixp, -,hrrp,hwp⟩:=SlF.rowAt (P:=Tryz.prog) HX.out patF_firm Tryz.underlying40 size_pat (i:=i) hil
   obtain⟨a2,n2,c2,ep, -⟩:=patF.open18 hrrp
   subst ep
   have HRP:=Lib.hid (fun wx hb=>(hwp wx hb).1)
   unfold pat18 at HRP
   have HPI:Hid (x.whens.getD i pat0=x.whens[i]):=by show _=_;simp[List.getD,List.getElem?_eq_getElem hil]
   have HPN:Hid (x.whens[i].window=1→x.whens[i].n≤NOB):=fun h=>by have:=HR.out.win _ (List.getElem_mem hil) h;unfold NOB;omega
   clear hrrp hwp
   generalize x.whens[i]=p at HRP HPI HPN
   go_upto_region 5 with(first|((with_reducible refine o_list rfl fun K hK=>?_);refine q_in M (by rfl) (by rfl) (by rfl) ?_;clear M;intro w M;(try simp only[List.set_cons_zero,List.set_cons_succ,laid,opdC,List.take_succ_cons,List.take_zero,List.drop_succ_cons,List.drop_zero,List.length_cons,List.length_nil,List.cons_append,List.nil_append,Nat.reduceAdd,Nat.zero_add]at M);refine hK _ _ ?_;clear hK K)|(with_reducible (first|(refine wV M ?_;clear M;intro zp w M)|refine wA (HRP.out _ M.new) ?_)))
   by_cases hw1:p.window=1
   ·have HPW:=Lib.hid (HPN.out hw1)
    have HWQ:Hid ((fun i=>(x.whens.getD i pat0).window) i=1):=by show(x.whens.getD i pat0).window=1;rw[HPI.out];exact hw1
    have HNQ:Hid ((fun i=>(x.whens.getD i pat0).n) i=p.n):=by show(x.whens.getD i pat0).n=p.n;rw[HPI.out]
    have hwq:(p.window==1)=true:=by rw[hw1];rfl
    have hit:decide ((i:Int)<wn)=true:=by simpa using(by omega:(i:Int)<wn)
    clear hw1 HPN
    go_wp2_with (with_reducible refine wq M ?_)
    go_loopg [34] wn (fun f b wr=> ∃ (j:Nat) (G2:Mx),j+f=wn∧b= .int .i64 j∧Mem (StaysB g w0) g w0 wr ⟨0,0⟩ (own zp [.string p.var,.string p.type,.int .i64 p.wher.kind,.slice a2 n2 c2,.int .i64 p.wher.left.kind,.int .i64 p.wher.left.vkind,.int .i64 p.wher.left.vint,.string p.wher.left.vtext,.string p.wher.left.var,.string p.wher.left.field,.int .i64 p.wher.right.kind,.int .i64 p.wher.right.vkind,.int .i64 p.wher.right.vint,.string p.wher.right.vtext,.string p.wher.right.var,.string p.wher.right.field,.int .i64 p.window,.int .i64 p.n] 61::grd A (2*N) cap gs rcs G2::own zf [.slice na N nc,.slice (some ⟨A,0,none⟩) (2*N) cap] 107::dat (fun F w=>SlF F w 1 (plainF strC) na N nc (l.map Pat.var))::own zb [.string s1,.slice wa wn wc,v2,v3,.slice la ln lc,.string s2,v6] 47::[])∧Hid (EqM (2*N) G2 (winI N wn (fun i=>(x.whens.getD i pat0).window) (fun i=>(x.whens.getD i pat0).n) i j)))
    case atStart=>exact⟨0,_,by omega,rfl,M,HG⟩
    case round=>
     clear M HG
     simp only[hit]at *
     obtain⟨j,G2,hj,rfl,M,HG⟩:=hrel
     by_cases hjn:j<wn
     ·by_cases hji:j=i
      ·subst hji
       have HG2:Hid (EqM (2*N) G2 (winI N wn (fun i=>(x.whens.getD i pat0).window) (fun i=>(x.whens.getD i pat0).n) j (j+1))):=fun r c hr hc=>(HG.out r c hr hc).trans winI_skip
       go_wp2_with (with_reducible (first|refine wq M ?_|(refine wS M ?_;clear M;intro w M)|(refine wV M ?_;clear M;intro z w M)|(refine wR M ?_;clear M;intro q w M)))
       go_roundg (wn - (j+1))
       case measure=>omega
       case rel=>exact⟨j+1,_,by omega,by go_num,M,HG2⟩
      ·have HG2:Hid (EqM (2*N) (setB G2 (2*j+1) (2*i+1) (min (G2 (2*j+1) (2*i+1)) p.n)) (winI N wn (fun i=>(x.whens.getD i pat0).window) (fun i=>(x.whens.getD i pat0).n) i (j+1))):=win_put HG.out HWQ.out hji hlt hjn hwN HNQ.out HPW.out
       have hq1:((i:Int)==(j:Int))=false:=by rw[beq_eq_false_iff_ne];omega
       have hj6:j≤1000:=by omega
       have hi6:i≤1000:=by omega
       have h2j:2*j+1<2*N:=by omega
       have h2i:2*i+1<2*N:=by omega
       have hixA: ∀ wx,(Instr.indexAt 78 (.slice (some ⟨A,0,none⟩) (2*N) cap) (.int .i64 (2*(j:Int)+1))).run Tryz.prog wx= .ok (.pointer (some ⟨A,2*j+1,none⟩)) wx:=fun wx=>(M.grid_ (i:=1) rfl).ixA h2j wx
       have hixR: ∀ wx,(Instr.indexAt 26 (.slice (some ⟨gs (2*j+1),0,none⟩) (2*N) (rcs (2*j+1))) (.int .i64 (2*(i:Int)+1))).run Tryz.prog wx= .ok (.pointer (some ⟨gs (2*j+1),2*i+1,none⟩)) wx:=fun wx=>(M.grid_ (i:=1) rfl).ixR h2j h2i wx
       go_upto_region 10 with(with_reducible (first|refine wq M ?_|(refine wS M ?_;clear M;intro w M)|(refine wV M ?_;clear M;intro z w M)|(refine wR M ?_;clear M;intro q w M)))
       ((refine wp_region_first [0,1,2,3,4,8,10,11,12,13,14,18,22,23,6,7,16,17,20,21,25] [(true,0),(true,1),(true,2),(true,3),(true,4),(true,8),(true,10),(true,11),(true,12),(true,13),(true,14),(true,18),(true,22),(true,23),(false,5),(true,6),(true,7),(false,9),(false,15),(true,16),(true,17),(false,19),(true,20),(true,21),(false,24),(true,25),(false,26)] (fun _ M=>M) M (by kernel_rfl) (by kernel_rfl) (fun _ _ _ _ _ h=>h) ?_);clear M;intro w M;(repeat(first|((with_reducible refine m_read rfl M.kept fun K hK=>?_);(first|(refine r_load (l' :=?_) ⟨_,M.kept⟩ (fun w M=>?_) ?_;rotate_left;focus((first|(refine q_cellat (M.grow (i:=1) rfl h2j) ?_)|(refine q_cellat (M.gval (i:=1) rfl h2j h2i) ?_)|refine q_get M (by exact rfl) ?_);refine⟨rfl,?_⟩;with_reducible rfl))|(refine r_pure (v:=?_) rfl (fun w=>?_) ?_;rotate_left;focus(go_simp;try with_reducible rfl)));(try go_simp);with_reducible refine hK _ ?_;clear hK K)|((with_reducible refine m_last rfl rfl (by with_unfolding_all decide+kernel) fun K hK=>?_);((refine q_gput M (i:=1) rfl h2j h2i ?_;clear M;intro w M;(try simp only[List.set_cons_zero,List.set_cons_succ]at M)));(try go_simp);with_reducible refine hK _ _ ?_;clear hK K)|((with_reducible refine m_step rfl rfl fun K hK=>?_);(first|((refine owp_of ?_;go_simp;(go_at_call 26;(first|with_reducible refine(pend_any j hj6 _).mono ?_|with_reducible refine(pend_any i hi6 _).mono ?_);rintro e w5 ⟨rfl,hb5⟩;replace M:=M.below hb5;clear hb5)))|(refine owp_of ?_;go_simp));(try go_simp);with_reducible refine hK _ _ M.kept ?_;clear hK K)));(with_reducible refine m_nil ?_))
       go_wp2_with (with_reducible (first|refine wq M ?_|(refine wS M ?_;clear M;intro w M)|(refine wV M ?_;clear M;intro z w M)|(refine wR M ?_;clear M;intro q w M)))
       go_roundg (wn - (j+1))
       case measure=>omega
       case rel=>exact⟨j+1,_,by omega,by go_num,M,HG2⟩
     ·have e:j=wn:=by omega
      subst e
      have HG2:Hid (EqM (2*N) G2 (winI N j (fun i=>(x.whens.getD i pat0).window) (fun i=>(x.whens.getD i pat0).n) (i+1) 0)):=fun r c hr hc=>(HG.out r c hr hc).trans winI_next
      go_wp2_with (with_reducible (first|refine wq M ?_|(refine wS M ?_;clear M;intro w M)|(refine wV M ?_;clear M;intro z w M)|(refine wR M ?_;clear M;intro q w M)))
      go_roundg (j - (i+1))
      case measure=>omega
      case rel=>exact⟨i+1,_,by omega,by go_num,M.drop,HG2⟩
   ·have hwq:(p.window==1)=false:=by simpa using hw1
    have HGN:Hid (EqM (2*N) G' (winI N wn (fun i=>(x.whens.getD i pat0).window) (fun i=>(x.whens.getD i pat0).n) (i+1) 0)):=fun r c hr hc=>(HG.out r c hr hc).trans (winI_none (by show(x.whens.getD i pat0).window≠1;rw[HPI.out];exact hw1))
    clear hw1
    go_wp2_with (with_reducible refine wq M ?_)
    go_roundg (wn - (i+1))
    case measure=>omega
    case rel=>exact⟨i+1,_,by omega,by go_num,M.drop,HGN⟩
  ·have e:i=wn:=by omega
   have HG0:Hid (EqM (2*N) G' (frG x.whens)):=by
    have e2:i=x.whens.length:=e.trans NW.out
    have e3:wn=x.whens.length:=NW.out
    intro r c hr hc
    rw[HG.out r c hr hc,e2,e3]
    exact winI_all hr
   subst e
   clear HG
   go_wp2_with (with_reducible refine wq M ?_)
   go_loopg [71] ln (fun f b wr=> ∃ (j:Nat) (G2 gj:Mx),j+f=ln∧b= .int .i64 j∧Mem (StaysB g w0) g w0 wr ⟨0,0⟩ (grd A (2*N) cap gs rcs G2::own zf [.slice na N nc,.slice (some ⟨A,0,none⟩) (2*N) cap] 107::dat (fun F w=>SlF F w 1 (plainF strC) na N nc (l.map Pat.var))::own zb [.string s1,.slice wa i wc,v2,v3,.slice la ln lc,.string s2,v6] 47::[])∧Hid (linkF x l j=some gj∧EqM (2*N) G2 gj))
   case atStart=>exact⟨0,_,_,by omega,rfl,M,Lib.hid ⟨rfl,HG0.out⟩⟩
   case round=>
    clear M HG0 G'
    obtain⟨j,G2,gj,hj,rfl,M,HS⟩:=hrel
    by_cases hlt2:j<ln
    ·have hkl:j<x.links.length:=by have:=NL.out;omega
     obtain⟨cp,op,rowp,hixp, -,hrrp,hwp⟩:=SlF.rowAt (P:=Tryz.prog) HY.out lnkF_firm Tryz.underlying42 size_lnk (i:=j) hkl
     obtain⟨p1,q1,r1,ep,u1⟩:=hrrp
     subst ep
     have HRK:=Lib.hid (fun wx hb=>(hwp wx hb).1)
     have HNX:=Lib.hid (linkF_next (l:=l) hkl)
     have HOK:Hid (∀ o∈x.links[j].opts,optE o.rel o.lo o.hi=0):=(HR.out.link _ (List.getElem_mem hkl)).2
     have HJ:Hid (j+1≤x.links.length):=hkl
     have HU:=Lib.hid u1
     clear hwp u1
     unfold lnkC at HRK
     generalize x.links[j]=k at HRK HNX HOK HU
     clear hkl
     cases hs:stepF l (some gj) k with
     |none=>
      have HW:Hid (wholeF x more=none):=whole_stuck HL.out (by rw[HNX.out,HS.out.1];exact hs) HJ.out
      have HST:=Lib.hid hs
      clear hs HNX
      go_wp2_with (first|(go_at_call 48;replace M:=M.sink3;have hq:=link_fail HN.out M HU.out (by omega) HOK.out HS.out.2 HST.out;with_reducible refine hq.mono ?_;clear hq;clear M;rintro e w5 ⟨rfl,M⟩;replace M:=M.rise3)|(with_reducible (first|(refine wV M ?_;clear M;intro zk w M)|refine wA (HRK.out _ M.new) ?_|refine wq M ?_|(refine wS M ?_;clear M;intro w M))))
      go_ret2
      exact⟨M.new,.inl ⟨HW.out,_,rfl⟩⟩
     |some g1=>
      have HT:Hid (linkF x l (j+1)=some g1):=by show _=_;rw[HNX.out,HS.out.1];exact hs
      have HST:=Lib.hid hs
      clear hs HNX
      go_wp2_with (first|(go_at_call 48;replace M:=M.sink3;have hq:=link_some HN.out M HU.out (by omega) HOK.out HS.out.2 HST.out;with_reducible refine hq.mono ?_;clear hq;clear M;rintro e w5 ⟨G5,rfl,M,hE5⟩;replace M:=M.rise3;replace hE5:=Lib.hid hE5)|(with_reducible (first|(refine wV M ?_;clear M;intro zk w M)|refine wA (HRK.out _ M.new) ?_|refine wq M ?_|(refine wS M ?_;clear M;intro w M))))
      go_roundg (ln - (j+1))
      case measure=>omega
      case rel=>exact⟨j+1,_,_,by omega,by go_num,M.drop,Lib.hid ⟨HT.out,hE5.out⟩⟩
    ·have e:j=ln:=by omega
     have HF:Hid (linkF x l x.links.length=some gj):=by show _=_;rw[←NL.out,←e];exact HS.out.1
     have HSM:Hid (Small (2*N) G2):=small_eq HS.out.2 (by have h:=link_small HR.out l _ (Nat.le_refl _) gj HF.out;rw[HN.out]at h;exact h)
     have HWI:=Lib.hid (whole_is HL.out HN.out HF.out)
     have HSE:=Lib.hid (shut_congr HS.out.2)
     have HOC:=Lib.hid (okb_congr (shut_congr HS.out.2))
     clear HS HF
     subst e
     have hN12:2*N≤12:=by omega
     have hN0:0<2*N:=by omega
     cases hok:okb (2*N) (shutF (2*N) G2)with
     |false=>
      have HW:Hid (wholeF x more=none):=HWI.out.2 (HOC.out▸hok)
      replace hok:=Lib.hid hok
      go_wp2_with (first|(go_at_call 49;have hq:=clos_no hN12 HSM.out hok.out ((M.grid_ (i:=0) rfl).grid.toF (by omega));with_reducible refine hq.mono ?_;clear hq;rintro e w5 ⟨ao5,n5,cap5,rfl,hb5⟩;replace M:=M.below hb5;clear hb5)|(with_reducible (first|refine wq M ?_|(refine wS M ?_;clear M;intro w M))))
      go_ret2
      exact⟨M.new,.inl ⟨HW.out,_,rfl⟩⟩
     |true=>
      have HW:Hid (wholeF x more=some (shutF (2*N) gj)):=HWI.out.1 (HOC.out▸hok)
      replace hok:=Lib.hid hok
      go_wp2_with (first|(go_at_call 49;have hq:=clos_yes (G0:=G2) hN12 HSM.out hok.out ((M.grid_ (i:=0) rfl).grid.toF (by omega));with_reducible refine hq.mono ?_;clear hq;go_loud (rintro e w5 ⟨ao5,cap5,rfl,hb5,hS5⟩;obtain⟨A5,of5,ra5,rc5,B5,o5,HI,HX5⟩:=lin_of hS5 gridL_at hN0;replace M:=M.lpush hb5 HX5 (fun y hy=>by unfold from_ at hy;exact hy);clear hb5 hS5 HX5))|(with_reducible (first|refine wq M ?_|(refine wS M ?_;clear M;intro w M))))
      go_ret2
      refine⟨M.new,.inr ⟨_,_,HW.out,rfl,?_⟩⟩
      have hn:npts x more=2*N:=by unfold npts;rw[HL.out,HN.out]
      rw[hn]
      have h1:=M.own_ (Mem.of_get (i:=2) rfl)
      have h2:=M.ne (Mem.of_get (i:=2) rfl)
      refine⟨ao5,cap5,A5,of5,ra5,rc5,B5,o5,HI,h2.1,h2.2.2,by rw[h1.cell 1];rfl,?_⟩
      have h3:=M.dat_ (i:=0) rfl
      exact(LinX.same h3 (Same.wide fun k hk _=>hk.1)).congr fun r c hr hc=>by rw[at2_gridL hr hc];exact HSE.out r c hr hc
end
end Go.Proofs.YtncmghnhfipklaaGreatDoor
