/-
  The walks of package bound and its reference, sixth part: a row cloned, a matrix owned, a pair checked, two matrices joined.
-/
import Derived.Test.YtncmghnhfipklaaGreatDoorPu01
import Derived.Handy
import Derived.StillTailTactics
namespace Go.Proofs.YtncmghnhfipklaaGreatDoor
open Go.RowKit
set_option linter.unusedVariables false
set_option linter.unusedSimpArgs false
set_option maxHeartbeats 1000000 in
set_option maxRecDepth 100000 in
theorem cloneI_any(F:Nat→Prop)(ao:Option Addr)(n cap:Nat)(xs:List Int)(w:World)(hX:SlF F w 1 intF ao n cap xs)(h0:0<n)(h1:n≤1000):
  Calls Tryz.prog 99 #[.slice ao n cap] w fun e w' => ∃ g rc cur,e= .returned (.slice (some ⟨g,0,none⟩) n rc)∧Below w.heap.size w w' ∧w.heap.size≤g∧n≤rc∧rc≤maxLen∧w'.heap[g]?=some (.cells cur 3 (0,0))∧ ∀ c,c<n→cur[c]?=some (.int .i64 (xs.getD c 0)):=by
 obtain⟨i0,hi,hz0,hz1,hz2⟩:=info_parts info_int
 have NL:Hid (n=xs.length):=hX.len
 cases ao with
 |none=>
  have hc:cap=0:=hX.2.2.2.1 rfl
  have hle:=hX.le
  omega
 |some a=>
  have hb1:=Joins.below_alloc1 w (.cells #[] 3)
  have hX1:=hX.below intF_firm hb1
  obtain⟨b,off,row,e,_⟩:=hX.2.2.2.2 0 (by have:=NL.out;omega)
  injection e with e
  subst e
  have hcells: ∀ j u,(xs.map (Value.int .i64))[j]?=some u→(w.alloc (.cells #[] 3)).cell? ((⟨b,off,none⟩:Addr).add j)=some u:=by
   intro j u hu
   have hj:j<xs.length:=by have:=(List.getElem?_eq_some_iff.1 hu).1;simpa using this
   obtain⟨b',off',row,e,_,_,hr,hx⟩:=hX1.2.2.2.2 j hj
   injection e with e;injection e with e1 e2;subst e1;subst e2
   obtain rfl:=intF_one hx
   have:=hr.2 0 (by omega)
   rw[List.getElem?_map,List.getElem?_eq_getElem hj]at hu
   simp only[Option.map_some,Option.some.injEq]at hu
   rw[Go.WideShapes.add_plain,←hu]
   simpa using this
  obtain⟨v',w',hrun,hown,hgrow,hnil,hob⟩:=run_append_own_at (P:=Tryz.prog) (w.alloc (.cells #[] 3)) w.heap.size 26 26 3 i0 (.int .i64 0) 1 8 Tryz.underlying26 hi hz0 hz1 hz2 rfl (by omega) (.slice (some ⟨w.heap.size,0,none⟩) 0 0) 0 [] (owns_literal w _ _)
   ⟨b,off,none⟩ n cap (xs.map (Value.int .i64)) (by have:=NL.out;simp;omega) hcells (fun u hu=>by obtain⟨x,_,rfl⟩:=List.mem_map.1 hu;rfl) (by unfold maxLen;omega) (by omega) (by simp)
  have hbel:Below w.heap.size (w.alloc (.cells #[] 3)) w' :=(Below.refl _ _).grown hgrow (by simp) (fun g hg=>by simp[Value.ownBlock]at hg;omega)
  rw[Nat.zero_add,List.nil_append]at hown
  have hB:Below w.heap.size w w' :=hb1.trans hbel
  rcases hown.2 with⟨_,h0'⟩|⟨g,rc,cur,rfl,hg,hh,hnc,hcm,hsz,htk⟩
  ·omega
  ·have hnilq:=fun wx=>Lib.run_eql_slice_nil (P:=Tryz.prog) wx 26 3 (some ⟨b,off,none⟩) n cap 0 0 Tryz.underlying26
   have RES:Hid (∃ g' rc' cur',Ending.returned (.slice (some ⟨g,0,none⟩) n rc)= .returned (.slice (some ⟨g',0,none⟩) n rc')∧Below w.heap.size w w' ∧w.heap.size≤g' ∧n≤rc' ∧rc' ≤maxLen∧w'.heap[g']?=some (.cells cur' 3 (0,0))∧ ∀ c,c<n→cur'[c]?=some (.int .i64 (xs.getD c 0))):=by
    refine⟨g,rc,cur,rfl,hB,hg,hnc,hcm,hh,fun c hc=>?_⟩
    have h2:cur.toList[c]?=(xs.map (Value.int .i64))[c]?:=by rw[←htk,List.getElem?_take,if_pos (by omega)]
    have hcx:c<xs.length:=by have:=NL.out;omega
    rw[←Array.getElem?_toList,h2,List.getElem?_map,List.getElem?_eq_getElem hcx]
    simp[List.getD,List.getElem?_eq_getElem hcx]
   clear hh htk hsz hgrow hown hcells hX1 hX hbel hB hob hnil
   go_enter Tryz.func99,Tryz.ntmps99
   go_wp2_with (at_builtin;refine wpList_append_run rfl _ _ 26 rfl rfl rfl rfl hrun ?_)
   go_ret
   exact RES.out
theorem firstN_allz{f:Nat→Int}{n:Nat}(h:firstN f n=0):AllZ f n:=by
 induction n with
 |zero=>exact allZ_zero f
 |succ n ih=>
  simp only[firstN]at h
  by_cases h0:firstN f n=0
  ·rw[if_pos h0]at h
   exact allZ_succ (ih h0) h
  ·rw[if_neg h0]at h
   exact absurd h h0
theorem matE_square{m:List (List Int)}(h:matE m=0):m.length≤12∧ ∀ i,i<m.length→(m.getD i []).length=m.length:=by
 unfold matE at h
 by_cases h12:12<m.length
 ·rw[if_pos h12]at h;omega
 ·rw[if_neg h12]at h
  refine⟨by omega,fun i hi=>?_⟩
  have:=firstN_allz h i hi
  unfold lineE at this
  by_cases hl:(m.getD i []).length=m.length
  ·exact hl
  ·rw[if_neg hl]at this;omega
def at2(m:List (List Int))(r c:Nat):Int:=(m.getD r []).getD c 0
def blkF(n:Nat):(Nat→Prop)→World→List Value→Nat×(Nat→Int)→Prop:=fun F w row p=>
 F p.1∧ ∃ rc cur,row=[.slice (some ⟨p.1,0,none⟩) n rc]∧n≤rc∧rc≤maxLen∧w.heap[p.1]?=some (.cells cur 3 (0,0))∧ ∀ c,c<n→cur[c]?=some (.int .i64 (p.2 c))
theorem blkF_firm(n:Nat):Firm (blkF n):=fun F G w w' row p hs ⟨hF,rc,cur,e,h1,h2,hh,hc⟩=>by
 have hlt:p.1<w.heap.size:=(Array.getElem?_eq_some_iff.1 hh).1
 exact⟨(hs.2 _ hF hlt).1,rc,cur,e,h1,h2,by rw[(hs.2 _ hF hlt).2];exact hh,hc⟩
theorem OwnF.grid{F G:Nat→Prop}{B:Nat}{w:World}{o:Value}{xs:List (Nat×(Nat→Int))}{n:Nat}(h:OwnF F B w 26 1 (blkF n) o xs)(hn:xs.length=n)(hG: ∀ b,b<w.heap.size→(F b∨B≤b)→G b)(hap: ∀ r s (hr:r<xs.length) (hs:s<xs.length),r≠s→(xs[r]).1≠(xs[s]).1):
  ∃ ao cap,o= .slice ao n cap∧Grid G w ao n cap (fun r=>(xs.getD r (0,fun _=>0)).1) (fun r c=>(xs.getD r (0,fun _=>0)).2 c):=by
 obtain⟨rs,h1,h2⟩:=h
 subst hn
 have hget: ∀ r (hr:r<xs.length),xs.getD r (0,fun _=>0)=xs[r]:=fun r hr=>by simp[List.getD,List.getElem?_eq_getElem hr]
 rcases h1.2 with⟨rfl,h0⟩|⟨g,cap,cur,rfl,hg,hh,hnc,hcm,hsz,htk⟩
 ·exact⟨none,0,by rw[h0],⟨by omega,by unfold maxLen;omega,fun _=>rfl,fun r hr=>by omega,fun r s hr=>by omega⟩⟩
 ·have hglt:g<w.heap.size:=(Array.getElem?_eq_some_iff.1 hh).1
  refine⟨_,cap,rfl,hnc,hcm,by simp,fun r hr=>?_,fun r s hr hs hrs=>?_⟩
  ·obtain⟨row,h3,h4,hF,rc,cur',e,h5,h6,hh',hc⟩:=h2 r hr
   refine⟨g,rc,cur',rfl,hG g hglt (Or.inr hg),?_,hglt,?_,h5,h6,by rw[hget r hr];exact hh',by rw[hget r hr];exact hc,?_⟩
   ·rw[hget r hr]
    intro e
    exact hF.2 (by simp[Value.ownBlock,e])
   ·have:=h1.cellAt r (by omega)
    rw[this]
    have h7:=h4 0 (by omega)
    simp only[Nat.mul_one,Nat.add_zero]at h7
    rw[h7,e,hget r hr]
    rfl
   ·rw[hget r hr]
    exact hG _ (Array.getElem?_eq_some_iff.1 hh').1 (Or.inl hF.1)
  ·simp only[hget r hr,hget s hs]
   exact hap r s hr hs hrs
end Go.Proofs.YtncmghnhfipklaaGreatDoor
/-
  The walks of package bound and its reference, seventh part: a matrix owned, a pair checked, two matrices joined.
-/
namespace Go.Proofs.YtncmghnhfipklaaGreatDoor
open Go.RowKit
set_option linter.unusedVariables false
set_option linter.unusedSimpArgs false
set_option maxHeartbeats 2000000 in
theorem own_any(F:Nat→Prop)(ao:Option Addr)(n cap:Nat)(m:List (List Int))(w:World)(hM:SlF F w 1 lineF ao n cap m)(h12:n≤12)(hsq: ∀ i,i<m.length→(m.getD i []).length=m.length):
  Calls Tryz.prog 80 #[.slice ao n cap] w fun e w' => ∃ ao' cap' gs,e= .returned (.slice ao' n cap')∧Below w.heap.size w w' ∧Grid (from_ w.heap.size) w' ao' n cap' gs (at2 m):=by
 obtain⟨i1,hi',hy0,hy1,hy2⟩:=info_parts info_ints
 have NL:Hid (n=m.length):=hM.len
 have SQ:Hid (∀ i,i<m.length→(m.getD i []).length=m.length):=hsq
 clear hsq
 have hle:=hM.le
 have hn' :(n:Int)≤12:=by omega
 go_enter Tryz.func80,Tryz.ntmps80
 go_wp2_with fail
 go_loopw [3,8] (fun o i wr=> ∃ k:Nat,k≤n∧i= .int .i64 k∧Below w.heap.size w wr∧ ∃ xs:List (Nat×(Nat→Int)),OwnF (from_ w.heap.size) w.heap.size wr 26 1 (blkF n) o xs∧Hid (xs.length=k∧(∀ r (hr:r<xs.length),(xs[r]).2=at2 m r∧(xs[r]).1<wr.heap.size)∧ ∀ r s (hr:r<xs.length) (hs:s<xs.length),r≠s→(xs[r]).1≠(xs[s]).1)) (fun _ i _=>n - (intOf i).toNat)
 case atStart=>exact⟨0,by omega,rfl,Below.refl _ _,[],OwnF.empty,rfl,fun r hr=>absurd hr (Nat.not_lt_zero r),fun r s hr=>absurd hr (Nat.not_lt_zero r)⟩
 case round=>
  obtain⟨k,hk,rfl,hbr,xs,hown,XS⟩:=hrel
  have hwr:w.heap.size≤wr.heap.size:=hbr.size
  have OW:Hid (OwnF (from_ w.heap.size) w.heap.size wr 26 1 (blkF n) _ xs):=hown
  clear hown
  by_cases hlt:k<n
  ·have hkl:k<m.length:=by have:=NL.out;omega
   obtain⟨b,off,row,hix,hblt,hrow,ao2,n2,cap2,rfl,hR,h8⟩:=(hM.below lineF_firm hbr).toR.index (P:=Tryz.prog) Tryz.underlying78 size_ints (i:=k) hkl
   have c0:=hrow.one
   simp only[Nat.mul_one]at hix c0
   have hn2:n2=n:=by
    have h1:=hR.len
    have h2:=SQ.out k hkl
    rw[line_getD m k hkl]at h2
    have:=NL.out
    omega
   subst hn2
   have hk1:(k:Int)<n2:=by omega
   go_wp2_with fail
   refine(cloneI_any F ao2 n2 cap2 m[k] _ hR (by omega) (by omega)).mono ?_
   rintro e w1 ⟨g,rc,cur,rfl,hb1,hg,h1,h2,hh,hc⟩
   have hs1:wr.heap.size≤w1.heap.size:=hb1.size
   have hglt:g<w1.heap.size:=(Array.getElem?_eq_some_iff.1 hh).1
   have M2:=(OW.out.below (blkF_firm n2) hb1).alloc (blkF_firm n2) (.cells #[.slice (some ⟨g,0,none⟩) n2 rc] 26)
   have HM2:=Lib.hid M2
   have HY:Hid (blkF n2 (off_ (from_ w.heap.size) u3) (w1.alloc (.cells #[.slice (some ⟨g,0,none⟩) n2 rc] 26)) [.slice (some ⟨g,0,none⟩) n2 rc] (g,at2 m k)):=by
    refine(blkF_firm n2) (off_ (from_ w.heap.size) u3) _ w1 _ _ _ (Same.below (Joins.below_alloc1 w1 _)) ⟨off_new OW.out hwr g hg,rc,cur,rfl,h1,h2,hh,fun c hcn=>?_⟩
    rw[hc c hcn]
    simp[at2,List.getElem?_eq_getElem hkl]
   have hk2:Hid (xs.length=k):=XS.out.1
   have hw2:w.heap.size≤w1.heap.size:=by omega
   have HC:=Lib.hid hc
   have HH:=Lib.hid hh
   clear M2 hc hh
   go_wp2_with (first
    |(at_builtin;go_loud (refine wpList_append_F rfl _ _ 78 rfl w.heap.size 26 i1 (.slice none 0 0) 1 24 Tryz.underlying78 hi' hy0 hy1 hy2 rfl (by decide) _ k rfl HM2.out hk2.out (blkF_firm n2) (g,at2 m k) [.slice (some ⟨g,0,none⟩) n2 rc] ⟨w1.heap.size,0,none⟩ rfl rfl (cell_one_new _ _ _) (fun u hu=>by rw[List.mem_singleton.1 hu];rfl) HY.out (by omega) (by decide) (by simp;omega) ?_);intro ra5 rc5 w5 hown' hgrow hb5)
    |fail)
   have hs5:w1.heap.size+1≤w5.heap.size:=by have:=hb5.size;simpa using this
   have XS' :Hid ((xs++[(g,at2 m k)]).length=k+1∧(∀ r (hr:r<(xs++[(g,at2 m k)]).length),((xs++[(g,at2 m k)])[r]).2=at2 m r∧((xs++[(g,at2 m k)])[r]).1<w5.heap.size)∧ ∀ r s (hr:r<(xs++[(g,at2 m k)]).length) (hs:s<(xs++[(g,at2 m k)]).length),r≠s→((xs++[(g,at2 m k)])[r]).1≠((xs++[(g,at2 m k)])[s]).1):=by
    obtain⟨x1,x2,x3⟩:=XS.out
    refine⟨by simp[x1],fun r hr=>?_,fun r s hr hs hrs=>?_⟩
    ·by_cases hrk:r<xs.length
     ·rw[List.getElem_append_left hrk]
      have:=x2 r hrk
      exact⟨this.1,by omega⟩
     ·have hr' :r=xs.length:=by simp at hr;omega
      subst hr'
      rw[List.getElem_append_right (Nat.le_refl _)]
      simp only[Nat.sub_self,List.getElem_cons_zero]
      exact⟨by rw[x1],by omega⟩
    ·by_cases hrk:r<xs.length
     ·by_cases hsk:s<xs.length
      ·rw[List.getElem_append_left hrk,List.getElem_append_left hsk]
       exact x3 r s hrk hsk hrs
      ·have hs' :s=xs.length:=by simp at hs;omega
       subst hs'
       rw[List.getElem_append_left hrk,List.getElem_append_right (Nat.le_refl _)]
       simp only[Nat.sub_self,List.getElem_cons_zero]
       have:=(x2 r hrk).2
       omega
     ·have hr' :r=xs.length:=by simp at hr;omega
      subst hr'
      have hsk:s<xs.length:=by simp at hs;omega
      rw[List.getElem_append_left hsk,List.getElem_append_right (Nat.le_refl _)]
      simp only[Nat.sub_self,List.getElem_cons_zero]
      have:=(x2 s hsk).2
      omega
   exact⟨⟨k+1,by omega,by go_num,((hbr.trans (hb1.mono hwr)).alloc hw2 _).trans hb5,_,hown',XS'⟩,by simp[intOf];omega⟩
  ·obtain rfl:k=n:=by omega
   go_wp2
   go_ret
   obtain⟨x1,x2,x3⟩:=XS.out
   obtain⟨ao',cap',rfl,hG⟩:=OW.out.grid x1 (G:=from_ w.heap.size) (fun b _ h=>h.elim id id) x3
   exact⟨ao',cap',_,rfl,hbr,hG.congr fun r c hr hc=>by
    have:xs.getD r (0,fun _=>0)=xs[r]:=by simp[List.getD,List.getElem?_eq_getElem (show r<xs.length by omega)]
    rw[this,(x2 r (by omega)).1]⟩
end Go.Proofs.YtncmghnhfipklaaGreatDoor
/-
  The walks of package bound and its reference, tenth part: two matrices merged, and the laws of both and either.
-/
namespace Go.Proofs.YtncmghnhfipklaaGreatDoor
open Go.RowKit
set_option linter.unusedVariables false
set_option linter.unusedSimpArgs false
theorem own_row{F:Nat→Prop}{B:Nat}{w:World}{o:Value}{xs:List Int}(h:OwnF F B w 3 1 intF o xs)(h0:0<xs.length):
  ∃ g rc cur,o= .slice (some ⟨g,0,none⟩) xs.length rc∧B≤g∧xs.length≤rc∧rc≤maxLen∧w.heap[g]?=some (.cells cur 3 (0,0))∧ ∀ c,c<xs.length→cur[c]?=some (.int .i64 (xs.getD c 0)):=by
 obtain⟨rs,h1,h2⟩:=h
 rcases h1.2 with⟨_,h0'⟩|⟨g,rc,cur,rfl,hg,hh,hnc,hcm,hsz,htk⟩
 ·omega
 ·refine⟨g,rc,cur,rfl,hg,hnc,hcm,hh,fun c hc=>?_⟩
  obtain⟨row,h3,h4,h5⟩:=h2 c hc
  obtain rfl:=intF_one h5
  have h6:=h4 0 (by omega)
  simp only[Nat.mul_one,Nat.add_zero]at h6
  have h7:cur.toList[c]?=rs[c]?:=by rw[←htk,List.getElem?_take,if_pos (by omega)]
  rw[←Array.getElem?_toList,h7,h6]
  simp[List.getD,List.getElem?_eq_getElem hc]
theorem blocks_snoc{xs:List (Nat×(Nat→Int))}{k g s0 s5:Nat}{f:Nat→Nat→Int}(h:xs.length=k∧(∀ r (hr:r<xs.length),(xs[r]).2=f r∧(xs[r]).1<s0)∧ ∀ r s (hr:r<xs.length) (hs:s<xs.length),r≠s→(xs[r]).1≠(xs[s]).1)(h5:s0≤s5)(hg5:g<s5)(hg:s0≤g):
  (xs++[(g,f k)]).length=k+1∧(∀ r (hr:r<(xs++[(g,f k)]).length),((xs++[(g,f k)])[r]).2=f r∧((xs++[(g,f k)])[r]).1<s5)∧ ∀ r s (hr:r<(xs++[(g,f k)]).length) (hs:s<(xs++[(g,f k)]).length),r≠s→((xs++[(g,f k)])[r]).1≠((xs++[(g,f k)])[s]).1:=by
 obtain⟨x1,x2,x3⟩:=h
 refine⟨by simp[x1],fun r hr=>?_,fun r s hr hs hrs=>?_⟩
 ·by_cases hrk:r<xs.length
  ·rw[List.getElem_append_left hrk]
   have:=x2 r hrk
   exact⟨this.1,by omega⟩
  ·have hr' :r=xs.length:=by simp at hr;omega
   subst hr'
   rw[List.getElem_append_right (Nat.le_refl _)]
   simp only[Nat.sub_self,List.getElem_cons_zero]
   exact⟨by rw[x1],by omega⟩
 ·by_cases hrk:r<xs.length
  ·by_cases hsk:s<xs.length
   ·rw[List.getElem_append_left hrk,List.getElem_append_left hsk]
    exact x3 r s hrk hsk hrs
   ·have hs' :s=xs.length:=by simp at hs;omega
    subst hs'
    rw[List.getElem_append_left hrk,List.getElem_append_right (Nat.le_refl _)]
    simp only[Nat.sub_self,List.getElem_cons_zero]
    have:=(x2 r hrk).2
    omega
  ·have hr' :r=xs.length:=by simp at hr;omega
   subst hr'
   have hsk:s<xs.length:=by simp at hs;omega
   rw[List.getElem_append_left hsk,List.getElem_append_right (Nat.le_refl _)]
   simp only[Nat.sub_self,List.getElem_cons_zero]
   have:=(x2 s hsk).2
   omega
set_option maxHeartbeats 4000000 in
theorem matGrid_any(F:Nat→Prop)(ao:Option Addr)(n cap:Nat)(m:List (List Int))(w:World)(hM:SlF F w 1 lineF ao n cap m)(h12:n≤12)(hsq: ∀ i,i<m.length→(m.getD i []).length=m.length):
  Calls Tryz.prog 90 #[.slice ao n cap] w fun e w' => ∃ ao' cap' gs,e= .returned (.slice ao' n cap')∧Below w.heap.size w w' ∧Grid (from_ w.heap.size) w' ao' n cap' gs (at2 m):=by
 obtain⟨i0,hi,hz0,hz1,hz2⟩:=info_parts info_int
 obtain⟨i1,hi',hy0,hy1,hy2⟩:=info_parts info_ints
 have NL:Hid (n=m.length):=hM.len
 have SQ:Hid (∀ i,i<m.length→(m.getD i []).length=m.length):=hsq
 clear hsq
 have hle:=hM.le
 have hn' :(n:Int)≤12:=by omega
 go_enter Tryz.func90,Tryz.ntmps90
 go_wp2_with fail
 go_loopw [3,4] (fun o i wr=> ∃ k:Nat,k≤n∧i= .int .i64 k∧Below w.heap.size w wr∧ ∃ xs:List (Nat×(Nat→Int)),OwnF (from_ w.heap.size) w.heap.size wr 26 1 (blkF n) o xs∧Hid (xs.length=k∧(∀ r (hr:r<xs.length),(xs[r]).2=at2 m r∧(xs[r]).1<wr.heap.size)∧ ∀ r s (hr:r<xs.length) (hs:s<xs.length),r≠s→(xs[r]).1≠(xs[s]).1)) (fun _ i _=>n - (intOf i).toNat)
 case atStart=>exact⟨0,by omega,rfl,Below.refl _ _,[],OwnF.empty,rfl,fun r hr=>absurd hr (Nat.not_lt_zero r),fun r s hr=>absurd hr (Nat.not_lt_zero r)⟩
 case round=>
  obtain⟨k,hk,rfl,hbr,xs,hown,XS⟩:=hrel
  have hwr:w.heap.size≤wr.heap.size:=hbr.size
  have OW:Hid (OwnF (from_ w.heap.size) w.heap.size wr 26 1 (blkF n) _ xs):=hown
  clear hown
  obtain⟨hc_wr,hf_wr⟩:=bcell hbr;have hs_wr:=hbr.size
  by_cases hlt:k<n
  ·have hkl:k<m.length:=by have:=NL.out;omega
   obtain⟨b,off,row,hix,hblt,hrow,ao2,n2,cap2,rfl,hR,h8⟩:=(hM.below lineF_firm hbr).toR.index (P:=Tryz.prog) Tryz.underlying78 size_ints (i:=k) hkl
   have c0:=hrow.one
   simp only[Nat.mul_one]at hix c0
   have N2:Hid (n2=m[k].length):=hR.len
   have hn2:n2=n:=by
    have h1:=hR.len
    have h2:=SQ.out k hkl
    rw[line_getD m k hkl]at h2
    have:=NL.out
    omega
   subst hn2
   have hle2:=hR.le
   obtain⟨wo,rfl⟩: ∃ wo:World,wo=wr:=⟨_,rfl⟩
   go_wp2_with fail
   go_loopw [5,6] (fun r j wi=> ∃ q:Nat,q≤n2∧j= .int .i64 q∧Below wo.heap.size wo wi∧OwnF (from_ wo.heap.size) wo.heap.size wi 3 1 intF r (m[k].take q)) (fun _ j _=>n2 - (intOf j).toNat)
   case atStart=>exact⟨0,by omega,rfl,Below.refl _ _,OwnF.empty⟩
   case round=>
    obtain⟨q,hq,rfl,hbi,hown⟩:=hrel
    obtain⟨hc_wr,hf_wr⟩:=bcell hbi;have hs_wr:=hbi.size
    have cb:=(hbi.cell (p:=⟨b,off+k,none⟩) hblt).trans c0
    have hwi:wo.heap.size≤wr.heap.size:=hbi.size
    by_cases hqn:q<n2
    ·have hql:q<m[k].length:=by have:=N2.out;omega
     obtain⟨b2,off2,row2,hix2,hblt2,hrow2,hrr2⟩:=(hR.below intF_firm hbi).toR.index (P:=Tryz.prog) Tryz.underlying26 size_int (i:=q) hql
     obtain rfl:=intF_one hrr2
     have d0:=hrow2.one
     simp only[Nat.mul_one]at hix2 d0
     have hkk:Hid ((m[k].take q).length=q):=by show(m[k].take q).length=q;simp;omega
     go_wp2_with (first
      |(at_builtin;refine wpList_append_F rfl _ _ 26 rfl wo.heap.size 3 i0 (.int .i64 0) 1 8 Tryz.underlying26 hi hz0 hz1 hz2 rfl (by decide) _ q rfl (hown.alloc intF_firm _) hkk.out intF_firm m[k][q] [.int .i64 m[k][q]] ⟨wr.heap.size,0,none⟩ rfl rfl (cell_one_new _ _ _) (fun u hu=>by rw[List.mem_singleton.1 hu];rfl) rfl (by omega) (by decide) (by simp;omega) ?_;intro ra rc w5 hown' hgrow hb5)
      |fail)
     rw[List.take_append_getElem hql]at hown'
     exact⟨⟨q+1,by omega,by go_num,(Below.alloc hbi hwi _).trans hb5,hown'⟩,by simp[intOf];omega⟩
    ·have hown2:=hown
     rw[List.take_of_length_le (by have:=N2.out;omega)]at hown2
     obtain⟨g,rc,cur,hu5,hg,h1,h2,hh,hc⟩:=own_row hown2 (by have:=N2.out;omega)
     rw[←N2.out]at hu5 h1 hc
     subst hu5
     clear hown2 hown
     have hw1:w.heap.size≤wr.heap.size:=by omega
     have hglt:g<wr.heap.size:=(Array.getElem?_eq_some_iff.1 hh).1
     have HM2:=Lib.hid ((OW.out.below (blkF_firm n2) hbi).alloc (blkF_firm n2) (.cells #[.slice (some ⟨g,0,none⟩) n2 rc] 26))
     have HY:Hid (blkF n2 (off_ (from_ w.heap.size) u3) (wr.alloc (.cells #[.slice (some ⟨g,0,none⟩) n2 rc] 26)) [.slice (some ⟨g,0,none⟩) n2 rc] (g,at2 m k)):=by
      refine(blkF_firm n2) (off_ (from_ w.heap.size) u3) _ wr _ _ _ (Same.below (Joins.below_alloc1 wr _)) ⟨off_new OW.out hwr g hg,rc,cur,rfl,h1,h2,hh,fun c hcn=>?_⟩
      rw[hc c hcn]
      simp[at2,List.getElem?_eq_getElem hkl]
     have hk2:Hid (xs.length=k):=XS.out.1
     have HC:=Lib.hid hc
     have HH:=Lib.hid hh
     clear hc hh
     go_wp2_with (first
      |(at_builtin;go_loud (refine wpList_append_F rfl _ _ 78 rfl w.heap.size 26 i1 (.slice none 0 0) 1 24 Tryz.underlying78 hi' hy0 hy1 hy2 rfl (by decide) _ k rfl HM2.out hk2.out (blkF_firm n2) (g,at2 m k) [.slice (some ⟨g,0,none⟩) n2 rc] ⟨wr.heap.size,0,none⟩ rfl rfl (cell_one_new _ _ _) (fun u hu=>by rw[List.mem_singleton.1 hu];rfl) HY.out (by omega) (by decide) (by simp;omega) ?_);intro ra5 rc5 w5 hown' hgrow hb5)
      |fail)
     have hs5:wr.heap.size+1≤w5.heap.size:=by have:=hb5.size;simpa using this
     have XS' :Hid ((xs++[(g,at2 m k)]).length=k+1∧(∀ r (hr:r<(xs++[(g,at2 m k)]).length),((xs++[(g,at2 m k)])[r]).2=at2 m r∧((xs++[(g,at2 m k)])[r]).1<w5.heap.size)∧ ∀ r s (hr:r<(xs++[(g,at2 m k)]).length) (hs:s<(xs++[(g,at2 m k)]).length),r≠s→((xs++[(g,at2 m k)])[r]).1≠((xs++[(g,at2 m k)])[s]).1):=by
      exact blocks_snoc XS.out (by omega) (by omega) hg
     exact⟨⟨k+1,by omega,by go_num,((hbr.trans (hbi.mono hwr)).alloc hw1 _).trans hb5,_,hown',XS'⟩,by simp[intOf];omega⟩
  ·obtain rfl:k=n:=by omega
   go_wp2
   go_ret
   obtain⟨x1,x2,x3⟩:=XS.out
   obtain⟨ao',cap',rfl,hG⟩:=OW.out.grid x1 (G:=from_ w.heap.size) (fun b _ h=>h.elim id id) x3
   exact⟨ao',cap',_,rfl,hbr,hG.congr fun r c hr hc=>by
    have:xs.getD r (0,fun _=>0)=xs[r]:=by simp[List.getD,List.getElem?_eq_getElem (show r<xs.length by omega)]
    rw[this,(x2 r (by omega)).1]⟩
end Go.Proofs.YtncmghnhfipklaaGreatDoor
