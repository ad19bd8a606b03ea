/-
  A matrix that a call has given, held still: where its rows and its entries lie.
-/
import Derived.Test.YtncmghnhfipklaaGreatDoorPw13
import Derived.Test.YtncmghnhfipklaaGreatDoorPw05
import Derived.Test.YtncmghnhfipklaaGreatDoorPu00
namespace Go.Proofs.YtncmghnhfipklaaGreatDoor
open Go.RowKit
set_option linter.unusedVariables false
set_option linter.unusedSimpArgs false
structure LinX (F:Nat→Prop) (w:World) (A off n:Nat) (ra:Nat→Option Addr) (rc B o:Nat→Nat) (g:Mx):Prop where
 row: ∀ i,i<n→F A∧A<w.heap.size∧w.cell? ⟨A,off+i,none⟩=some (.slice (ra i) n (rc i))
 val: ∀ i,i<n→ ∀ j,j<n→F (B i)∧B i<w.heap.size∧w.cell? ⟨B i,o i+j,none⟩=some (.int .i64 (g i j))
structure LinI (ao:Option Addr) (cap A off n:Nat) (ra:Nat→Option Addr) (rc B o:Nat→Nat):Prop where
 row: ∀ i,i<n→ ∀ wx,(Instr.indexAt 78 (.slice ao n cap) (.int .i64 i)).run Tryz.prog wx= .ok (.pointer (some ⟨A,off+i,none⟩)) wx
 val: ∀ i,i<n→ ∀ j,j<n→ ∀ wx,(Instr.indexAt 26 (.slice (ra i) n (rc i)) (.int .i64 j)).run Tryz.prog wx= .ok (.pointer (some ⟨B i,o i+j,none⟩)) wx
theorem ix_mat{A off n cap i:Nat}(hi:i<n)(hle:n≤cap)(wx:World):(Instr.indexAt 78 (.slice (some ⟨A,off,none⟩) n cap) (.int .i64 i)).run Tryz.prog wx= .ok (.pointer (some ⟨A,off+i,none⟩)) wx:=by
 simp[Instr.indexAt,run_underlying Tryz.underlying78,asIntOf,size_ints wx,Addr.add]
 rw[if_pos (by omega)]
 by_cases e0:i=0
 ·rw[if_pos e0,e0];rfl
 ·rw[if_neg e0]
theorem ix_row{A off n cap i:Nat}(hi:i<n)(hle:n≤cap)(wx:World):(Instr.indexAt 26 (.slice (some ⟨A,off,none⟩) n cap) (.int .i64 i)).run Tryz.prog wx= .ok (.pointer (some ⟨A,off+i,none⟩)) wx:=by
 simp[Instr.indexAt,run_underlying Tryz.underlying26,asIntOf,size_int wx,Addr.add]
 rw[if_pos (by omega)]
 by_cases e0:i=0
 ·rw[if_pos e0,e0];rfl
 ·rw[if_neg e0]
theorem lin_of{F:Nat→Prop}{w:World}{ao:Option Addr}{n cap:Nat}{m:List (List Int)}(h:SlF F w 1 lineF ao n cap m)(hsq: ∀ i (hi:i<m.length),m[i].length=m.length)(hn:0<n):
  ∃ A off ra rc B o,LinI ao cap A off n ra rc B o∧LinX F w A off n ra rc B o (at2 m):=by
 have hle:=h.le
 have hl:=h.len
 obtain⟨A,off,row0,e0, -⟩:=h.2.2.2.2 0 (by omega)
 subst e0
 have key: ∀ i,∃ (ra:Option Addr) (rc B o:Nat),i<n→F A∧A<w.heap.size∧w.cell? ⟨A,off+i,none⟩=some (.slice ra n rc)∧n≤rc∧ra=some ⟨B,o,none⟩∧ ∀ j,j<n→F B∧B<w.heap.size∧w.cell? ⟨B,o+j,none⟩=some (.int .i64 (at2 m i j)):=fun i=>by
  by_cases hi:i<n
  ·have him:i<m.length:=by omega
   obtain⟨b,of_,row,e,hF,hlt,hr,ra,n2,rc,rfl,hR,h8⟩:=h.2.2.2.2 i him
   injection e with e;injection e with e1 e2;subst e1;subst e2
   have hn2:n2=n:=by have:=hR.len;have:=hsq i him;omega
   subst hn2
   obtain⟨B,o,row2,e2, -⟩:=hR.2.2.2.2 0 (by have:=hR.len;omega)
   subst e2
   refine⟨_,rc,B,o,fun _=>⟨hF,hlt,?_,hR.le.1,rfl,fun j hj=>?_⟩⟩
   ·have:=hr.2 0 (by omega)
    simpa using this
   ·obtain⟨B2,o2,row2,e2,hF2,hlt2,hr2,hx2⟩:=hR.2.2.2.2 j (by have:=hR.len;omega)
    injection e2 with e2;injection e2 with e3 e4;subst e3;subst e4
    obtain rfl:=intF_one hx2
    have:=hr2.2 0 (by omega)
    refine⟨hF2,hlt2,?_⟩
    have hjm:j<m[i].length:=by have:=hR.len;omega
    rw[show at2 m i j=m[i][j]by simp[at2,List.getD,List.getElem?_eq_getElem him,List.getElem?_eq_getElem hjm]]
    simpa using this
  ·exact⟨none,0,0,0,fun h=>absurd h hi⟩
 obtain⟨ra,h1⟩:=Classical.axiomOfChoice key
 obtain⟨rc,h2⟩:=Classical.axiomOfChoice h1
 obtain⟨B,h3⟩:=Classical.axiomOfChoice h2
 obtain⟨o,h4⟩:=Classical.axiomOfChoice h3
 refine⟨A,off,ra,rc,B,o,⟨fun i hi wx=>ix_mat hi hle.1 wx,fun i hi j hj wx=>?_⟩,⟨fun i hi=>⟨(h4 i hi).1,(h4 i hi).2.1,(h4 i hi).2.2.1⟩,fun i hi j hj=>(h4 i hi).2.2.2.2.2 j hj⟩⟩
 rw[(h4 i hi).2.2.2.2.1]
 exact ix_row hj (h4 i hi).2.2.2.1 wx
abbrev lin(A off n:Nat)(ra:Nat→Option Addr)(rc B o:Nat→Nat)(g:Mx):Ent:=dat (fun F w=>LinX F w A off n ra rc B o g)
section
variable {At:PS→World→Prop} {b:Nat} {u w w' :World} {s:PS} {L:List Ent} {A off n:Nat} {ra:Nat→Option Addr} {rc B o:Nat→Nat} {g:Mx}
theorem LinX.same{F G:Nat→Prop}(h:LinX F w A off n ra rc B o g)(hs:Same F G w w'):LinX G w' A off n ra rc B o g:=by
 refine⟨fun i hi=>?_,fun i hi j hj=>?_⟩
 ·obtain⟨h1,h2,h3⟩:=h.row i hi
  have:=hs.2 A h1 h2
  exact⟨this.1,Nat.lt_of_lt_of_le h2 hs.1,(World.cell?_of_block (w:=w) (a:=⟨A,off+i,none⟩) this.2).trans h3⟩
 ·obtain⟨h1,h2,h3⟩:=h.val i hi j hj
  have:=hs.2 (B i) h1 h2
  exact⟨this.1,Nat.lt_of_lt_of_le h2 hs.1,(World.cell?_of_block (w:=w) (a:=⟨B i,o i+j,none⟩) this.2).trans h3⟩
theorem Mem.lpush{F:Nat→Prop}(M:Mem At b u w s L)(hb:Below w.heap.size w w')(h:LinX F w' A off n ra rc B o g)(hF: ∀ y,F y→w.heap.size≤y):Mem At b u w' s (lin A off n ra rc B o g::L):=
 M.push hb (fun F G w w' hsz hk _ _ h=>h.same ⟨hsz,fun k hF hlt=>hk k hlt hF⟩) (fun z hz=>by cases hz) (fun G hG=>h.same ⟨Nat.le_refl _,fun k hk hlt=>⟨hG k (hF k hk) hlt (fun q=>by cases q),rfl⟩⟩)
theorem Mem.lrow{i r:Nat}(M:Mem At b u w s L)(hi:L[i]?=some (lin A off n ra rc B o g))(hr:r<n):w.cell? ⟨A,off+r,none⟩=some (.slice (ra r) n (rc r)):=((M.dat_ hi).row r hr).2.2
theorem Mem.lval{i r c:Nat}(M:Mem At b u w s L)(hi:L[i]?=some (lin A off n ra rc B o g))(hr:r<n)(hc:c<n):w.cell? ⟨B r,o r+c,none⟩=some (.int .i64 (g r c)):=((M.dat_ hi).val r hr c hc).2.2
end
instance iStFour:StI Tryz.prog 137 4:=⟨by kernel_rfl,_,Tryz.underlying137,rfl⟩
instance iZeFour:ZeI Tryz.prog 137 [.int .i64 0,.int .i64 0,.int .i64 0,.int .i64 0]:=⟨⟨by kernel_rfl⟩⟩
section
variable {At:PS→World→Prop} {g:Nat} {w0 wE:World} {L:List Ent} {zf A m cap nc:Nat} {na:Option Addr} {gs rcs:Nat→Nat} {G:Mx} {l:List Pat} {k:Lnk} {ao:Option Addr} {n c:Nat} {F:Nat→Prop}
theorem sindex_pat(hg:g<wE.heap.size)(hX:SlF F wE 1 (plainF strC) na l.length nc (l.map Pat.var))(nm:ByteArray){v:Int}(hv:placeV (patI l nm) l.length=v):
  Calls Tryz.prog 62 #[.slice na l.length nc,.string nm] wE fun e w' =>e= .returned (.int .i64 v)∧Below wE.heap.size wE w' :=by
 have h:=sindex_any hg hX nm
 rw[patI_map,List.length_map,hv]at h
 exact h
abbrev FrL(zf:Nat)(na:Option Addr)(nc A m cap:Nat)(gs rcs:Nat→Nat)(G:Mx)(l:List Pat)(L:List Ent):List Ent:=
 grd A m cap gs rcs G::own zf [.slice na l.length nc,.slice (some ⟨A,0,none⟩) m cap] 107::dat (fun F w=>SlF F w 1 (plainF strC) na l.length nc (l.map Pat.var))::L
set_option maxRecDepth 8000 in
set_option maxHeartbeats 8000000 in
theorem link_none(M:Mem (StaysB g w0) g w0 wE ⟨0,0⟩ (FrL zf na nc A m cap gs rcs G l L))(hk: ¬(patI l k.left<l.length∧patI l k.right<l.length)):
  Calls Tryz.prog 48 #[.pointer (some ⟨zf,0,none⟩),.agg #[.string k.left,.slice ao n c,.string k.right]] wE fun e w' =>e= .returned (.bool true)∧Mem (StaysB g w0) g w0 w' ⟨0,0⟩ (FrL zf na nc A m cap gs rcs G l L):=by
 obtain⟨va,hva⟩: ∃ v,placeV (patI l k.left) l.length=v:=⟨_,rfl⟩
 obtain⟨vb,hvb⟩: ∃ v,placeV (patI l k.right) l.length=v:=⟨_,rfl⟩
 have HSA:=Lib.hid (fun(F:Nat→Prop) (w:World) (hg:g<w.heap.size) (hX:SlF F w 1 (plainF strC) na l.length nc (l.map Pat.var))=>sindex_pat hg hX k.left hva)
 have HSB:=Lib.hid (fun(F:Nat→Prop) (w:World) (hg:g<w.heap.size) (hX:SlF F w 1 (plainF strC) na l.length nc (l.map Pat.var))=>sindex_pat hg hX k.right hvb)
 have hneg:va= -1∨(va≠ -1∧vb= -1):=by
  unfold placeV at hva hvb
  by_cases h1:patI l k.left<l.length
  ·right
   rw[if_pos h1]at hva
   rw[if_neg (fun q=>hk ⟨h1,q⟩)]at hvb
   omega
  ·left
   rw[if_neg h1]at hva
   omega
 clear hva hvb hk
 generalize k.left=s1 at HSA
 generalize k.right=s2 at HSB
 go_enter Tryz.func48,Tryz.ntmps48
 go_upto_region 1 with(with_reducible (refine wB M ?_;clear M;intro zb w1 M))
 ((refine wp_region_first [0,1,2,3,4,5,7,8,9,10,11,12,14,15] [(true,0),(true,1),(true,2),(true,3),(true,4),(true,5),(true,7),(true,8),(true,9),(true,10),(true,11),(true,12),(false,6),(false,13),(true,14),(true,15)] (fun _ M=>M) M (by kernel_rfl) (by kernel_rfl) (fun _ _ _ _ _ h=>h) ?_);clear M;intro w M;(repeat(first|((with_reducible refine m_read rfl M.kept fun K hK=>?_);(first|(refine r_load (l' :=?_) ⟨_,M.kept⟩ (fun w M=>?_) ?_;rotate_left;focus((refine q_get M (by exact rfl) ?_);refine⟨rfl,?_⟩;with_reducible rfl))|(refine r_pure (v:=?_) rfl (fun w=>?_) ?_;rotate_left;focus(go_simp;try with_reducible rfl)));(try go_simp);with_reducible refine hK _ ?_;clear hK K)|((with_reducible refine m_step rfl rfl fun K hK=>?_);(first|((refine owp_of ?_;go_simp;(go_at_call 62;have hd:=M.dat_ (i:=3) rfl;have hq:=HSA.out _ _ (Nat.lt_of_lt_of_le M.lt M.but.size) hd;with_reducible refine hq.mono ?_;clear hq hd;rintro e w5 ⟨rfl,hb5⟩;replace M:=M.below hb5;clear hb5)))|((refine owp_of ?_;go_simp;(go_at_call 62;have hd:=M.dat_ (i:=3) rfl;have hq:=HSB.out _ _ (Nat.lt_of_lt_of_le M.lt M.but.size) hd;with_reducible refine hq.mono ?_;clear hq hd;rintro e w5 ⟨rfl,hb5⟩;replace M:=M.below hb5;clear hb5))));(try go_simp);with_reducible refine hK _ _ M.kept ?_;clear hK K)));(with_reducible refine m_nil ?_))
 rcases hneg with e|⟨hne,e⟩
 ·subst e
  go_wp2_with (with_reducible (first|refine wq M ?_|(refine wS M ?_;clear M;intro w M)|(refine wV M ?_;clear M;intro z w M)|(refine wR M ?_;clear M;intro q w M)))
  go_ret
  exact⟨rfl,M.drop⟩
 ·subst e
  by_cases h0:va<0
  ·go_wp2_with (with_reducible (first|refine wq M ?_|(refine wS M ?_;clear M;intro w M)|(refine wV M ?_;clear M;intro z w M)|(refine wR M ?_;clear M;intro q w M)))
   go_ret
   exact⟨rfl,M.drop⟩
  ·go_wp2_with (with_reducible (first|refine wq M ?_|(refine wS M ?_;clear M;intro w M)|(refine wV M ?_;clear M;intro z w M)|(refine wR M ?_;clear M;intro q w M)))
   go_ret
   exact⟨rfl,M.drop⟩
set_option maxRecDepth 8000 in
set_option maxHeartbeats 8000000 in
theorem link_bad(M:Mem (StaysB g w0) g w0 wE ⟨0,0⟩ (FrL zf na nc A m cap gs rcs G l L))(X:SlF F w0 3 optF ao n c k.opts)(h6:l.length≤1000)(ha:patI l k.left<l.length)(hb:patI l k.right<l.length)(hc:codeO k.opts (listO k.opts)≠0):
  Calls Tryz.prog 48 #[.pointer (some ⟨zf,0,none⟩),.agg #[.string k.left,.slice ao n c,.string k.right]] wE fun e w' =>e= .returned (.bool false)∧Mem (StaysB g w0) g w0 w' ⟨0,0⟩ (FrL zf na nc A m cap gs rcs G l L):=by
 have hva:placeV (patI l k.left) l.length=(patI l k.left:Int):=by unfold placeV;rw[if_pos ha]
 have hvb:placeV (patI l k.right) l.length=(patI l k.right:Int):=by unfold placeV;rw[if_pos hb]
 have HSA:=Lib.hid (fun(F:Nat→Prop) (w:World) (hg:g<w.heap.size) (hX:SlF F w 1 (plainF strC) na l.length nc (l.map Pat.var))=>sindex_pat hg hX k.left hva)
 have HSB:=Lib.hid (fun(F:Nat→Prop) (w:World) (hg:g<w.heap.size) (hX:SlF F w 1 (plainF strC) na l.length nc (l.map Pat.var))=>sindex_pat hg hX k.right hvb)
 have HO:Hid (∀ wx,Below w0.heap.size w0 wx→Calls Tryz.prog 78 #[.slice ao n c] wx (OptsPost2 k.opts wx)):=fun wx hx=>(options_any F ao n c k.opts wx (X.below optF_firm hx)).mono (fun e w' h=>opts_two h)
 unfold OptsPost2 at HO
 have hcq:(codeO k.opts (listO k.opts)==0)=false:=by simpa using hc
 have hpa:patI l k.left≤1000:=by omega
 have hpb:patI l k.right≤1000:=by omega
 clear hva hvb hc ha hb X
 generalize codeO k.opts (listO k.opts)=q at HO hcq
 generalize patI l k.left=pa at HSA hpa
 generalize patI l k.right=pb at HSB hpb
 generalize k.left=s1 at HSA
 generalize k.right=s2 at HSB
 go_enter Tryz.func48,Tryz.ntmps48
 go_upto_region 1 with(with_reducible (refine wB M ?_;clear M;intro zb w1 M))
 ((refine wp_region_first [0,1,2,3,4,5,7,8,9,10,11,12,14,15] [(true,0),(true,1),(true,2),(true,3),(true,4),(true,5),(true,7),(true,8),(true,9),(true,10),(true,11),(true,12),(false,6),(false,13),(true,14),(true,15)] (fun _ M=>M) M (by kernel_rfl) (by kernel_rfl) (fun _ _ _ _ _ h=>h) ?_);clear M;intro w M;(repeat(first|((with_reducible refine m_read rfl M.kept fun K hK=>?_);(first|(refine r_load (l' :=?_) ⟨_,M.kept⟩ (fun w M=>?_) ?_;rotate_left;focus((refine q_get M (by exact rfl) ?_);refine⟨rfl,?_⟩;with_reducible rfl))|(refine r_pure (v:=?_) rfl (fun w=>?_) ?_;rotate_left;focus(go_simp;try with_reducible rfl)));(try go_simp);with_reducible refine hK _ ?_;clear hK K)|((with_reducible refine m_step rfl rfl fun K hK=>?_);(first|((refine owp_of ?_;go_simp;(go_at_call 62;have hd:=M.dat_ (i:=3) rfl;have hq:=HSA.out _ _ (Nat.lt_of_lt_of_le M.lt M.but.size) hd;with_reducible refine hq.mono ?_;clear hq hd;rintro e w5 ⟨rfl,hb5⟩;replace M:=M.below hb5;clear hb5)))|((refine owp_of ?_;go_simp;(go_at_call 62;have hd:=M.dat_ (i:=3) rfl;have hq:=HSB.out _ _ (Nat.lt_of_lt_of_le M.lt M.but.size) hd;with_reducible refine hq.mono ?_;clear hq hd;rintro e w5 ⟨rfl,hb5⟩;replace M:=M.below hb5;clear hb5))));(try go_simp);with_reducible refine hK _ _ M.kept ?_;clear hK K)));(with_reducible refine m_nil ?_))
 go_wp2_with (first|(go_at_call 78;have hq:=HO.out _ M.new;with_reducible refine hq.mono ?_;clear hq;rintro e w5 ⟨ao5,n5,cap5,rfl,hb5,hS5⟩;replace M:=M.below hb5;clear hb5 hS5)|(with_reducible refine wq M ?_))
 go_ret
 exact⟨rfl,M.drop⟩
theorem four_read{b:Nat}{u w:World}{s:PS}{L:List Ent}{z i r pa pb:Nat}{t:TypeId}(M:Mem At b u w s L)(hi:L[i]?=some (own z [.int .i64 (2*(pa:Int)),.int .i64 (2*(pa:Int)+1),.int .i64 (2*(pb:Int)),.int .i64 (2*(pb:Int)+1)] t))(hr:r<4):w.cell? ⟨z,r,none⟩=some (.int .i64 (atG pa pb r)):=by
 rw[(M.own_ (Mem.of_get hi)).cell r]
 unfold atG
 match r,hr with
 |0,_|1,_|2,_|3,_=>simp
def rowsK(o:Mx)(a b:Nat)(G:Mx)(r:Nat):Mx:=(List.range r).foldl (rowL o a b) G
def celsK(o:Mx)(a b r:Nat)(G:Mx)(c:Nat):Mx:=(List.range c).foldl (celL o a b r) G
theorem rowsK_next(o:Mx)(a b:Nat)(G:Mx)(r:Nat):rowsK o a b G (r+1)=celsK o a b r (rowsK o a b G r) 4:=by
 unfold rowsK
 rw[List.range_succ,List.foldl_append]
 rfl
theorem celsK_next(o:Mx)(a b r:Nat)(G:Mx)(c:Nat):celsK o a b r G (c+1)=celL o a b r (celsK o a b r G c) c:=by
 unfold celsK
 rw[List.range_succ,List.foldl_append]
 rfl
set_option maxRecDepth 8000 in
set_option maxHeartbeats 8000000 in
theorem link_good(M:Mem (StaysB g w0) g w0 wE ⟨0,0⟩ (FrL zf na nc A m cap gs rcs G l L))(X:SlF F w0 3 optF ao n c k.opts)(h6:l.length≤1000)(hm:m=2*l.length)(ha:patI l k.left<l.length)(hb:patI l k.right<l.length)(hc:codeO k.opts (listO k.opts)=0)(h4:(listO k.opts).length=4)(h44: ∀ i (hi:i<(listO k.opts).length),(listO k.opts)[i].length=(listO k.opts).length):
  Calls Tryz.prog 48 #[.pointer (some ⟨zf,0,none⟩),.agg #[.string k.left,.slice ao n c,.string k.right]] wE fun e w' =>e= .returned (.bool true)∧Mem (StaysB g w0) g w0 w' ⟨0,0⟩ (FrL zf na nc A m cap gs rcs (lnkG (at2 (listO k.opts)) (patI l k.left) (patI l k.right) G) l L):=by
 have hva:placeV (patI l k.left) l.length=(patI l k.left:Int):=by unfold placeV;rw[if_pos ha]
 have hvb:placeV (patI l k.right) l.length=(patI l k.right:Int):=by unfold placeV;rw[if_pos hb]
 have HSA:=Lib.hid (fun(F:Nat→Prop) (w:World) (hg:g<w.heap.size) (hX:SlF F w 1 (plainF strC) na l.length nc (l.map Pat.var))=>sindex_pat hg hX k.left hva)
 have HSB:=Lib.hid (fun(F:Nat→Prop) (w:World) (hg:g<w.heap.size) (hX:SlF F w 1 (plainF strC) na l.length nc (l.map Pat.var))=>sindex_pat hg hX k.right hvb)
 have HO:Hid (∀ wx,Below w0.heap.size w0 wx→Calls Tryz.prog 78 #[.slice ao n c] wx (OptsPost2 k.opts wx)):=fun wx hx=>(options_any F ao n c k.opts wx (X.below optF_firm hx)).mono (fun e w' h=>opts_two h)
 unfold OptsPost2 at HO
 rw[hc]at HO
 have hpa:patI l k.left≤1000:=by omega
 have hpb:patI l k.right≤1000:=by omega
 have HLT:Hid (∀ r,atG (patI l k.left) (patI l k.right) r<m):=fun r=>by rw[hm];exact atG_lt ha hb
 have H4:=Lib.hid h4
 have H44:=Lib.hid h44
 clear hva hvb hc ha hb X h4 h44 hm
 generalize listO k.opts=os at HO H4 H44 ⊢
 generalize patI l k.left=pa at HSA hpa HLT ⊢
 generalize patI l k.right=pb at HSB hpb HLT ⊢
 have HE:Hid (rowsK (at2 os) pa pb G 4=lnkG (at2 os) pa pb G):=rfl
 generalize k.left=s1 at HSA
 generalize k.right=s2 at HSB
 go_enter Tryz.func48,Tryz.ntmps48
 go_upto_region 1 with(with_reducible (refine wB M ?_;clear M;intro zb w1 M))
 ((refine wp_region_first [0,1,2,3,4,5,7,8,9,10,11,12,14,15] [(true,0),(true,1),(true,2),(true,3),(true,4),(true,5),(true,7),(true,8),(true,9),(true,10),(true,11),(true,12),(false,6),(false,13),(true,14),(true,15)] (fun _ M=>M) M (by kernel_rfl) (by kernel_rfl) (fun _ _ _ _ _ h=>h) ?_);clear M;intro w M;(repeat(first|((with_reducible refine m_read rfl M.kept fun K hK=>?_);(first|(refine r_load (l' :=?_) ⟨_,M.kept⟩ (fun w M=>?_) ?_;rotate_left;focus((refine q_get M (by exact rfl) ?_);refine⟨rfl,?_⟩;with_reducible rfl))|(refine r_pure (v:=?_) rfl (fun w=>?_) ?_;rotate_left;focus(go_simp;try with_reducible rfl)));(try go_simp);with_reducible refine hK _ ?_;clear hK K)|((with_reducible refine m_step rfl rfl fun K hK=>?_);(first|((refine owp_of ?_;go_simp;(go_at_call 62;have hd:=M.dat_ (i:=3) rfl;have hq:=HSA.out _ _ (Nat.lt_of_lt_of_le M.lt M.but.size) hd;with_reducible refine hq.mono ?_;clear hq hd;rintro e w5 ⟨rfl,hb5⟩;replace M:=M.below hb5;clear hb5)))|((refine owp_of ?_;go_simp;(go_at_call 62;have hd:=M.dat_ (i:=3) rfl;have hq:=HSB.out _ _ (Nat.lt_of_lt_of_le M.lt M.but.size) hd;with_reducible refine hq.mono ?_;clear hq hd;rintro e w5 ⟨rfl,hb5⟩;replace M:=M.below hb5;clear hb5))));(try go_simp);with_reducible refine hK _ _ M.kept ?_;clear hK K)));(with_reducible refine m_nil ?_))
 go_wp2_with (first|(go_at_call 78;have hq:=HO.out _ M.new;with_reducible refine hq.mono ?_;clear hq;go_loud (rintro e w5 ⟨ao5,n5,cap5,rfl,hb5,hS5⟩;obtain rfl:n5=4:=hS5.len.trans H4.out;obtain⟨A5,of5,ra5,rc5,B5,o5,HI,HX5⟩:=lin_of hS5 H44.out (by decide);replace M:=M.lpush hb5 HX5 (fun y hy=>by unfold from_ at hy;exact hy);clear hb5 hS5 HX5))|(go_at_call 77;(first|with_reducible refine(pstart_any pa hpa _).mono ?_|with_reducible refine(pstart_any pb hpb _).mono ?_);rintro e w5 ⟨rfl,hb5⟩;replace M:=M.below hb5;clear hb5)|(go_at_call 26;(first|with_reducible refine(pend_any pa hpa _).mono ?_|with_reducible refine(pend_any pb hpb _).mono ?_);rintro e w5 ⟨rfl,hb5⟩;replace M:=M.below hb5;clear hb5)|(with_reducible (first|(refine wV M ?_;clear M;intro zt w M)|refine wq M ?_|(refine wS M ?_;clear M;intro w M))))
 go_loopg [51] 4 (fun f i wr=> ∃ r:Nat,r+f=4∧i= .int .i64 r∧Mem (StaysB g w0) g w0 wr ⟨0,0⟩ (own zt [.int .i64 (2*(pa:Int)),.int .i64 (2*(pa:Int)+1),.int .i64 (2*(pb:Int)),.int .i64 (2*(pb:Int)+1)] 137::lin A5 of5 4 ra5 rc5 B5 o5 (at2 os)::own zb [.string s1,.slice ao n c,.string s2] 97::FrL zf na nc A m cap gs rcs (rowsK (at2 os) pa pb G r) l L))
 case atStart=>exact⟨0,by omega,rfl,M⟩
 case round=>
  clear M
  obtain⟨r,hr,rfl,M⟩:=hrel
  by_cases hr4:r<4
  ·have hix1:=HI.row r hr4
   have HN:=Lib.hid (rowsK_next (at2 os) pa pb G r)
   generalize rowsK (at2 os) pa pb G r=G1 at HN M
   have hrt:decide ((r:Int)<4)=true:=by simpa using(by omega:(r:Int)<4)
   go_wp2_with (with_reducible (refine wC (M.lrow (i:=1) rfl hr4) ?_))
   go_loopg [59] 4 (fun f i wr=> ∃ q:Nat,q+f=4∧i= .int .i64 q∧Mem (StaysB g w0) g w0 wr ⟨0,0⟩ (own zt [.int .i64 (2*(pa:Int)),.int .i64 (2*(pa:Int)+1),.int .i64 (2*(pb:Int)),.int .i64 (2*(pb:Int)+1)] 137::lin A5 of5 4 ra5 rc5 B5 o5 (at2 os)::own zb [.string s1,.slice ao n c,.string s2] 97::FrL zf na nc A m cap gs rcs (celsK (at2 os) pa pb r G1 q) l L))
   case atStart=>exact⟨0,by omega,rfl,M⟩
   case round=>
    clear M
    simp only[hrt]at *
    obtain⟨q,hq,rfl,M⟩:=hrel
    by_cases hq4:q<4
    ·have hix2:=HI.val r hr4 q hq4
     have hf1:=fun wx=>four_at zt r hr4 wx
     have hf2:=fun wx=>four_at zt q hq4 wx
     have HC:=Lib.hid (celsK_next (at2 os) pa pb r G1 q)
     have hlr:=HLT.out r
     have hlq:=HLT.out q
     have HF1:Hid (∀ wx,Mem (StaysB g w0) g w0 wx ⟨0,0⟩ (own zt [.int .i64 (2*(pa:Int)),.int .i64 (2*(pa:Int)+1),.int .i64 (2*(pb:Int)),.int .i64 (2*(pb:Int)+1)] 137::lin A5 of5 4 ra5 rc5 B5 o5 (at2 os)::own zb [.string s1,.slice ao n c,.string s2] 97::FrL zf na nc A m cap gs rcs (celsK (at2 os) pa pb r G1 q) l L)→wx.cell? ⟨zt,r,none⟩=some (.int .i64 (atG pa pb r))∧wx.cell? ⟨zt,q,none⟩=some (.int .i64 (atG pa pb q))):=fun wx M=>⟨four_read M (i:=0) rfl hr4,four_read M (i:=0) rfl hq4⟩
     unfold celL at HC
     generalize atG pa pb r=ar at hlr HF1 HC
     generalize atG pa pb q=aq at hlq HF1 HC
     generalize celsK (at2 os) pa pb r G1 q=G2 at HC HF1 M
     have hgA: ∀ wx,(Instr.indexAt 78 (.slice (some ⟨A,0,none⟩) m cap) (.int .i64 (ar:Int))).run Tryz.prog wx= .ok (.pointer (some ⟨A,ar,none⟩)) wx:=fun wx=>(M.grid_ (i:=3) rfl).ixA hlr wx
     have hgR: ∀ wx,(Instr.indexAt 26 (.slice (some ⟨gs ar,0,none⟩) m (rcs ar)) (.int .i64 (aq:Int))).run Tryz.prog wx= .ok (.pointer (some ⟨gs ar,aq,none⟩)) wx:=fun wx=>(M.grid_ (i:=3) rfl).ixR hlr hlq wx
     go_upto_region 14 with(with_reducible (first|refine wq M ?_|(refine wS M ?_;clear M;intro w M)|(refine wV M ?_;clear M;intro z w M)|(refine wR M ?_;clear M;intro q w M)))
     ((refine wp_region_first [0,1,2,3,4,5,6,7,8,9,10,11,12,13,14,15,16,17,18,19,20,21,22,23,24,25,26,27,28,29,30,31,32,34] [(true,0),(true,1),(true,2),(true,3),(true,4),(true,5),(true,6),(true,7),(true,8),(true,9),(true,10),(true,11),(true,12),(true,13),(true,14),(true,15),(true,16),(true,17),(true,18),(true,19),(true,20),(true,21),(true,22),(true,23),(true,24),(true,25),(true,26),(true,27),(true,28),(true,29),(true,30),(true,31),(true,32),(false,33),(true,34),(false,35)] (fun _ M=>M) M (by kernel_rfl) (by kernel_rfl) (fun _ _ _ _ _ h=>h) ?_);clear M;intro w M;(repeat(first|((with_reducible refine m_read rfl M.kept fun K hK=>?_);(first|(refine r_load (l' :=?_) ⟨_,M.kept⟩ (fun w M=>?_) ?_;rotate_left;focus((first|(refine q_cellat (HF1.out _ M).1 ?_)|(refine q_cellat (HF1.out _ M).2 ?_)|(refine q_cellat (M.grow (i:=3) rfl hlr) ?_)|(refine q_cellat (M.gval (i:=3) rfl hlr hlq) ?_)|(refine q_cellat (M.lrow (i:=1) rfl hr4) ?_)|(refine q_cellat (M.lval (i:=1) rfl hr4 hq4) ?_)|refine q_get M (by exact rfl) ?_);refine⟨rfl,?_⟩;with_reducible rfl))|(refine r_pure (v:=?_) rfl (fun w=>?_) ?_;rotate_left;focus(go_simp;try with_reducible rfl)));(try go_simp);with_reducible refine hK _ ?_;clear hK K)|((with_reducible refine m_last rfl rfl (by with_unfolding_all decide+kernel) fun K hK=>?_);((refine q_gput M (i:=3) rfl hlr hlq ?_;clear M;intro w M;(try simp only[List.set_cons_zero,List.set_cons_succ]at M)));(try go_simp);with_reducible refine hK _ _ ?_;clear hK K)|((with_reducible refine m_step rfl rfl fun K hK=>?_);(refine owp_of ?_;go_simp);(try go_simp);with_reducible refine hK _ _ M.kept ?_;clear hK K)));(with_reducible refine m_nil ?_))
     rw[←HC.out]at M
     go_wp2_with (with_reducible (first|refine wq M ?_|(refine wS M ?_;clear M;intro w M)|(refine wV M ?_;clear M;intro z w M)|(refine wR M ?_;clear M;intro q w M)))
     go_roundg (4 - (q+1))
     case measure=>omega
     case rel=>exact⟨q+1,by omega,by go_num,M⟩
    ·have e:q=4:=by omega
     subst e
     rw[←HN.out]at M
     go_wp2_with (with_reducible (first|refine wq M ?_|(refine wS M ?_;clear M;intro w M)|(refine wV M ?_;clear M;intro z w M)|(refine wR M ?_;clear M;intro q w M)))
     go_roundg (4 - (r+1))
     case measure=>omega
     case rel=>exact⟨r+1,by omega,by go_num,M⟩
  ·have e:r=4:=by omega
   subst e
   rw[HE.out]at M
   go_wp2_with (with_reducible (first|refine wq M ?_|(refine wS M ?_;clear M;intro w M)|(refine wV M ?_;clear M;intro z w M)|(refine wR M ?_;clear M;intro q w M)))
   go_ret
   exact⟨rfl,M.drop.drop.drop⟩
end
def winI(n m:Nat)(wq nn:Nat→Int)(i j:Nat):Mx:=fun r c=>if r=c then 0 else if r % 2=0∧c=r+1∧r / 2<n then 0 else if r % 2=1∧c % 2=1∧r / 2<m∧c / 2<m∧wq (c / 2)=1∧(c / 2<i∨c / 2=i∧r / 2<j)then nn (c / 2)else NOB
section
variable {n m:Nat} {wq nn:Nat→Int} {i j r c:Nat}
theorem winI_zero:winI n m wq nn 0 0=fr0 n:=by
 funext r c
 unfold winI fr0
 split
 ·rfl
 ·split
  ·rfl
  ·rw[if_neg (by omega)]
theorem winI_same{i j i' j' :Nat}(h:r≠c→r % 2=1→c % 2=1→r / 2<m→c / 2<m→wq (c / 2)=1→((c / 2<i∨c / 2=i∧r / 2<j)↔(c / 2<i' ∨c / 2=i' ∧r / 2<j'))):winI n m wq nn i j r c=winI n m wq nn i' j' r c:=by
 unfold winI
 by_cases e:r=c
 ·rw[if_pos e,if_pos e]
 ·rw[if_neg e,if_neg e]
  by_cases e1:r % 2=0∧c=r+1∧r / 2<n
  ·rw[if_pos e1,if_pos e1]
  ·rw[if_neg e1,if_neg e1]
   by_cases e2:r % 2=1∧c % 2=1∧r / 2<m∧c / 2<m∧wq (c / 2)=1∧(c / 2<i∨c / 2=i∧r / 2<j)
   ·rw[if_pos e2,if_pos ⟨e2.1,e2.2.1,e2.2.2.1,e2.2.2.2.1,e2.2.2.2.2.1,(h e e2.1 e2.2.1 e2.2.2.1 e2.2.2.2.1 e2.2.2.2.2.1).1 e2.2.2.2.2.2⟩]
   ·rw[if_neg e2,if_neg fun q=>e2 ⟨q.1,q.2.1,q.2.2.1,q.2.2.2.1,q.2.2.2.2.1,(h e q.1 q.2.1 q.2.2.1 q.2.2.2.1 q.2.2.2.2.1).2 q.2.2.2.2.2⟩]
theorem winI_at(hij:j≠i)(hi:i<m)(hj:j<m):winI n m wq nn i j (2*j+1) (2*i+1)=NOB:=by
 unfold winI
 rw[if_neg (by omega),if_neg (by omega),if_neg (by omega)]
theorem winI_step(hw:wq i=1)(hij:j≠i)(hi:i<m)(hj:j<m)(hn:nn i≤NOB):setB (winI n m wq nn i j) (2*j+1) (2*i+1) (min (winI n m wq nn i j (2*j+1) (2*i+1)) (nn i)) r c=winI n m wq nn i (j+1) r c:=by
 by_cases e:r=2*j+1∧c=2*i+1
 ·obtain⟨rfl,rfl⟩:=e
  unfold setB
  rw[if_pos ⟨rfl,rfl⟩,winI_at hij hi hj]
  unfold winI
  have h1:(2*i+1) / 2=i:=by omega
  rw[if_neg (by omega),if_neg (by omega),h1,if_pos ⟨by omega,by omega,by omega,hi,hw,.inr ⟨rfl,by omega⟩⟩]
  exact Int.min_eq_right hn
 ·unfold setB
  rw[if_neg e]
  exact winI_same fun _ h1 h2 _ _ _=>by omega
theorem winI_skip:winI n m wq nn i i r c=winI n m wq nn i (i+1) r c:=winI_same fun h h1 h2 _ _ _=>by omega
theorem winI_next:winI n m wq nn i m r c=winI n m wq nn (i+1) 0 r c:=winI_same fun _ _ _ _ _ _=>by omega
theorem winI_none(hw:wq i≠1):winI n m wq nn i 0 r c=winI n m wq nn (i+1) 0 r c:=winI_same fun _ _ _ _ _ h=>by
 have:c / 2≠i:=fun e=>hw (e▸h)
 omega
end
theorem winI_all{w:List Pat}{n r c:Nat}(hr:r<2*n):winI n w.length (fun i=>(w.getD i pat0).window) (fun i=>(w.getD i pat0).n) w.length 0 r c=frG w r c:=by
 unfold winI frG
 by_cases e:r=c
 ·rw[if_pos e,if_pos e]
 ·rw[if_neg e,if_neg e]
  by_cases e1:r % 2=0∧c=r+1
  ·rw[if_pos ⟨e1.1,e1.2,by omega⟩,if_pos e1]
  ·rw[if_neg (fun q=>e1 ⟨q.1,q.2.1⟩),if_neg e1]
   by_cases e2:r % 2=1∧c % 2=1∧r / 2<w.length∧c / 2<w.length∧(w.getD (c / 2) pat0).window=1
   ·rw[if_pos ⟨e2.1,e2.2.1,e2.2.2.1,e2.2.2.2.1,e2.2.2.2.2,.inl e2.2.2.2.1⟩,if_pos e2]
   ·rw[if_neg e2,if_neg fun q=>e2 ⟨q.1,q.2.1,q.2.2.1,q.2.2.2.1,q.2.2.2.2.1⟩]
theorem run_append_rows{α:Type}{P:Program}{t e:TypeId}{i:TypeInfo}{z:Value}{k bytes:Nat}(ht:P.underlying t=some (.slice e))(hi:P.info? e=some i)(hz:i.zero=some z)
  (hsize:i.size=k)(hby:i.bytes=bytes)(hzs:z.cells.size=k)(hk:0<k){F G:Nat→Prop}{R:(Nat→Prop)→World→List Value→α→Prop}(hR:Firm R)(h1: ∀ F w row x,R F w row x→ ∀ u∈row,u.oneCell' =true)
  {w:World}{B:Nat}{v:Value}{xs:List α}(hO:OwnF G B w e k R v xs){ao:Option Addr}{n cap:Nat}{ys:List α}(h:SlF F w k R ao n cap ys)(hpos:0<n)(hbytes:(xs.length+n)*bytes≤140737488355328)(hb0:0<bytes)(hB:B≤w.heap.size)
  (hFG: ∀ row x,R F w row x→R (off_ G v) w row x):
  ∃ v' w',(Builtin.append_ #[t,t] t #[v,.slice ao n cap]).run P w= .ok v' w' ∧OwnF G B w' e k R v' (xs++ys)∧Below B w w' ∧w.grownBy w' v.ownBlock:=by
 have hbase:=hO.base
 obtain⟨rs,hv,hxs⟩:=hO
 have hl:rs.length=xs.length*k:=hv.1
 obtain⟨hn,hcap,hmax,hnil,hrows⟩:=h
 have key: ∀ i:Nat,∃ row:List Value,row.length=k∧(i<n→ ∃ b off,ao=some ⟨b,off,none⟩∧b<w.heap.size∧RowAt w b (off+i*k) k row∧ ∃ hi:i<ys.length,R F w row ys[i]):=by
  intro i
  by_cases hi:i<n
  ·obtain⟨b,off,row,e,hF,hb,hr,hx⟩:=hrows i (by omega)
   exact⟨row,hr.1,fun _=>⟨b,off,e,hb,hr,by omega,hx⟩⟩
  ·exact⟨List.replicate k undef,by simp,fun h=>absurd h hi⟩
 obtain⟨rows,hrw⟩: ∃ rows:Nat→List Value,∀ i,(rows i).length=k∧(i<n→ ∃ b off,ao=some ⟨b,off,none⟩∧b<w.heap.size∧RowAt w b (off+i*k) k (rows i)∧ ∃ hi:i<ys.length,R F w (rows i) ys[i]):=
  ⟨fun i=>Classical.choose (key i),fun i=>Classical.choose_spec (key i)⟩
 obtain⟨hfl,hfi⟩:=flat_row rows (fun i=>(hrw i).1) n
 obtain⟨b,off,hao,hblt,_⟩:=(hrw 0).2 hpos
 subst hao
 have hcell: ∀ i j,i<n→j<k→w.cell? ⟨b,off+(i*k+j),none⟩=some ((rows i).getD j undef):=by
  intro i j hi hj
  obtain⟨b',off',e,_,hr,_⟩:=(hrw i).2 hi
  injection e with e;injection e with e1 e2;subst e1;subst e2
  have:=hr.2 j hj
  rwa[Nat.add_assoc]at this
 have hdm: ∀ m,m<n*k→ ∃ i j,i<n∧j<k∧m=i*k+j:=fun m hm=>⟨m / k,m % k,(Nat.div_lt_iff_lt_mul hk).2 hm,Nat.mod_lt _ hk,by rw[Nat.mul_comm];exact(Nat.div_add_mod m k).symm⟩
 have hrow1: ∀ i,i<n→ ∀ u∈rows i,u.oneCell' =true:=fun i hi u hu=>by
  obtain⟨_,_,_,_,_,_,hx⟩:=(hrw i).2 hi
  exact h1 _ _ _ _ hx u hu
 have hmx:xs.length+n≤maxLen:=by
  unfold maxLen
  have:(xs.length+n)*1≤(xs.length+n)*bytes:=Nat.mul_le_mul_left _ hb0
  omega
 obtain⟨v',w',hrun,hown,hgrown,hnn,hob⟩:=run_append_own_at (P:=P) w B t t e i z k bytes ht hi hz hsize hby hzs hk v xs.length rs hv
  ⟨b,off,none⟩ n cap ((List.range n).flatMap rows) hfl (fun m u hu=>by
   have hm:m<n*k:=by rw[←hfl];exact(List.getElem?_eq_some_iff.1 hu).1
   obtain⟨i,j,hi,hj,rfl⟩:=hdm m hm
   rw[hfi i j hi hj]at hu
   rw[Go.WideShapes.add_plain,hcell i j hi hj]
   simp[List.getD,hu])
  (fun u hu=>by
   obtain⟨i,hi,hu⟩:=List.mem_flatMap.1 hu
   exact hrow1 i (List.mem_range.1 hi) u hu)
  hmx hbytes hB
 have hsame:Same (off_ G v) (off_ G v') w w' :=⟨hgrown.size,fun b hF hlt=>⟨⟨hF.1,by
  rcases hob with e|e
  ·rw[e];exact hF.2
  ·rw[e];intro h;injection h;omega⟩,hgrown.block b hlt (fun e=>hF.2 e.symm)⟩⟩
 have hbel:Below B w w' :=(Below.refl _ _).grown hgrown hB hbase
 refine⟨v',w',hrun,⟨rs++(List.range n).flatMap rows,by rw[List.length_append,←hn];exact hown,fun i hi=>?_⟩,hbel,hgrown⟩
 rw[List.length_append]at hi
 by_cases hlt:i<xs.length
 ·obtain⟨r,h3,h4,h5⟩:=hxs i hlt
  refine⟨r,h3,fun j hj=>?_,?_⟩
  ·rw[List.getElem?_append_left ?_]
   ·exact h4 j hj
   ·rw[hl]
    have:(i+1)*k≤xs.length*k:=Nat.mul_le_mul_right k (by omega)
    rw[Nat.add_mul]at this;omega
  ·rw[List.getElem_append_left hlt]
   exact hR _ _ _ _ _ _ hsame h5
 ·have hq:i - xs.length<n:=by omega
  obtain⟨_,_,_,_,_,hx',hx⟩:=(hrw (i - xs.length)).2 hq
  refine⟨rows (i - xs.length),(hrw _).1,fun j hj=>?_,?_⟩
  ·have e1:i*k+j=rs.length+((i - xs.length)*k+j):=by
    rw[hl,←Nat.add_assoc,←Nat.add_mul]
    congr 2
    omega
   rw[e1,List.getElem?_append_right (by omega),Nat.add_sub_cancel_left]
   exact hfi _ _ hq hj
  ·rw[List.getElem_append_right (by omega)]
   exact hR _ _ _ _ _ _ hsame (hFG _ _ hx)
end Go.Proofs.YtncmghnhfipklaaGreatDoor
