/-
  The bounds of a link's options: how great and how small they may be (plain).
-/
import Derived.Test.YtncmghnhfipklaaGreatDoorPw05
import Derived.Test.YtncmghnhfipklaaGreatDoorPu01
import Derived.WalkSpells
import Derived.WalkLawsBesides
import Derived.Test.YtncmghnhfipklaaGreatDoorPw04
import Derived.StillTailTactics
import Derived.Deep.LoopGhost
namespace Go.Proofs.YtncmghnhfipklaaGreatDoor
open Go.RowKit
set_option linter.unusedVariables false
set_option linter.unusedSimpArgs false
theorem at2_gridL{n:Nat}{g:Mx}{a b:Nat}(ha:a<n)(hb:b<n):at2 (gridL n g) a b=g a b:=by
 unfold at2 gridL
 simp[List.getD,ha,hb]
theorem gridL_len{n:Nat}{g:Mx}:(gridL n g).length=n:=by unfold gridL;simp
theorem gridL_row{n:Nat}{g:Mx}{i:Nat}(hi:i<n):((gridL n g).getD i []).length=n:=by
 unfold gridL
 simp[List.getD,hi]
structure Good4 (m:List (List Int)):Prop where
 len:m.length=4
 row: ∀ i,i<4→(m.getD i []).length=4
 rb:RB 4 0 (at2 m)
 diag: ∀ x,x<4→at2 m x x=0
theorem mid_fine{r lo hi:Int}(hr:1≤r∧r≤13)(hl:0≤lo∧lo≤1073741824)(hh: -1≤hi∧hi≤1073741824)(hlh:hi= -1∨lo≤hi):Fine (midG r lo hi):=by
 have:r=1∨r=2∨r=3∨r=4∨r=5∨r=6∨r=7∨r=8∨r=9∨r=10∨r=11∨r=12∨r=13:=by omega
 rcases this with rfl|rfl|rfl|rfl|rfl|rfl|rfl|rfl|rfl|rfl|rfl|rfl|rfl
 ·exact(show midG 1 lo hi=gr1 lo hi from rfl)▸fine1 lo hi hl hh hlh
 ·exact(show midG 2 lo hi=gr1 lo hi from rfl)▸fine1 lo hi hl hh hlh
 ·exact(show midG 3 lo hi=gr3 lo hi from rfl)▸fine3 lo hi hl hh hlh
 ·exact(show midG 4 lo hi=gr3 lo hi from rfl)▸fine3 lo hi hl hh hlh
 ·exact(show midG 5 lo hi=gr5 lo hi from rfl)▸fine5 lo hi hl hh hlh
 ·exact(show midG 6 lo hi=gr5 lo hi from rfl)▸fine5 lo hi hl hh hlh
 ·exact(show midG 7 lo hi=gr7 lo hi from rfl)▸fine7 lo hi hl hh hlh
 ·exact(show midG 8 lo hi=gr7 lo hi from rfl)▸fine7 lo hi hl hh hlh
 ·exact(show midG 9 lo hi=gr9 lo hi from rfl)▸fine9 lo hi hl hh hlh
 ·exact(show midG 10 lo hi=gr9 lo hi from rfl)▸fine9 lo hi hl hh hlh
 ·exact(show midG 11 lo hi=gr11 lo hi from rfl)▸fine11 lo hi hl hh hlh
 ·exact(show midG 12 lo hi=gr11 lo hi from rfl)▸fine11 lo hi hl hh hlh
 ·exact(show midG 13 lo hi=gr13 lo hi from rfl)▸fine13 lo hi hl hh hlh
theorem optE_parts{r l h:Int}(k:optE r l h=0):(1≤r∧r≤13)∧(0≤l∧l≤1073741824)∧(-1≤h∧h≤1073741824)∧(h= -1∨l≤h):=by
 unfold optE at k
 (repeat' split at k)<;>omega
theorem optL_good{r lo hi:Int}(k:optE r lo hi=0){m:List (List Int)}(h:optL r lo hi=some m):Good4 m:=by
 obtain⟨hr,hl,hh,hlh⟩:=optE_parts k
 have hO:=okay_mid r hl hh
 unfold optL at h
 by_cases hk:okb 4 (shutF 4 (midG r lo hi))=true
 ·rw[if_pos hk]at h
  injection h with h
  subst h
  have hok:=okb_iff.1 hk
  have hS:RB 4 0 (shutF 4 (midG r lo hi)):=by
   rcases mid_fine hr hl hh hlh with⟨q,U,tb,ht,hU,hq,hI⟩|⟨x,y,hx,hy,hs⟩
   ·exact(shut_inv ht hU hq hI).rb ht hU hq
   ·exact absurd hok (two_dead (by omega) hO.1 hO.2 hx hy hs)
  have hD: ∀ x,x<4→shutF 4 (midG r lo hi) x x=0:=fun x hx=>by
   have h1:shutF 4 (midG r lo hi) x x≤midG r lo hi x x:=shut_le 4 (midG r lo hi) 0 (by omega) x x
   have h2:=hok x hx
   rw[hO.2 x hx]at h1
   omega
  refine⟨gridL_len,fun i hi=>gridL_row hi,fun a b ha hb=>?_,fun x hx=>?_⟩
  ·rw[at2_gridL ha hb]
   unfold optG
   split
   ·exact hS _ _ (sw_lt a) (sw_lt b)
   ·exact hS a b ha hb
  ·rw[at2_gridL hx hx]
   unfold optG
   split
   ·exact hD _ (sw_lt x)
   ·exact hD x hx
 ·rw[if_neg hk]at h
  cases h
theorem joinM_good{a b:List (List Int)}(ha:Good4 a)(hb:Good4 b):joinM max a b=[]∨Good4 (joinM max a b):=by
 unfold joinM
 by_cases h:pairE a b=0
 ·rw[if_pos h,ha.len]
  refine .inr ⟨gridL_len,fun i hi=>gridL_row hi,fun x y hx hy=>?_,fun x hx=>?_⟩
  ·rw[at2_gridL hx hy]
   have h1:=ha.rb x y hx hy
   have h2:=hb.rb x y hx hy
   unfold NOB at *
   omega
  ·rw[at2_gridL hx hx,ha.diag x hx,hb.diag x hx]
   rfl
 ·rw[if_neg h]
  exact .inl rfl
theorem accL_good{os:List Opt}(h: ∀ o∈os,optE o.rel o.lo o.hi=0): ∀ k,k≤os.length→accL os k=[]∨Good4 (accL os k)
 |0,_=> .inl rfl
 |k+1,hk=>by
  have hlt:k<os.length:=by omega
  rw[accL_next os k hlt]
  have ho:=h _ (List.getElem_mem hlt)
  unfold stepL
  cases hm:optL os[k].rel os[k].lo os[k].hi with
  |none=>exact accL_good h k (by omega)
  |some m=>
   have hg:=optL_good ho hm
   simp only
   rcases accL_good h k (by omega)with e|e
   ·rw[e]
    exact .inr hg
   ·by_cases he:(accL os k).isEmpty=true
    ·rw[if_pos he]
     exact .inr hg
    ·rw[if_neg he]
     exact joinM_good e hg
theorem listO_good{os:List Opt}(h: ∀ o∈os,optE o.rel o.lo o.hi=0):codeO os (listO os)≠0∨(codeO os (listO os)=0∧Good4 (listO os)):=by
 unfold codeO listO
 by_cases h0:optsE os=0
 ·rw[if_pos h0,if_pos h0]
  rcases accL_good h os.length (Nat.le_refl _)with e|e
  ·rw[e];exact .inl (by decide)
  ·have hne: ¬ (accL os os.length).isEmpty=true:=fun q=>by
    have:=e.len
    rw[List.isEmpty_iff]at q
    rw[q]at this
    cases this
   rw[if_neg hne]
   exact .inr ⟨rfl,e⟩
 ·rw[if_neg h0]
  exact .inl h0
def keptB(s:ByteArray):Bool:=hasW keptL s||(!s.toList.isEmpty&&hasW relsL s)
set_option maxHeartbeats 1000000 in
theorem kept_any(F:Nat→Prop)(s:ByteArray)(w:World)(hK:SlF F w 1 wordF (some ⟨0,0,none⟩) 17 17 keptL)(hR:SlF F w 1 wordF (some ⟨1,0,none⟩) 14 14 relsL):
  Calls Tryz.prog 19 #[.string s] w fun e w' =>e= .returned (.bool (keptB s))∧w=w' :=by
 have HK:=Lib.hid (contains_any F _ _ _ keptL s w hK)
 have HR:=Lib.hid (contains_any F _ _ _ relsL s w hR)
 by_cases h1:hasW keptL s=true
 ·have HB:Hid (keptB s=true):=by show _=_;simp[keptB,h1]
  rw[h1]at HK
  clear h1 hK hR HR
  go_enter Tryz.func19,Tryz.ntmps19
  go_wp2_with (go_at_call 36;refine HK.out.mono ?_;rintro e w' ⟨rfl,rfl⟩)
  go_ret
  exact⟨ret_bool HB.out.symm,rfl⟩
 ·have h1' :hasW keptL s=false:=by simpa using h1
  rw[h1']at HK
  by_cases h2:s.toList=[]
  ·have HB:Hid (keptB s=false):=by show _=_;simp[keptB,h1',h2]
   clear h1 h1' hK hR HR
   go_enter Tryz.func19,Tryz.ntmps19
   go_wp2_with (go_at_call 36;refine HK.out.mono ?_;rintro e w' ⟨rfl,rfl⟩)
   go_ret
   exact⟨ret_bool HB.out.symm,rfl⟩
  ·have h2' :(!s.toList.isEmpty)=true:=by simpa using h2
   have HB:Hid (keptB s=hasW relsL s):=by show _=_;simp[keptB,h1',h2]
   clear h1 h1' hK hR
   go_enter Tryz.func19,Tryz.ntmps19
   go_wp2_with (first|(go_at_call 36;(with_reducible refine HK.out.mono ?_);rintro e w' ⟨rfl,rfl⟩)|(go_at_call 36;(with_reducible refine HR.out.mono ?_);rintro e w' ⟨rfl,rfl⟩))
   go_ret
   exact⟨ret_bool HB.out.symm,rfl⟩
theorem words_new(w:World)(e:TypeId)(xs:List ByteArray)(hm:xs.length≤1000):SlF (from_ w.heap.size) (w.alloc (.cells (xs.map Value.string).toArray e)) 1 wordF (some ⟨w.heap.size,0,none⟩) xs.length xs.length xs:=
 words_cells (Nat.le_refl _) (by simp) rfl hm fun i hi=>by rw[World.cell?_alloc_new];simp[List.getElem?_eq_getElem hi]
set_option maxHeartbeats 1000000 in
theorem relWords_any(w:World):Calls Tryz.prog 82 #[] w fun e w' =>e= .returned (.slice (some ⟨w.heap.size,0,none⟩) 14 14)∧Below w.heap.size w w' ∧SlF (from_ w.heap.size) w' 1 wordF (some ⟨w.heap.size,0,none⟩) 14 14 relsL:=by
 go_enter Tryz.func82,Tryz.ntmps82
 go_wp2
 go_ret
 exact⟨rfl,Joins.below_alloc1 w _,words_new w 9 relsL (by decide)⟩
def behE(xs:List ByteArray)(s:ByteArray)(j:Nat):Int:=if j≠0∧sameS (xs.getD j ByteArray.empty) s=true then(j:Int)else 0
def behV(xs:List ByteArray)(s:ByteArray):Int:=firstN (behE xs s) xs.length
set_option maxHeartbeats 1000000 in
theorem relationOf_any(s:ByteArray)(w:World):Calls Tryz.prog 51 #[.string s] w fun e w' =>e= .returned (.int .i64 (behV relsL s))∧Below w.heap.size w w' :=by
 go_enter Tryz.func51,Tryz.ntmps51
 go_wp2_with fail
 refine(relWords_any w).mono ?_
 rintro e w1 ⟨rfl,hb1,hX⟩
 go_wp2_with fail
 go_loop [4] (fun i=> ∃ k:Nat,1≤k∧k≤14∧i= .int .i64 k∧Hid (AllZ (behE relsL s) k)) (fun i=>14 - (intOf i).toNat)
 case atStart=>exact⟨1,by omega,by omega,rfl,fun j hj=>by unfold behE;rw[if_neg (by omega)]⟩
 case round=>
  obtain⟨k,hk1,hk,rfl,AZ⟩:=hrel
  by_cases hlt:k<14
  ·have hkl:k<relsL.length:=hlt
   have hk14:(k:Int)<14:=by omega
   obtain⟨b,off,row,hix,hblt,hrow,hrr⟩:=hX.toR.index (P:=Tryz.prog) Tryz.underlying84 size_word (i:=k) hkl
   obtain rfl:=wordF_one hrr
   have d0:=hrow.one
   simp only[Nat.mul_one]at hix d0
   by_cases hs:sameS relsL[k] s=true
   ·have hE:(relsL[k].toList==s.toList)=true:=hs
    have HV:Hid (behV relsL s=k):=by
     show _=_
     have h1:behE relsL s k=(k:Int):=by unfold behE;rw[word_getD _ _ hkl,if_pos ⟨by omega,hs⟩]
     have:=firstN_at (n:=relsL.length) AZ.out hkl (by rw[h1];omega)
     unfold behV
     rw[this,h1]
    clear hs
    generalize relsL[k]=x at d0 hE
    go_wp2
    go_ret
    exact⟨ret_int HV.out.symm,hb1⟩
   ·have hE:(relsL[k].toList==s.toList)=false:=by simpa[sameS]using hs
    have HZ:Hid (AllZ (behE relsL s) (k+1)):=allZ_succ AZ.out (by unfold behE;rw[word_getD _ _ hkl,if_neg (fun h=>hs h.2)])
    clear hs
    generalize relsL[k]=x at d0 hE
    go_wp2
    go_round
    case rel=>exact⟨k+1,by omega,by omega,by go_num,HZ⟩
    case measure=>simp[intOf];omega
  ·have hkn:Hid (k=14):=by show _=_;omega
   go_wp2
   go_ret
   refine⟨ret_int ?_,hb1⟩
   have h1:=AZ.out
   rw[hkn.out]at h1
   exact(firstN_zero h1).symm
def isIn(xs:List ByteArray)(s:ByteArray)(j:Nat):Int:=if sameS (xs.getD j ByteArray.empty) s=true then 1 else 0
def keptR(s:ByteArray):Bool:=decide (firstN (isIn keptL s) keptL.length≠0)||decide (0<behV relsL s)
set_option maxHeartbeats 2000000 in
theorem keptWord_any(s:ByteArray)(w:World):Calls Tryz.prog 28 #[.string s] w fun e w' =>e= .returned (.bool (keptR s))∧Below w.heap.size w w' :=by
 have HR:=Lib.hid (relationOf_any s)
 have hX0:=Lib.hid (words_new w 9 keptL (by decide))
 go_enter Tryz.func28,Tryz.ntmps28
 go_wp2_with fail
 have hX:SlF (from_ w.heap.size) (w.alloc (.cells (keptL.map Value.string).toArray 9)) 1 wordF (some ⟨w.heap.size,0,none⟩) 17 17 keptL:=hX0.out
 change Code.wp _ _ _ _ (w.alloc (.cells (keptL.map Value.string).toArray 9))
 generalize hw1:w.alloc (.cells (keptL.map Value.string).toArray 9)=w1 at hX ⊢
 have hb1:Below w.heap.size w w1:=by rw[←hw1];exact Joins.below_alloc1 w _
 clear hw1
 go_loop [4] (fun i=> ∃ k:Nat,k≤17∧i= .int .i64 k∧Hid (AllZ (isIn keptL s) k)) (fun i=>17 - (intOf i).toNat)
 case atStart=>exact⟨0,by omega,rfl,allZ_zero _⟩
 case round=>
  obtain⟨k,hk,rfl,AZ⟩:=hrel
  by_cases hlt:k<17
  ·have hkl:k<keptL.length:=hlt
   have hk14:(k:Int)<17:=by omega
   obtain⟨b,off,row,hix,hblt,hrow,hrr⟩:=hX.toR.index (P:=Tryz.prog) Tryz.underlying84 size_word (i:=k) hkl
   obtain rfl:=wordF_one hrr
   have d0:=hrow.one
   simp only[Nat.mul_one]at hix d0
   by_cases hs:sameS keptL[k] s=true
   ·have hE:(keptL[k].toList==s.toList)=true:=hs
    have HV:Hid (keptR s=true):=by
     show _=_
     have h1:isIn keptL s k=1:=by unfold isIn;rw[word_getD _ _ hkl,if_pos hs]
     have:=firstN_at (n:=keptL.length) AZ.out hkl (by rw[h1];omega)
     unfold keptR
     rw[this,h1];rfl
    clear hs
    generalize keptL[k]=x at d0 hE
    go_wp2
    go_ret
    exact⟨ret_bool HV.out.symm,hb1⟩
   ·have hE:(keptL[k].toList==s.toList)=false:=by simpa[sameS]using hs
    have HZ:Hid (AllZ (isIn keptL s) (k+1)):=allZ_succ AZ.out (by unfold isIn;rw[word_getD _ _ hkl,if_neg hs])
    clear hs
    generalize keptL[k]=x at d0 hE
    go_wp2
    go_round
    case rel=>exact⟨k+1,by omega,by go_num,HZ⟩
    case measure=>simp[intOf];omega
  ·have hkn:Hid (k=17):=by show _=_;omega
   go_wp2_with (go_at_call 51;refine(HR.out _).mono ?_;rintro e w2 ⟨rfl,hb2⟩)
   go_ret
   refine⟨ret_bool ?_,(by repeat(first|assumption|refine below_step ?_ (by assumption)))⟩
   have h1:=AZ.out
   rw[hkn.out]at h1
   have h2:firstN (isIn keptL s) keptL.length=0:=firstN_zero h1
   unfold keptR
   rw[h2]
   simp
theorem firstN_some{f:Nat→Int}{n:Nat}:firstN f n≠0↔ ∃ j,j<n∧f j≠0:=by
 constructor
 ·intro h
  apply Classical.byContradiction
  intro hn
  exact h (firstN_zero fun j hj=>Classical.byContradiction fun hf=>hn ⟨j,hj,hf⟩)
 ·intro ⟨j,hj,hf⟩ h
  have key: ∀ m,firstN f m=0→AllZ f m:=fun m=>by
   induction m with
   |zero=>intro _;exact allZ_zero f
   |succ m ih=>
    intro h
    simp only[firstN]at h
    by_cases h0:firstN f m=0
    ·rw[if_pos h0]at h
     exact allZ_succ (ih h0) h
    ·rw[if_neg h0]at h
     exact absurd h h0
  exact hf (key n h j hj)
theorem firstN_nonneg{f:Nat→Int}(h0: ∀ j,0≤f j)(n:Nat):0≤firstN f n:=by
 induction n with
 |zero=>exact Int.le_refl _
 |succ n ih=>
  simp only[firstN]
  by_cases h:firstN f n=0
  ·rw[if_pos h];exact h0 n
  ·rw[if_neg h];exact ih
theorem hasW_iff{xs:List ByteArray}{s:ByteArray}:hasW xs s=true↔ ∃ j,j<xs.length∧sameS s (xs.getD j ByteArray.empty)=true:=by
 have hn: ∀ j,0≤seekE xs s j:=fun j=>by unfold seekE;split<;>omega
 have h1:hasW xs s=true↔seekV xs s≠0:=by
  have:=firstN_nonneg hn xs.length
  unfold hasW
  rw[decide_eq_true_iff]
  unfold seekV
  omega
 rw[h1]
 unfold seekV
 rw[firstN_some]
 constructor
 ·intro ⟨j,hj,h⟩
  refine⟨j,hj,Classical.byContradiction fun hs=>h ?_⟩
  unfold seekE;rw[if_neg hs]
 ·intro ⟨j,hj,hs⟩
  refine⟨j,hj,?_⟩
  unfold seekE;rw[if_pos hs];omega
theorem isIn_iff{xs:List ByteArray}{s:ByteArray}:firstN (isIn xs s) xs.length≠0↔ ∃ j,j<xs.length∧sameS s (xs.getD j ByteArray.empty)=true:=by
 rw[firstN_some]
 constructor
 ·intro ⟨j,hj,h⟩
  refine⟨j,hj,Classical.byContradiction fun hs=>h ?_⟩
  unfold isIn;rw[sameS_comm,if_neg hs]
 ·intro ⟨j,hj,hs⟩
  refine⟨j,hj,?_⟩
  unfold isIn;rw[sameS_comm,if_pos hs];omega
theorem behV_iff{xs:List ByteArray}{s:ByteArray}:0<behV xs s↔ ∃ j,j<xs.length∧j≠0∧sameS s (xs.getD j ByteArray.empty)=true:=by
 have hn: ∀ j,0≤behE xs s j:=fun j=>by unfold behE;split<;>omega
 have h1:0<behV xs s↔behV xs s≠0:=by
  have:=firstN_nonneg hn xs.length
  unfold behV
  omega
 rw[h1]
 unfold behV
 rw[firstN_some]
 constructor
 ·intro ⟨j,hj,h⟩
  refine Classical.byContradiction fun hs=>h ?_
  unfold behE;rw[if_neg]
  intro ⟨h1,h2⟩
  exact hs ⟨j,hj,h1,by rw[sameS_comm];exact h2⟩
 ·intro ⟨j,hj,h0,hs⟩
  refine⟨j,hj,?_⟩
  unfold behE;rw[if_pos ⟨h0,by rw[sameS_comm];exact hs⟩];omega
theorem rels_nonempty: ∀ j,j<14→j≠0→(relsL.getD j ByteArray.empty).data.toList≠[]:=by decide
theorem kept_same(s:ByteArray):keptB s=keptR s:=by
 rw[Bool.eq_iff_iff]
 unfold keptB keptR
 simp only[Bool.or_eq_true,Bool.and_eq_true,decide_eq_true_iff]
 rw[hasW_iff,hasW_iff,isIn_iff,behV_iff]
 constructor
 ·rintro(h|⟨he,j,hj,hs⟩)
  ·exact Or.inl h
  ·refine Or.inr ⟨j,hj,?_,hs⟩
   rintro rfl
   have h2:s.toList=[]:=by
    have:s.toList=(relsL.getD 0 ByteArray.empty).toList:=by simpa[sameS]using hs
    rw[this,ByteArray.toList_eq];rfl
   rw[h2]at he
   exact absurd he (by decide)
 ·rintro(h|⟨j,hj,h0,hs⟩)
  ·exact Or.inl h
  ·refine Or.inr ⟨?_,j,hj,hs⟩
   have:s.toList=(relsL.getD j ByteArray.empty).toList:=by simpa[sameS]using hs
   have hne:=rels_nonempty j hj h0
   rw[←ByteArray.toList_eq,←this]at hne
   cases h:s.toList with
   |nil=>exact absurd h hne
   |cons a l=>rfl
@[irreducible] def OSP (P:Program) (o:Oper) (a:Act) (w:World) (K:Act→Prop):Prop:=o.still P a w K
theorem osp_eq{P:Program}{o:Oper}{a:Act}{w:World}{K:Act→Prop}:OSP P o a w K=o.still P a w K:=by unfold OSP;rfl
theorem osp_of{P:Program}{o:Oper}{a:Act}{w:World}{K:Act→Prop}(h:o.still P a w K):OSP P o a w K:=osp_eq▸h
theorem osp_out{P:Program}{o:Oper}{a:Act}{w:World}{K:Act→Prop}(h:OSP P o a w K):o.still P a w K:=osp_eq▸h
section
variable {P:Program} {ops:Array Oper} {opsl rest:List Oper} {o:Oper} {a:Act} {w:World} {Q:Act→Prop} {dst:Option Tmp} {op:Op} {oty:TypeId} {pos:String} {after:Array Edge} {gi:Nat} {want:Bool} {t:Tmp} {l l' :List Value} {ds:List Deferred}
theorem s_list(hg:o.guard=none)(h: ∀ K:Act→Prop,(∀ a,wpStill P ops w Q rest a→K a)→OSP P o a w K):wpStill P ops w Q (o::rest) a:=
 wpStill_step fun K hK=>by rw[if_pos (wanted_none hg)];exact osp_out (h K hK)
theorem wanted_g[ho:NthO opsl gi t]{v:Bool}(hv:l[t]?=some (.bool v)):Region.wanted (⟨dst,op,oty,pos,after,some (gi,want)⟩:Oper) (yielded opsl.toArray l.toArray)=(v==want):=by
 obtain⟨o',h2,h3⟩:=ho.at_
 simp only[Region.wanted,yielded,List.getElem?_toArray,h2,Option.bind_some,h3,hv]
 cases v<;>cases want<;>rfl
theorem s_listg[ho:NthO opsl gi t][hv:Nth l t (.bool want)](h: ∀ K:Act→Prop,(∀ a,wpStill P opsl.toArray w Q rest a→K a)→OSP P ⟨dst,op,oty,pos,after,some (gi,want)⟩ ⟨l.toArray,ds⟩ w K):
  wpStill P opsl.toArray w Q (⟨dst,op,oty,pos,after,some (gi,want)⟩::rest) ⟨l.toArray,ds⟩:=
 wpStill_step fun K hK=>by rw[if_pos (by rw[wanted_g hv.nth];simp)];exact osp_out (h K hK)
theorem s_skipT[ho:NthO opsl gi t][hv:Nth l t (.bool false)][hp:PutI l dst undef l'](h:wpStill P opsl.toArray w Q rest ⟨l'.toArray,ds⟩):wpStill P opsl.toArray w Q (⟨dst,op,oty,pos,after,some (gi,true)⟩::rest) ⟨l.toArray,ds⟩:=
 wpStill_step fun K hK=>by rw[if_neg (by rw[wanted_g hv.nth];simp)];refine hK _ ?_;rw[hp.put];exact h
theorem s_load{g:Option (Nat×Bool)}{ty:TypeId}{x:Operand}{K:Act→Prop}(h:OWP P ⟨dst,.load ty x,oty,pos,after,g⟩ a w (fun a' w' =>w' =w∧K a') (fun _ _ _=>False)):OSP P ⟨dst,.load ty x,oty,pos,after,g⟩ a w K:=by
 refine osp_of ?_
 have h2:=owp_out h
 unfold Oper.wp execOp at h2
 unfold Oper.still execOp
 simp only[Sem.run_bind]at h2 ⊢
 cases hr:(Instr.loadAt ty (a.eval x)).run P w with
 |ok v w' =>
  rw[hr]at h2
  simp only[Result.andThen_ok,Sem.run_pure]at h2 ⊢
  exact h2
 |halt e w' =>
  rw[hr]at h2
  revert h2
  cases e<;>(intro h2;exact absurd h2 (by simp[Result.andThen,Oper.upon]))
theorem s_pure{K:Act→Prop}(h:o.still P a w K):OSP P o a w K:=osp_of h
end
section
variable {P:Program} {dst:Option Tmp} {oty:TypeId} {pos:String} {after:Array Edge} {g:Option (Nat×Bool)} {l l' :List Value} {ds:List Deferred} {Q:Exit→Act→World→Prop} {K:Act→World→Prop} {j:Nat} {ty:TypeId} {w:World} {c o:Nat} {v:Value}
theorem q_cellat[hx:Nth l j (.pointer (some ⟨c,o,none⟩))][hT:OneI P ty](hc:w.cell? ⟨c,o,none⟩=some v)[hd:PutI l dst v l'](h:K ⟨l'.toArray,ds⟩ w):OWP P ⟨dst,.load ty (.tmp j),oty,pos,after,g⟩ ⟨l.toArray,ds⟩ w K Q:=
 owp_of (op_cell rfl (eval_tmp hx.nth) hT.one hc (by rw[hd.put];exact h))
end
theorem SlF.rowAt{α:Type}{F:Nat→Prop}{k:Nat}{R:(Nat→Prop)→World→List Value→α→Prop}{ao:Option Addr}{n cap:Nat}{xs:List α}{w:World}{P:Program}{t e:Nat}(hX:SlF F w k R ao n cap xs)(hR:Firm R)(ht:P.underlying t=some (.slice e))(hs:SizeIs P e k){i:Nat}(hi:i<xs.length):
  ∃ c off row,(∀ wx,(Instr.indexAt t (.slice ao n cap) (.int .i64 i)).run P wx= .ok (.pointer (some ⟨c,off,none⟩)) wx)∧row.length=k∧R F w row xs[i]∧ ∀ wx,Below w.heap.size w wx→wx.rangeAt c off row∧R F wx row xs[i]:=by
 obtain⟨b,off,row,hix,hblt,hrow,hrr⟩:=hX.toR.index (P:=P) ht hs hi
 refine⟨b,off+i*k,row,hix,hrow.1,hrr,fun wx hb=>⟨fun j v hj=>?_,hR _ _ _ _ _ _ (Same.below hb) hrr⟩⟩
 rw[(bcell hb).1 _ _ hblt]
 exact hrow.range j v hj
theorem size_opd:SizeIs Tryz.prog 57 6:=fun w=>by kernel_rfl
theorem size_cnd:SizeIs Tryz.prog 59 14:=fun w=>by kernel_rfl
theorem size_pat:SizeIs Tryz.prog 61 18:=fun w=>by kernel_rfl
def cnd14(k:Int)(ao:Option Addr)(n cap:Nat)(l r:Opd):List Value:=[.int .i64 k,.slice ao n cap,.int .i64 l.kind,.int .i64 l.vkind,.int .i64 l.vint,.string l.vtext,.string l.var,.string l.field,.int .i64 r.kind,.int .i64 r.vkind,.int .i64 r.vint,.string r.vtext,.string r.var,.string r.field]
theorem CondF.open14{F:Nat→Prop}{w:World}{row:List Value}{c:Cond}(h:CondF F w row c): ∃ ao n cap,row=cnd14 c.kind ao n cap c.left c.right∧SlF F w 14 CondF ao n cap c.subs:=h.open
def pat18(p:Pat)(ao:Option Addr)(n cap:Nat):List Value:=[.string p.var,.string p.type,.int .i64 p.wher.kind,.slice ao n cap,.int .i64 p.wher.left.kind,.int .i64 p.wher.left.vkind,.int .i64 p.wher.left.vint,.string p.wher.left.vtext,.string p.wher.left.var,.string p.wher.left.field,.int .i64 p.wher.right.kind,.int .i64 p.wher.right.vkind,.int .i64 p.wher.right.vint,.string p.wher.right.vtext,.string p.wher.right.var,.string p.wher.right.field,.int .i64 p.window,.int .i64 p.n]
theorem patF.open18{F:Nat→Prop}{w:World}{row:List Value}{p:Pat}(h:patF F w row p): ∃ ao n cap,row=pat18 p ao n cap∧SlF F w 14 CondF ao n cap p.wher.subs:=by
 obtain⟨ao,n,cap,h1,h2⟩:=h
 exact⟨ao,n,cap,h1,h2⟩
theorem size_man:SizeIs Tryz.prog 63 20:=fun w=>by kernel_rfl
theorem size_lnk:SizeIs Tryz.prog 97 3:=fun w=>by kernel_rfl
theorem size_opt:SizeIs Tryz.prog 128 3:=fun w=>by kernel_rfl
theorem size_typ:SizeIs Tryz.prog 51 2:=fun w=>by kernel_rfl
theorem size_fld:SizeIs Tryz.prog 67 2:=fun w=>by kernel_rfl
theorem size_rul:SizeIs Tryz.prog 47 7:=fun w=>by kernel_rfl
class PartI (cs:List Value) (p m:Nat) (vs:outParam (List Value)):Prop where
 part:(cs.drop p).take m=vs
instance {cs:List Value}:PartI cs 0 0 []:=⟨rfl⟩
instance {c:Value}{cs vs:List Value}{m:Nat}[h:PartI cs 0 m vs]:PartI (c::cs) 0 (m+1) (c::vs):=⟨congrArg (c:: ·) h.part⟩
instance {c:Value}{cs vs:List Value}{p m:Nat}[h:PartI cs p m vs]:PartI (c::cs) (p+1) m vs:=⟨h.part⟩
section
variable {P:Program} {dst:Option Tmp} {oty:TypeId} {pos:String} {after:Array Edge} {g:Option (Nat×Bool)} {l l' :List Value} {ds:List Deferred} {Q:Exit→Act→World→Prop} {K:Act→World→Prop}
variable {At:PS→World→Prop} {b:Nat} {u w:World} {s:PS} {L:List Ent} {ty t:TypeId} {j z p m i:Nat} {cs vs:List Value}
theorem q_prt(M:Mem At b u w s L)[hx:Nth l j (.pointer (some ⟨z,p,none⟩))][hz:Has L z i cs t][hT:StI P ty m][hp:PartI cs p m vs][hd:PutI l dst (.agg vs.toArray) l'](hl:Nat.ble (p+m) cs.length=true)(h:K ⟨l'.toArray,ds⟩ w):OWP P ⟨dst,.load ty (.tmp j),oty,pos,after,g⟩ ⟨l.toArray,ds⟩ w K Q:=
 q_part M hl hp.part h
end
theorem tk{P:Program}{l:List Oper}{Q:Exit→Act→World→Prop}{md:Region.Mode}{oi:Oper}{v:Value}{fuel:Nat}{listed:Array Bool}{a:Act}{w:World}(i:Nat)(hi:l[i]?=some oi)
  (hB:(Region.noSelect l.toArray&&(Region.free md l.toArray listed i&&(Region.ready md l.toArray listed).contains i))=true)(hg:oi.guard=none)
  (hv: ∀ w,(execOp a.eval oi).run P w= .ok (.value v) w)
  (h:wpAny P md l.toArray Q fuel (listed.setIfInBounds i true) (a.put oi.dst v) w)(hQ: ∀ c a w,Q (.panic c) (a.put oi.dst v) w→Q (.panic c) a w:=by exact fun _ _ _ h=>h):wpAny P md l.toArray Q (fuel+1) listed a w:=by
 simp only[Bool.and_eq_true]at hB
 exact wpAny_take (get_l hi) hB.1 hB.2.1 hB.2.2 hQ (Or.inl ⟨wanted_none hg,hv⟩) h
structure St (n:Nat):Prop
theorem St.o:St 0:=⟨⟩
theorem St.add{n:Nat}(_:St n)(k:Nat):St (n+k):=⟨⟩
section
variable {P:Program} {l:List Oper} {Q:Exit→Act→World→Prop} {md:Region.Mode} {fuel:Nat} {listed:Array Bool} {a:Act} {w:World} {o1 o2 o3 o4 o5 o6:Oper}
abbrev RdO(P:Program)(l:List Oper)(Q:Exit→Act→World→Prop)(md:Region.Mode)(fuel:Nat)(listed:Array Bool)(a:Act)(w:World)(i:Nat)(o:Oper):Prop:=
 ∀ K:Act→World→Prop,(∀ a w,wpAny P md l.toArray Q fuel (listed.setIfInBounds i true) a w→K a w)→OWP P o a w K Q
theorem rd1(i1:Nat)(hr:Region.ready md l.toArray listed=[i1])(h1:l[i1]?=some o1)(g1:o1.guard=none)(k1:RdO P l Q md fuel listed a w i1 o1):wpAny P md l.toArray Q (fuel+1) listed a w:=
 wpAny_ready hr (by simp) (ready_cons (get_l h1) g1 k1 AllReady.nil)
theorem rd2(i1 i2:Nat)(hr:Region.ready md l.toArray listed=[i1,i2])(h1:l[i1]?=some o1)(g1:o1.guard=none)(k1:RdO P l Q md fuel listed a w i1 o1)(h2:l[i2]?=some o2)(g2:o2.guard=none)(k2:RdO P l Q md fuel listed a w i2 o2):wpAny P md l.toArray Q (fuel+1) listed a w:=
 wpAny_ready hr (by simp) (ready_cons (get_l h1) g1 k1 (ready_cons (get_l h2) g2 k2 AllReady.nil))
theorem rd3(i1 i2 i3:Nat)(hr:Region.ready md l.toArray listed=[i1,i2,i3])(h1:l[i1]?=some o1)(g1:o1.guard=none)(k1:RdO P l Q md fuel listed a w i1 o1)(h2:l[i2]?=some o2)(g2:o2.guard=none)(k2:RdO P l Q md fuel listed a w i2 o2)(h3:l[i3]?=some o3)(g3:o3.guard=none)(k3:RdO P l Q md fuel listed a w i3 o3):wpAny P md l.toArray Q (fuel+1) listed a w:=
 wpAny_ready hr (by simp) (ready_cons (get_l h1) g1 k1 (ready_cons (get_l h2) g2 k2 (ready_cons (get_l h3) g3 k3 AllReady.nil)))
end
end Go.Proofs.YtncmghnhfipklaaGreatDoor
