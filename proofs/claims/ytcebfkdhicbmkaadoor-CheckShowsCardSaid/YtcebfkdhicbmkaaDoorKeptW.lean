/-
  The walks of the words that are kept: parse.Kept and its reference; and the law.
-/
import Derived.Test.YtcebfkdhicbmkaaDoorStr
import Derived.WalkSpells
import Derived.WalkLawsBesides
namespace Go.Proofs.YtcebfkdhicbmkaaDoor
open Go.RowKit
set_option linter.unusedVariables false
set_option linter.unusedSimpArgs false
def keptB(s:ByteArray):Bool:=hasW keptL s||(!s.toList.isEmpty&&hasW relsL s)
set_option maxHeartbeats 1000000 in
theorem kept_any(F:Nat→Prop)(s:ByteArray)(w:World)(hK:SlF F w 1 wordF (some ⟨0,0,none⟩) 17 17 keptL)(hR:SlF F w 1 wordF (some ⟨1,0,none⟩) 14 14 relsL):
  Calls Tryd.prog 15 #[.string s] w fun e w' =>e= .returned (.bool (keptB s))∧w=w' :=by
 have HK:=Lib.hid (contains_any F _ _ _ keptL s w hK)
 have HR:=Lib.hid (contains_any F _ _ _ relsL s w hR)
 by_cases h1:hasW keptL s=true
 ·have HB:Hid (keptB s=true):=by show _=_;simp[keptB,h1]
  rw[h1]at HK
  clear h1 hK hR HR
  go_enter Tryd.func15,Tryd.ntmps15
  go_wp2_with (go_at_call 33;refine HK.out.mono ?_;rintro e w' ⟨rfl,rfl⟩)
  go_ret
  exact⟨ret_bool HB.out.symm,rfl⟩
 ·have h1' :hasW keptL s=false:=by simpa using h1
  rw[h1']at HK
  by_cases h2:s.toList=[]
  ·have HB:Hid (keptB s=false):=by show _=_;simp[keptB,h1',h2]
   clear h1 h1' hK hR HR
   go_enter Tryd.func15,Tryd.ntmps15
   go_wp2_with (go_at_call 33;refine HK.out.mono ?_;rintro e w' ⟨rfl,rfl⟩)
   go_ret
   exact⟨ret_bool HB.out.symm,rfl⟩
  ·have h2' :(!s.toList.isEmpty)=true:=by simpa using h2
   have HB:Hid (keptB s=hasW relsL s):=by show _=_;simp[keptB,h1',h2]
   clear h1 h1' hK hR
   go_enter Tryd.func15,Tryd.ntmps15
   go_wp2_with (first|(go_at_call 33;(with_reducible refine HK.out.mono ?_);rintro e w' ⟨rfl,rfl⟩)|(go_at_call 33;(with_reducible refine HR.out.mono ?_);rintro e w' ⟨rfl,rfl⟩))
   go_ret
   exact⟨ret_bool HB.out.symm,rfl⟩
theorem words_new(w:World)(e:TypeId)(xs:List ByteArray)(hm:xs.length≤1000):SlF (from_ w.heap.size) (w.alloc (.cells (xs.map Value.string).toArray e)) 1 wordF (some ⟨w.heap.size,0,none⟩) xs.length xs.length xs:=
 words_cells (Nat.le_refl _) (by simp) rfl hm fun i hi=>by rw[World.cell?_alloc_new];simp[List.getElem?_eq_getElem hi]
set_option maxHeartbeats 1000000 in
theorem relWords_any(w:World):Calls Tryd.prog 30 #[] w fun e w' =>e= .returned (.slice (some ⟨w.heap.size,0,none⟩) 14 14)∧Below w.heap.size w w' ∧SlF (from_ w.heap.size) w' 1 wordF (some ⟨w.heap.size,0,none⟩) 14 14 relsL:=by
 go_enter Tryd.func30,Tryd.ntmps30
 go_wp2
 go_ret
 exact⟨rfl,Joins.below_alloc1 w _,words_new w 9 relsL (by decide)⟩
def behE(xs:List ByteArray)(s:ByteArray)(j:Nat):Int:=if j≠0∧sameS (xs.getD j ByteArray.empty) s=true then(j:Int)else 0
def behV(xs:List ByteArray)(s:ByteArray):Int:=firstN (behE xs s) xs.length
set_option maxHeartbeats 1000000 in
theorem relationOf_any(s:ByteArray)(w:World):Calls Tryd.prog 46 #[.string s] w fun e w' =>e= .returned (.int .i64 (behV relsL s))∧Below w.heap.size w w' :=by
 go_enter Tryd.func46,Tryd.ntmps46
 go_wp2_with fail
 refine(relWords_any w).mono ?_
 rintro e w1 ⟨rfl,hb1,hX⟩
 go_wp2_with fail
 go_loop [4] (fun i=> ∃ k:Nat,1≤k∧k≤14∧i= .int .i64 k∧Hid (AllZ (behE relsL s) k)) (fun i=>14 - (intOf i).toNat)
 case atStart=>exact⟨1,by omega,by omega,rfl,fun j hj=>by unfold behE;rw[if_neg (by omega)]⟩
 case round=>
  obtain⟨k,hk1,hk,rfl,AZ⟩:=hrel
  by_cases hlt:k<14
  ·have hkl:k<relsL.length:=hlt
   have hk14:(k:Int)<14:=by omega
   obtain⟨b,off,row,hix,hblt,hrow,hrr⟩:=hX.toR.index (P:=Tryd.prog) Tryd.underlying60 size_word (i:=k) hkl
   obtain rfl:=wordF_one hrr
   have d0:=hrow.one
   simp only[Nat.mul_one]at hix d0
   by_cases hs:sameS relsL[k] s=true
   ·have hE:(relsL[k].toList==s.toList)=true:=hs
    have HV:Hid (behV relsL s=k):=by
     show _=_
     have h1:behE relsL s k=(k:Int):=by unfold behE;rw[word_getD _ _ hkl,if_pos ⟨by omega,hs⟩]
     have:=firstN_at (n:=relsL.length) AZ.out hkl (by rw[h1];omega)
     unfold behV
     rw[this,h1]
    clear hs
    generalize relsL[k]=x at d0 hE
    go_wp2
    go_ret
    exact⟨ret_int HV.out.symm,hb1⟩
   ·have hE:(relsL[k].toList==s.toList)=false:=by simpa[sameS]using hs
    have HZ:Hid (AllZ (behE relsL s) (k+1)):=allZ_succ AZ.out (by unfold behE;rw[word_getD _ _ hkl,if_neg (fun h=>hs h.2)])
    clear hs
    generalize relsL[k]=x at d0 hE
    go_wp2
    go_round
    case rel=>exact⟨k+1,by omega,by omega,by go_num,HZ⟩
    case measure=>simp[intOf];omega
  ·have hkn:Hid (k=14):=by show _=_;omega
   go_wp2
   go_ret
   refine⟨ret_int ?_,hb1⟩
   have h1:=AZ.out
   rw[hkn.out]at h1
   exact(firstN_zero h1).symm
def isIn(xs:List ByteArray)(s:ByteArray)(j:Nat):Int:=if sameS (xs.getD j ByteArray.empty) s=true then 1 else 0
def keptR(s:ByteArray):Bool:=decide (firstN (isIn keptL s) keptL.length≠0)||decide (0<behV relsL s)
set_option maxHeartbeats 2000000 in
theorem keptWord_any(s:ByteArray)(w:World):Calls Tryd.prog 23 #[.string s] w fun e w' =>e= .returned (.bool (keptR s))∧Below w.heap.size w w' :=by
 have HR:=Lib.hid (relationOf_any s)
 have hX0:=Lib.hid (words_new w 9 keptL (by decide))
 go_enter Tryd.func23,Tryd.ntmps23
 go_wp2_with fail
 have hX:SlF (from_ w.heap.size) (w.alloc (.cells (keptL.map Value.string).toArray 9)) 1 wordF (some ⟨w.heap.size,0,none⟩) 17 17 keptL:=hX0.out
 change Code.wp _ _ _ _ (w.alloc (.cells (keptL.map Value.string).toArray 9))
 generalize hw1:w.alloc (.cells (keptL.map Value.string).toArray 9)=w1 at hX ⊢
 have hb1:Below w.heap.size w w1:=by rw[←hw1];exact Joins.below_alloc1 w _
 clear hw1
 go_loop [4] (fun i=> ∃ k:Nat,k≤17∧i= .int .i64 k∧Hid (AllZ (isIn keptL s) k)) (fun i=>17 - (intOf i).toNat)
 case atStart=>exact⟨0,by omega,rfl,allZ_zero _⟩
 case round=>
  obtain⟨k,hk,rfl,AZ⟩:=hrel
  by_cases hlt:k<17
  ·have hkl:k<keptL.length:=hlt
   have hk14:(k:Int)<17:=by omega
   obtain⟨b,off,row,hix,hblt,hrow,hrr⟩:=hX.toR.index (P:=Tryd.prog) Tryd.underlying60 size_word (i:=k) hkl
   obtain rfl:=wordF_one hrr
   have d0:=hrow.one
   simp only[Nat.mul_one]at hix d0
   by_cases hs:sameS keptL[k] s=true
   ·have hE:(keptL[k].toList==s.toList)=true:=hs
    have HV:Hid (keptR s=true):=by
     show _=_
     have h1:isIn keptL s k=1:=by unfold isIn;rw[word_getD _ _ hkl,if_pos hs]
     have:=firstN_at (n:=keptL.length) AZ.out hkl (by rw[h1];omega)
     unfold keptR
     rw[this,h1];rfl
    clear hs
    generalize keptL[k]=x at d0 hE
    go_wp2
    go_ret
    exact⟨ret_bool HV.out.symm,hb1⟩
   ·have hE:(keptL[k].toList==s.toList)=false:=by simpa[sameS]using hs
    have HZ:Hid (AllZ (isIn keptL s) (k+1)):=allZ_succ AZ.out (by unfold isIn;rw[word_getD _ _ hkl,if_neg hs])
    clear hs
    generalize keptL[k]=x at d0 hE
    go_wp2
    go_round
    case rel=>exact⟨k+1,by omega,by go_num,HZ⟩
    case measure=>simp[intOf];omega
  ·have hkn:Hid (k=17):=by show _=_;omega
   go_wp2_with (go_at_call 46;refine(HR.out _).mono ?_;rintro e w2 ⟨rfl,hb2⟩)
   go_ret
   refine⟨ret_bool ?_,(by repeat(first|assumption|refine below_step ?_ (by assumption)))⟩
   have h1:=AZ.out
   rw[hkn.out]at h1
   have h2:firstN (isIn keptL s) keptL.length=0:=firstN_zero h1
   unfold keptR
   rw[h2]
   simp
theorem firstN_some{f:Nat→Int}{n:Nat}:firstN f n≠0↔ ∃ j,j<n∧f j≠0:=by
 constructor
 ·intro h
  apply Classical.byContradiction
  intro hn
  exact h (firstN_zero fun j hj=>Classical.byContradiction fun hf=>hn ⟨j,hj,hf⟩)
 ·intro ⟨j,hj,hf⟩ h
  have key: ∀ m,firstN f m=0→AllZ f m:=fun m=>by
   induction m with
   |zero=>intro _;exact allZ_zero f
   |succ m ih=>
    intro h
    simp only[firstN]at h
    by_cases h0:firstN f m=0
    ·rw[if_pos h0]at h
     exact allZ_succ (ih h0) h
    ·rw[if_neg h0]at h
     exact absurd h h0
  exact hf (key n h j hj)
theorem firstN_nonneg{f:Nat→Int}(h0: ∀ j,0≤f j)(n:Nat):0≤firstN f n:=by
 induction n with
 |zero=>exact Int.le_refl _
 |succ n ih=>
  simp only[firstN]
  by_cases h:firstN f n=0
  ·rw[if_pos h];exact h0 n
  ·rw[if_neg h];exact ih
theorem hasW_iff{xs:List ByteArray}{s:ByteArray}:hasW xs s=true↔ ∃ j,j<xs.length∧sameS s (xs.getD j ByteArray.empty)=true:=by
 have hn: ∀ j,0≤seekE xs s j:=fun j=>by unfold seekE;split<;>omega
 have h1:hasW xs s=true↔seekV xs s≠0:=by
  have:=firstN_nonneg hn xs.length
  unfold hasW
  rw[decide_eq_true_iff]
  unfold seekV
  omega
 rw[h1]
 unfold seekV
 rw[firstN_some]
 constructor
 ·intro ⟨j,hj,h⟩
  refine⟨j,hj,Classical.byContradiction fun hs=>h ?_⟩
  unfold seekE;rw[if_neg hs]
 ·intro ⟨j,hj,hs⟩
  refine⟨j,hj,?_⟩
  unfold seekE;rw[if_pos hs];omega
theorem isIn_iff{xs:List ByteArray}{s:ByteArray}:firstN (isIn xs s) xs.length≠0↔ ∃ j,j<xs.length∧sameS s (xs.getD j ByteArray.empty)=true:=by
 rw[firstN_some]
 constructor
 ·intro ⟨j,hj,h⟩
  refine⟨j,hj,Classical.byContradiction fun hs=>h ?_⟩
  unfold isIn;rw[sameS_comm,if_neg hs]
 ·intro ⟨j,hj,hs⟩
  refine⟨j,hj,?_⟩
  unfold isIn;rw[sameS_comm,if_pos hs];omega
theorem behV_iff{xs:List ByteArray}{s:ByteArray}:0<behV xs s↔ ∃ j,j<xs.length∧j≠0∧sameS s (xs.getD j ByteArray.empty)=true:=by
 have hn: ∀ j,0≤behE xs s j:=fun j=>by unfold behE;split<;>omega
 have h1:0<behV xs s↔behV xs s≠0:=by
  have:=firstN_nonneg hn xs.length
  unfold behV
  omega
 rw[h1]
 unfold behV
 rw[firstN_some]
 constructor
 ·intro ⟨j,hj,h⟩
  refine Classical.byContradiction fun hs=>h ?_
  unfold behE;rw[if_neg]
  intro ⟨h1,h2⟩
  exact hs ⟨j,hj,h1,by rw[sameS_comm];exact h2⟩
 ·intro ⟨j,hj,h0,hs⟩
  refine⟨j,hj,?_⟩
  unfold behE;rw[if_pos ⟨h0,by rw[sameS_comm];exact hs⟩];omega
theorem rels_nonempty: ∀ j,j<14→j≠0→(relsL.getD j ByteArray.empty).data.toList≠[]:=by decide
theorem kept_same(s:ByteArray):keptB s=keptR s:=by
 rw[Bool.eq_iff_iff]
 unfold keptB keptR
 simp only[Bool.or_eq_true,Bool.and_eq_true,decide_eq_true_iff]
 rw[hasW_iff,hasW_iff,isIn_iff,behV_iff]
 constructor
 ·rintro(h|⟨he,j,hj,hs⟩)
  ·exact Or.inl h
  ·refine Or.inr ⟨j,hj,?_,hs⟩
   rintro rfl
   have h2:s.toList=[]:=by
    have:s.toList=(relsL.getD 0 ByteArray.empty).toList:=by simpa[sameS]using hs
    rw[this,ByteArray.toList_eq];rfl
   rw[h2]at he
   exact absurd he (by decide)
 ·rintro(h|⟨j,hj,h0,hs⟩)
  ·exact Or.inl h
  ·refine Or.inr ⟨?_,j,hj,hs⟩
   have:s.toList=(relsL.getD j ByteArray.empty).toList:=by simpa[sameS]using hs
   have hne:=rels_nonempty j hj h0
   rw[←ByteArray.toList_eq,←this]at hne
   cases h:s.toList with
   |nil=>exact absurd h hne
   |cons a l=>rfl
end Go.Proofs.YtcebfkdhicbmkaaDoor
