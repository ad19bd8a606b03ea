/-
  A writer of tokens: words and marks, numbers, operands. Printed by shw.py.
-/
import Derived.Test.YtcebfkdhicbmkaaDoorShQ
import Derived.Test.YtcebfkdhicbmkaaDoorTyC
import Derived.Test.YtcebfkdhicbmkaaDoorChkF
namespace Go.Proofs.YtcebfkdhicbmkaaDoor
open Go.RowKit
set_option linter.unusedVariables false
set_option linter.unusedSimpArgs false
instance iRowTkn:RowI Tryd.prog 26 56 3:=⟨⟨Tryd.underlying26,⟨.agg ([.int .i64 0,.string ByteArray.empty,.int .i64 0]:List Value).toArray,by kernel_rfl,rfl⟩,by kernel_rfl,by kernel_rfl,by omega,by omega⟩⟩
instance iOneTkns:OneI Tryd.prog 26:=⟨⟨by kernel_rfl,_,Tryd.underlying26,rfl⟩⟩
abbrev WrP(g zw:Nat)(u:World)(Kt:List Ent)(toks:List Tkn)(e:Ending)(w' :World):Prop:=e= .returned (.tuple #[])∧ ∃ lv',Mem (StaysB g u) g u w' ⟨0,0⟩ (own zw [lv'] 35::slc u.heap.size 56 3 tknF lv' toks::Kt)
theorem Mem.sink2{At:PS→World→Prop}{b:Nat}{u w:World}{s:PS}{L:List Ent}{e1 e2 x:Ent}(M:Mem At b u w s (x::e1::e2::L)):Mem At b u w s (e1::e2::x::L):=M.perm ((List.perm_middle (l₁:=[e1,e2])).symm)
theorem Mem.rise2{At:PS→World→Prop}{b:Nat}{u w:World}{s:PS}{L:List Ent}{e1 e2 x:Ent}(M:Mem At b u w s (e1::e2::x::L)):Mem At b u w s (x::e1::e2::L):=M.perm (List.perm_middle (l₁:=[e1,e2]))
theorem Mem.third{At:PS→World→Prop}{b:Nat}{u w:World}{s:PS}{L:List Ent}{e1 e2 x:Ent}(M:Mem At b u w s (e1::e2::x::L)):Mem At b u w s (e1::e2::L):=M.cut [e1,e2]
theorem low_kind{s:ByteArray}(h:0<s.size):wordT s=⟨if 97≤(s[0]'h).toNat∧(s[0]'h).toNat≤122 then 1 else 4,s,0⟩:=by
 unfold wordT lowB
 have e:s.data.toList.headD 0=s[0]'h:=by
  have h2:0<s.data.size:=h
  show _=s.data[0]
  rw[List.headD_eq_head?_getD,List.head?_eq_getElem?,Array.getElem?_toList,Array.getElem?_eq_getElem h2]
  rfl
 rw[e]
 simp
section
variable {g zw:Nat} {u w0:World} {Kt:List Ent} {toks:List Tkn} {lv:Value}
set_option maxRecDepth 8000 in
set_option maxHeartbeats 8000000 in
theorem put_any(ss:List ByteArray)(hne: ∀ s∈ss,0<s.size)(q:Nat)(hb:toks.length+ss.length≤100000)(M:Mem (StaysB g u) g u w0 ⟨0,0⟩ (own zw [lv] 35::slc u.heap.size 56 3 tknF lv toks::own q (ss.map Value.string) 9::Kt)):
  Calls Tryd.prog 8 #[.pointer (some ⟨zw,0,none⟩),.slice (some ⟨q,0,none⟩) ss.length ss.length] w0 (WrP g zw u (own q (ss.map Value.string) 9::Kt) (toks++ss.map wordT)):=by
 have hsl:ss.length≤maxLen:=by unfold maxLen;omega
 have HNE:=Lib.hid hne
 clear hne
 go_enter Tryd.func8,Tryd.ntmps8
 go_wp2_with (first|(with_reducible (first|refine wq M ?_|(refine wS M ?_;clear M;intro w M)|(refine wV M ?_;clear M;intro z w M)|(refine wR M ?_;clear M;intro q w M))))
 go_loopg [9] ss.length (fun f i wr=> ∃ (j:Nat) (lv:Value) (ts:List Tkn),j+f=ss.length∧i= .int .i64 j∧Mem (StaysB g u) g u wr ⟨0,0⟩ (own zw [lv] 35::slc u.heap.size 56 3 tknF lv ts::own q (ss.map Value.string) 9::Kt)∧Hid (ts=toks++(ss.take j).map wordT))
 case atStart=>exact⟨0,lv,toks,by omega,rfl,M,Lib.hid (by simp)⟩
 case round=>
  clear M
  obtain⟨j,lv,ts,hj,rfl,M,HT⟩:=hrel
  by_cases hlt:j<ss.length
  ·obtain⟨cs,os,rows,hixs, -,hrrs,hws⟩:=SlF.rowAt (P:=Tryd.prog) (Own.strs (M.own_ (Mem.of_get (i:=2) rfl)) hsl) (plainF_firm _) Tryd.underlying60 size_str (i:=j) hlt
   have er:rows=[.string ss[j]]:=hrrs
   subst er
   have HK:=Lib.hid ((hws _ (Below.refl _ _)).1 0 _ rfl)
   have hs0:=HNE.out _ (List.getElem_mem hlt)
   have HTS:Hid (ts++[wordT ss[j]]=toks++(ss.take (j+1)).map wordT):=by show _=_;rw[HT.out,List.append_assoc,List.take_add_one,List.getElem?_eq_getElem hlt,List.map_append];rfl
   have HLN:Hid (ts.length≤100000):=by show _≤_;rw[HT.out,List.length_append,List.length_map,List.length_take];omega
   clear hws HT
   generalize ss[j]=s at HK HTS hs0
   have hlk:=low_kind hs0
   by_cases c1:97≤(s[0]'hs0).toNat
   ·by_cases c2:(s[0]'hs0).toNat≤122
    ·rw[if_pos ⟨c1,c2⟩]at hlk
     rw[hlk]at HTS
     clear hlk
     go_wp2_with (first|(first|(with_reducible (first|refine wq M ?_|(refine wS M ?_;clear M;intro w M)|(refine wV M ?_;clear M;intro z w M)|(refine wR M ?_;clear M;intro q w M)|refine wC HK.out ?_))|(refine w_ (q_app (R:=tknF) tknF_firm M 2 rfl ⟨1,s,0⟩ rfl (by rfl) (by rfl) HLN.out ?_);clear M;intro ra2 rc2 w M;(try simp only[List.set_cons_zero,List.set_cons_succ]at M))))
     go_roundg (ss.length - (j+1))
     case measure=>omega
     case rel=>exact⟨j+1,_,ts++[⟨1,s,0⟩],by omega,by go_num,by(have M2:=M.drop;exact M2),HTS⟩
    ·rw[if_neg (fun h=>c2 h.2)]at hlk
     rw[hlk]at HTS
     clear hlk
     go_wp2_with (first|(first|(with_reducible (first|refine wq M ?_|(refine wS M ?_;clear M;intro w M)|(refine wV M ?_;clear M;intro z w M)|(refine wR M ?_;clear M;intro q w M)|refine wC HK.out ?_))|(refine w_ (q_app (R:=tknF) tknF_firm M 2 rfl ⟨4,s,0⟩ rfl (by rfl) (by rfl) HLN.out ?_);clear M;intro ra2 rc2 w M;(try simp only[List.set_cons_zero,List.set_cons_succ]at M))))
     go_roundg (ss.length - (j+1))
     case measure=>omega
     case rel=>exact⟨j+1,_,ts++[⟨4,s,0⟩],by omega,by go_num,by(have M2:=M.drop;exact M2),HTS⟩
   ·rw[if_neg (fun h=>c1 h.1)]at hlk
    rw[hlk]at HTS
    clear hlk
    go_wp2_with (first|(first|(with_reducible (first|refine wq M ?_|(refine wS M ?_;clear M;intro w M)|(refine wV M ?_;clear M;intro z w M)|(refine wR M ?_;clear M;intro q w M)|refine wC HK.out ?_))|(refine w_ (q_app (R:=tknF) tknF_firm M 2 rfl ⟨4,s,0⟩ rfl (by rfl) (by rfl) HLN.out ?_);clear M;intro ra2 rc2 w M;(try simp only[List.set_cons_zero,List.set_cons_succ]at M))))
    go_roundg (ss.length - (j+1))
    case measure=>omega
    case rel=>exact⟨j+1,_,ts++[⟨4,s,0⟩],by omega,by go_num,by(have M2:=M.drop;exact M2),HTS⟩
  ·have hts:ts=toks++ss.map wordT:=by rw[HT.out,List.take_of_length_le (by omega)]
   subst hts
   clear HT
   go_wp2_with (first|(with_reducible (first|refine wq M ?_|(refine wS M ?_;clear M;intro w M)|(refine wV M ?_;clear M;intro z w M)|(refine wR M ?_;clear M;intro q w M))))
   go_end0
   exact⟨rfl,lv,M⟩
theorem put1(a:ByteArray)(ha:0<a.size)(q:Nat)(hb:toks.length+1≤100000)(M:Mem (StaysB g u) g u w0 ⟨0,0⟩ (own q [.string a] 9::own zw [lv] 35::slc u.heap.size 56 3 tknF lv toks::Kt)):
  Calls Tryd.prog 8 #[.pointer (some ⟨zw,0,none⟩),.slice (some ⟨q,0,none⟩) 1 1] w0 (WrP g zw u Kt (toks++[wordT a])):=
 (put_any [a] (by simpa using ha) q hb M.sink2).mono fun e w' ⟨h1,lv',M'⟩=>⟨h1,lv',M'.third⟩
theorem put2(a b:ByteArray)(ha:0<a.size)(hb2:0<b.size)(q:Nat)(hb:toks.length+2≤100000)(M:Mem (StaysB g u) g u w0 ⟨0,0⟩ (own q [.string a,.string b] 9::own zw [lv] 35::slc u.heap.size 56 3 tknF lv toks::Kt)):
  Calls Tryd.prog 8 #[.pointer (some ⟨zw,0,none⟩),.slice (some ⟨q,0,none⟩) 2 2] w0 (WrP g zw u Kt (toks++[wordT a,wordT b])):=
 (put_any [a,b] (by simp[ha,hb2]) q hb M.sink2).mono fun e w' ⟨h1,lv',M'⟩=>⟨h1,lv',M'.third⟩
theorem put3(a b c:ByteArray)(ha:0<a.size)(hb2:0<b.size)(hc:0<c.size)(q:Nat)(hb:toks.length+3≤100000)(M:Mem (StaysB g u) g u w0 ⟨0,0⟩ (own q [.string a,.string b,.string c] 9::own zw [lv] 35::slc u.heap.size 56 3 tknF lv toks::Kt)):
  Calls Tryd.prog 8 #[.pointer (some ⟨zw,0,none⟩),.slice (some ⟨q,0,none⟩) 3 3] w0 (WrP g zw u Kt (toks++[wordT a,wordT b,wordT c])):=
 (put_any [a,b,c] (by simp[ha,hb2,hc]) q hb M.sink2).mono fun e w' ⟨h1,lv',M'⟩=>⟨h1,lv',M'.third⟩
set_option maxRecDepth 8000 in
set_option maxHeartbeats 8000000 in
theorem number_any(n:Int)(hn: -4611686018427387904≤n∧n≤4611686018427387904)(hb:toks.length+2≤100000)(M:Mem (StaysB g u) g u w0 ⟨0,0⟩ (own zw [lv] 35::slc u.heap.size 56 3 tknF lv toks::Kt)):
  Calls Tryd.prog 19 #[.pointer (some ⟨zw,0,none⟩),.int .i64 n] w0 (WrP g zw u Kt (toks++shNum n)):=by
 have HLN:Hid (toks.length≤100000):=by show _≤_;omega
 have HLN2:Hid ((toks++[wordT ⟨#[45]⟩]).length≤100000):=by show _≤_;rw[List.length_append];simp;omega
 have hb1:Hid (toks.length+1≤100000):=by show _≤_;omega
 have HZ:Hid (0<(⟨#[45]⟩:ByteArray).size):=Lib.hid (by decide)
 unfold shNum
 by_cases h:n<0
 ·rw[if_pos h]
  have hwn:IntKind.i64.wrap (-n)= -n:=IntWalk.i64_in _ (by omega)
  have hcb:decide (n<0)=true:=by simpa using h
  go_enter Tryd.func19,Tryd.ntmps19
  go_wp2_with (first|(first|(with_reducible (first|refine wq M ?_|(refine wS M ?_;clear M;intro w M)|(refine wV M ?_;clear M;intro z w M)|(refine wR M ?_;clear M;intro q w M)|(refine w_ (q_rowv1 M ?_);clear M;intro q w M)))|(refine w_ (q_app (R:=tknF) tknF_firm M 2 rfl ⟨2,ByteArray.empty, -n⟩ rfl (by rfl) (by rfl) HLN2.out ?_);clear M;intro ra2 rc2 w M;(try simp only[List.set_cons_zero,List.set_cons_succ]at M)))|(go_at_call 8;with_reducible refine(put1 ⟨#[45]⟩ HZ.out _ hb1.out M).mono ?_;rintro e w5 ⟨rfl,lv5,M⟩))
  go_end0
  refine⟨rfl,.slice ra2 ((toks++[wordT ⟨#[45]⟩]).length+1) rc2,?_⟩
  have M2:=M.drop
  rw[List.append_assoc]at M2
  exact M2
 ·rw[if_neg h]
  have hcb:decide (n<0)=false:=by simpa using h
  go_enter Tryd.func19,Tryd.ntmps19
  go_wp2_with (first|(first|(with_reducible (first|refine wq M ?_|(refine wS M ?_;clear M;intro w M)|(refine wV M ?_;clear M;intro z w M)|(refine wR M ?_;clear M;intro q w M)))|(refine w_ (q_app (R:=tknF) tknF_firm M 2 rfl ⟨2,ByteArray.empty,n⟩ rfl (by rfl) (by rfl) HLN.out ?_);clear M;intro ra2 rc2 w M;(try simp only[List.set_cons_zero,List.set_cons_succ]at M))))
  go_end0
  exact⟨rfl,.slice ra2 (toks.length+1) rc2,M.drop⟩
end
end Go.Proofs.YtcebfkdhicbmkaaDoor
