/-
  The walks of package value and of its reference, first part: names and values.
-/
import Derived.Test.YtncmghnhfipklaaGreatDoorProg
import Derived.Test.YtncmghnhfipklaaGreatDoorPu00
import Derived.WalkSpells
import Derived.WalkLawsBesides
import Derived.Deep.Light
import Derived.Deep.QuietTactic
import Derived.BigQuiet
import Derived.Lib.Hide
import Derived.Handy
import Derived.Laws.CopyOwn
import Derived.OwnWalk
namespace Go.Proofs.YtncmghnhfipklaaGreatDoor
open Go.RowKit
set_option linter.unusedVariables false
set_option linter.unusedSimpArgs false

set_option maxHeartbeats 400000 in
theorem in_any (n lo hi : Int) (w : World) :
    Calls Tryz.prog 14 #[.int .i64 n, .int .i64 lo, .int .i64 hi] w fun e w' => e = .returned (.bool (inB n lo hi)) ∧ w' = w := by
  go_enter Tryz.func14, Tryz.ntmps14
  go_wp2
  all_goals (go_ret; refine ⟨?_, rfl⟩; exact ret_bool (by go_light; unfold inB; first | (simp; done) | (rw [Bool.eq_iff_iff]; simp []; done) | (rw [Bool.eq_iff_iff]; simp []; omega)))
set_option maxHeartbeats 400000 in
theorem name_any (s : ByteArray) (w : World) (hs : s.size ≤ maxLen) :
    Calls Tryz.prog 35 #[.string s] w fun e w' => e = .returned (.int .i64 (nameE s)) ∧ w' = w := by
  unfold maxLen at hs
  by_cases h1 : s.size < 1
  · have : (s.size : Int) < 1 := by omega
    go_enter Tryz.func35, Tryz.ntmps35
    go_wp2
    go_ret
    exact ⟨ret_int (by simp [nameE]; omega), rfl⟩
  by_cases h2 : 10 < s.size
  · have : (10 : Int) < (s.size : Int) := by omega
    go_enter Tryz.func35, Tryz.ntmps35
    go_wp2
    go_ret
    exact ⟨ret_int (by simp [nameE]; omega), rfl⟩
  have g1 : (decide ((s.size : Int) < 1) || decide ((10 : Int) < (s.size : Int))) = false := by simp; omega
  have g2 : decide ((s.size : Int) < 1) = false := by simp; omega
  have g3 : decide ((10 : Int) < (s.size : Int)) = false := by simp; omega
  go_enter Tryz.func35, Tryz.ntmps35
  go_wp2_with fail
  go_loop [15] (fun i => ∃ k : Nat, k ≤ s.size ∧ i = .int .i64 k ∧ AllZ (charE s) k) (fun i => s.size - (intOf i).toNat)
  case atStart => exact ⟨0, by omega, rfl, allZ_zero _⟩
  case round =>
    obtain ⟨k, hk, rfl, hz⟩ := hrel
    by_cases hlt : k < s.size
    · have hb : Hid ((s[k].toNat : Int) = byteAt s k) := byteAt_eq s k hlt
      by_cases hk0 : k = 0
      · have e0 : ((k : Int) == 0) = true := by simp [hk0]
        have hk0' : Hid (k = 0) := hk0; clear hk0
        go_wp2
        all_goals first
          | (go_ret; have hc : charE s k = 4 := by (go_light; unfold charE; rw [← hb.out, if_neg]; have := hk0'.out; (try simp only [Bool.not_eq_true', Bool.not_eq_false', decide_eq_true_eq, decide_eq_false_iff_not, beq_iff_eq, beq_eq_false_iff_ne, bne_iff_ne, ne_eq, Bool.or_eq_true, Bool.and_eq_true, Bool.or_eq_false_iff, Bool.and_eq_false_imp, bne_eq_false_iff_eq, List.isEmpty_iff, List.isEmpty_eq_false_iff] at *); omega)
             exact ⟨ret_int (by simp [nameE, firstN_at hz hlt (by rw [hc]; omega), hc]; omega), rfl⟩)
          | (have hc : charE s k = 0 := by (go_light; unfold charE; rw [← hb.out, if_pos]; have := hk0'.out; (try simp only [Bool.not_eq_true', Bool.not_eq_false', decide_eq_true_eq, decide_eq_false_iff_not, beq_iff_eq, beq_eq_false_iff_ne, bne_iff_ne, ne_eq, Bool.or_eq_true, Bool.and_eq_true, Bool.or_eq_false_iff, Bool.and_eq_false_imp, bne_eq_false_iff_eq, List.isEmpty_iff, List.isEmpty_eq_false_iff] at *); omega)
             go_round
             case rel => exact ⟨k + 1, by omega, by go_num, allZ_succ hz hc⟩
             case measure => simp [intOf]; omega)
      · have e0 : ((k : Int) == 0) = false := by simp [hk0]
        have hk0' : Hid (¬ k = 0) := hk0; clear hk0
        go_wp2
        all_goals first
          | (go_ret; have hc : charE s k = 4 := by (go_light; unfold charE; rw [← hb.out, if_neg]; have := hk0'.out; (try simp only [Bool.not_eq_true', Bool.not_eq_false', decide_eq_true_eq, decide_eq_false_iff_not, beq_iff_eq, beq_eq_false_iff_ne, bne_iff_ne, ne_eq, Bool.or_eq_true, Bool.and_eq_true, Bool.or_eq_false_iff, Bool.and_eq_false_imp, bne_eq_false_iff_eq, List.isEmpty_iff, List.isEmpty_eq_false_iff] at *); omega)
             exact ⟨ret_int (by simp [nameE, firstN_at hz hlt (by rw [hc]; omega), hc]; omega), rfl⟩)
          | (have hc : charE s k = 0 := by (go_light; unfold charE; rw [← hb.out, if_pos]; have := hk0'.out; (try simp only [Bool.not_eq_true', Bool.not_eq_false', decide_eq_true_eq, decide_eq_false_iff_not, beq_iff_eq, beq_eq_false_iff_ne, bne_iff_ne, ne_eq, Bool.or_eq_true, Bool.and_eq_true, Bool.or_eq_false_iff, Bool.and_eq_false_imp, bne_eq_false_iff_eq, List.isEmpty_iff, List.isEmpty_eq_false_iff] at *); omega)
             go_round
             case rel => exact ⟨k + 1, by omega, by go_num, allZ_succ hz hc⟩
             case measure => simp [intOf]; omega)
    · go_wp2
      go_ret
      obtain rfl : k = s.size := by omega
      exact ⟨ret_int (by simp [nameE, firstN_zero hz]; omega), rfl⟩

set_option maxHeartbeats 400000 in
theorem nameFault_any (s : ByteArray) (w : World) (hs : s.size ≤ maxLen) :
    Calls Tryz.prog 50 #[.string s] w fun e w' => e = .returned (.int .i64 (nameE s)) ∧ w' = w := by
  unfold maxLen at hs
  cases hr : inB (s.size : Int) 1 10 with
  | false =>
    go_enter Tryz.func50, Tryz.ntmps50
    go_wp2_with (go_at_call 14; refine (in_any _ _ _ _).mono ?_; rintro e w' ⟨rfl, rfl⟩)
    go_ret
    rw [inB_false] at hr
    exact ⟨ret_int (by simp [nameE]; omega), rfl⟩
  | true =>
    have hr' : Hid (1 ≤ (s.size : Int) ∧ (s.size : Int) ≤ 10) := inB_true.1 hr
    go_enter Tryz.func50, Tryz.ntmps50
    go_wp2_with (go_at_call 14; refine (in_any _ _ _ _).mono ?_; rintro e w' ⟨rfl, rfl⟩)
    go_loop [3] (fun i => ∃ k : Nat, k ≤ s.size ∧ i = .int .i64 k ∧ AllZ (charE s) k) (fun i => s.size - (intOf i).toNat)
    case atStart => exact ⟨0, by omega, rfl, allZ_zero _⟩
    case round =>
      obtain ⟨k, hk, rfl, hz⟩ := hrel
      by_cases hlt : k < s.size
      · have hb : Hid ((s[k].toNat : Int) = byteAt s k) := byteAt_eq s k hlt
        have h256 : (s[k].toNat : Int) < 256 := by have := s[k].toNat_lt; omega
        have key : ∀ (a b c : Bool), inB (s[k].toNat : Int) 97 122 = a → inB (s[k].toNat : Int) 48 57 = b → ((k : Int) == 0) = c → charE s k = if a || (!c && b) then 0 else 4 := by
          intro a b c ha hb' hc
          unfold charE
          rw [← hb.out]
          subst ha hb' hc
          simp only [inB]
          by_cases q : k = 0
          · simp [q]
          · have q' : (k : Int) ≠ 0 := by omega
            simp [q, q']
        have Key : Hid (∀ (a b c : Bool), inB (s[k].toNat : Int) 97 122 = a → inB (s[k].toNat : Int) 48 57 = b → ((k : Int) == 0) = c → charE s k = if a || (!c && b) then 0 else 4) := key
        clear key
        cases ha : inB (s[k].toNat : Int) 97 122 <;> cases hb' : inB (s[k].toNat : Int) 48 57 <;> cases hc : ((k : Int) == 0)
        all_goals
          have hce := Key.out _ _ _ ha hb' hc
          simp only [Bool.or_true, Bool.true_or, Bool.or_false, Bool.false_or, Bool.not_true, Bool.not_false, Bool.and_true, Bool.and_false, Bool.true_and, Bool.false_and, if_true, Bool.false_eq_true, if_false] at hce
          have HC : Hid (charE s k = _) := hce
          clear hce
          go_wp2_with (go_at_call 14; refine (in_any _ _ _ _).mono ?_; rintro e w' ⟨rfl, rfl⟩)
          first
            | (go_ret; exact ⟨ret_int (by have h := hr'.out; simp [nameE, firstN_at hz hlt (by rw [HC.out]; omega), HC.out]; omega), rfl⟩)
            | (go_round
               case rel => exact ⟨k + 1, by omega, by go_num, allZ_succ hz HC.out⟩
               case measure => simp [intOf]; omega)
      · go_wp2
        go_ret
        obtain rfl : k = s.size := by omega
        exact ⟨ret_int (by have h := hr'.out; simp [nameE, firstN_zero hz]; omega), rfl⟩

theorem size_toList (s : ByteArray) : s.toList = [] ↔ s.size = 0 := by
  rw [ByteArray.toList_eq]; cases s with | mk d => simp [ByteArray.size]

set_option maxHeartbeats 400000 in
theorem valCheck_any (k i : Int) (s : ByteArray) (w : World) (hs : s.size ≤ maxLen) :
    Calls Tryz.prog 93 #[.agg #[.int .i64 k, .int .i64 i, .string s]] w fun e w' => e = .returned (.int .i64 (valE ⟨k, i, s⟩)) ∧ Below w.heap.size w w' := by
  unfold maxLen at hs
  go_enter Tryz.func93, Tryz.ntmps93
  go_wp2
  all_goals (go_ret; refine ⟨ret_int ?_, (by repeat (first | exact Below.refl _ _ | (refine Below.alloc ?_ (by omega) _)))⟩; go_light; simp only [valE]; (try simp only [Bool.not_eq_true', Bool.not_eq_false', decide_eq_true_eq, decide_eq_false_iff_not, beq_iff_eq, beq_eq_false_iff_ne, bne_iff_ne, ne_eq, Bool.or_eq_true, Bool.and_eq_true, Bool.or_eq_false_iff, Bool.and_eq_false_imp, bne_eq_false_iff_eq, List.isEmpty_iff, List.isEmpty_eq_false_iff, size_toList] at *); (repeat' split) <;> first | omega | (simp_all; done))
set_option maxHeartbeats 400000 in
theorem valFault_any (k i : Int) (s : ByteArray) (w : World) (hs : s.size ≤ maxLen) :
    Calls Tryz.prog 101 #[.agg #[.int .i64 k, .int .i64 i, .string s]] w fun e w' => e = .returned (.int .i64 (valE ⟨k, i, s⟩)) ∧ Below w.heap.size w w' := by
  unfold maxLen at hs
  go_enter Tryz.func101, Tryz.ntmps101
  go_wp2_with (go_at_call 14; refine (in_any _ _ _ _).mono ?_; rintro e w' ⟨rfl, rfl⟩)
  all_goals (go_ret; refine ⟨ret_int ?_, (by repeat (first | exact Below.refl _ _ | (refine Below.alloc ?_ (by omega) _)))⟩; go_light; simp only [valE]; (try simp only [Bool.not_eq_true', Bool.not_eq_false', decide_eq_true_eq, decide_eq_false_iff_not, beq_iff_eq, beq_eq_false_iff_ne, bne_iff_ne, ne_eq, Bool.or_eq_true, Bool.and_eq_true, Bool.or_eq_false_iff, Bool.and_eq_false_imp, bne_eq_false_iff_eq, List.isEmpty_iff, List.isEmpty_eq_false_iff, size_toList, inB_true, inB_false] at *); (repeat' split) <;> omega)
end Go.Proofs.YtncmghnhfipklaaGreatDoor
/-
  Lists of strings in memory; the tables of the program's words as such; slices.Index and slices.Contains at strings, walked.
-/
namespace Go.Proofs.YtncmghnhfipklaaGreatDoor
open Go.RowKit
set_option linter.unusedVariables false
set_option linter.unusedSimpArgs false
def wordF:(Nat→Prop)→World→List Value→ByteArray→Prop:=plainF fun s=>[.string s]
theorem wordF_firm:Firm wordF:=plainF_firm _
theorem wordF_one{F:Nat→Prop}{w:World}{row:List Value}{s:ByteArray}(h:wordF F w row s):row=[.string s]:=h
theorem size_word:SizeIs Tryz.prog 9 1:=fun w=>by kernel_rfl
theorem RowAt.one{w:World}{b o:Nat}{x:Value}(h:RowAt w b o 1 [x]):w.cell? ⟨b,o,none⟩=some x:=h.2 0 (by omega)
theorem words_cells{F:Nat→Prop}{w:World}{g n:Nat}{xs:List ByteArray}(hF:F g)(hlt:g<w.heap.size)(hn:xs.length=n)(hm:n≤1000)(h: ∀ i (h:i<xs.length),w.cell? ⟨g,i,none⟩=some (.string xs[i])):SlF F w 1 wordF (some ⟨g,0,none⟩) n n xs:=by
 subst hn
 refine⟨rfl,Nat.le_refl _,by unfold maxLen;omega,by simp,fun i hi=>⟨g,0,[.string xs[i]],rfl,hF,hlt,⟨rfl,fun j hj=>?_⟩,rfl⟩⟩
 obtain rfl:j=0:=by omega
 simpa using h i hi
def keptL:List ByteArray:=[⟨#[97,110,100]⟩,⟨#[97,110,121]⟩,⟨#[101,109,105,116]⟩,⟨#[105,110,116]⟩,⟨#[108,97,115,116]⟩,⟨#[109,97,110,121]⟩,⟨#[110,111,116]⟩,⟨#[111,102]⟩,⟨#[111,114]⟩,⟨#[111,118,101,114]⟩,⟨#[114,117,108,101]⟩,⟨#[116,101,120,116]⟩,⟨#[116,105,109,101]⟩,⟨#[116,121,112,101]⟩,⟨#[119,104,101,110]⟩,⟨#[119,104,101,114,101]⟩,⟨#[119,105,116,104,105,110]⟩]
def relsL:List ByteArray:=[⟨#[]⟩,⟨#[98,101,102,111,114,101]⟩,⟨#[97,102,116,101,114]⟩,⟨#[109,101,101,116,115]⟩,⟨#[109,101,116,98,121]⟩,⟨#[111,118,101,114,108,97,112,115]⟩,⟨#[111,118,101,114,108,97,112,112,101,100]⟩,⟨#[115,116,97,114,116,115]⟩,⟨#[115,116,97,114,116,101,100,98,121]⟩,⟨#[100,117,114,105,110,103]⟩,⟨#[99,111,110,116,97,105,110,115]⟩,⟨#[102,105,110,105,115,104,101,115]⟩,⟨#[102,105,110,105,115,104,101,100,98,121]⟩,⟨#[101,113,117,97,108,115]⟩]
theorem sameS_comm(a b:ByteArray):sameS a b=sameS b a:=by
 unfold sameS
 rw[Bool.eq_iff_iff]
 simp only[beq_iff_eq]
 exact⟨fun h=>h.symm,fun h=>h.symm⟩
def seekE(xs:List ByteArray)(s:ByteArray)(j:Nat):Int:=if sameS s (xs.getD j ByteArray.empty)=true then(j:Int)+1 else 0
def seekV(xs:List ByteArray)(s:ByteArray):Int:=firstN (seekE xs s) xs.length
theorem word_getD(xs:List ByteArray)(j:Nat)(h:j<xs.length):xs.getD j ByteArray.empty=xs[j]:=by simp[List.getD,List.getElem?_eq_getElem h]
set_option maxHeartbeats 1000000 in
theorem index_any(F:Nat→Prop)(ao:Option Addr)(n cap:Nat)(xs:List ByteArray)(s:ByteArray)(w:World)(hX:SlF F w 1 wordF ao n cap xs):
  Calls Tryz.prog 62 #[.slice ao n cap,.string s] w fun e w' =>e= .returned (.int .i64 (seekV xs s - 1))∧w=w' :=by
 have NL:Hid (n=xs.length):=hX.len
 have hle:=hX.le
 go_enter Tryz.func62,Tryz.ntmps62
 go_wp2_with fail
 go_loop [8] (fun i=> ∃ k:Nat,k≤n∧i= .int .i64 k∧AllZ (seekE xs s) k) (fun i=>n - (intOf i).toNat)
 case atStart=>exact⟨0,by omega,rfl,allZ_zero _⟩
 case round=>
  obtain⟨k,hk,rfl,haz⟩:=hrel
  have AZ:=Lib.hid haz
  clear haz
  by_cases hlt:k<n
  ·have hkl:k<xs.length:=by have:=NL.out;omega
   obtain⟨b,off,row,hix,hblt,hrow,hrr⟩:=hX.toR.index (P:=Tryz.prog) Tryz.underlying84 size_word (i:=k) hkl
   obtain rfl:=wordF_one hrr
   have d0:=hrow.one
   simp only[Nat.mul_one]at hix d0
   by_cases hs:sameS s xs[k]=true
   ·have hE:(s.toList==xs[k].toList)=true:=hs
    have HV:Hid (seekV xs s - 1=k):=by
     show _=_
     have h1:seekE xs s k=(k:Int)+1:=by unfold seekE;rw[word_getD _ _ hkl,if_pos hs]
     have:=firstN_at (n:=xs.length) AZ.out hkl (by rw[h1];omega)
     unfold seekV
     rw[this,h1];omega
    clear hs
    go_wp2
    go_ret
    exact⟨ret_int HV.out.symm,rfl⟩
   ·have hE:(s.toList==xs[k].toList)=false:=by simpa[sameS]using hs
    have HZ:Hid (AllZ (seekE xs s) (k+1)):=allZ_succ AZ.out (by unfold seekE;rw[word_getD _ _ hkl,if_neg hs])
    clear hs
    go_wp2
    go_round
    case rel=>exact⟨k+1,by omega,by go_num,HZ.out⟩
    case measure=>simp[intOf];omega
  ·have hkn:Hid (k=n):=by show _=_;omega
   go_wp2
   go_ret
   refine⟨ret_int ?_,rfl⟩
   have h1:=AZ.out
   rw[hkn.out,NL.out]at h1
   unfold seekV
   rw[firstN_zero h1];rfl
def hasW(xs:List ByteArray)(s:ByteArray):Bool:=decide (1≤seekV xs s)
theorem contains_any(F:Nat→Prop)(ao:Option Addr)(n cap:Nat)(xs:List ByteArray)(s:ByteArray)(w:World)(hX:SlF F w 1 wordF ao n cap xs):
  Calls Tryz.prog 36 #[.slice ao n cap,.string s] w fun e w' =>e= .returned (.bool (hasW xs s))∧w=w' :=by
 have HI:=Lib.hid (index_any F ao n cap xs s w hX)
 go_enter Tryz.func36,Tryz.ntmps36
 go_wp2_with (go_at_call 62;refine HI.out.mono ?_;rintro e w' ⟨rfl,rfl⟩)
 go_ret
 exact⟨ret_bool rfl,rfl⟩
end Go.Proofs.YtncmghnhfipklaaGreatDoor
/-
  The walks of package bound and its reference, first part: may a matrix be?
-/
namespace Go.Proofs.YtncmghnhfipklaaGreatDoor
open Go.RowKit
set_option linter.unusedVariables false
set_option linter.unusedSimpArgs false
def intR:World→List Value→Int→Prop:=fun _ row x=>row=[.int .i64 x]
def lineR:World→List Value→List Int→Prop:=fun w row xs=> ∃ ao n cap,row=[.slice ao n cap]∧SlR w 1 intR ao n cap xs∧xs.length*8≤140737488355328
theorem size_int:SizeIs Tryz.prog 3 1:=fun w=>by kernel_rfl
theorem size_ints:SizeIs Tryz.prog 26 1:=fun w=>by kernel_rfl
def cellE(xs:List Int)(k:Nat):Int:=if xs.getD k 0=1152921504606846976∨(-35184372088832≤xs.getD k 0∧xs.getD k 0≤35184372088832)then 0 else 2
def lineE(n:Nat)(m:List (List Int))(i:Nat):Int:=if(m.getD i []).length=n then firstN (cellE (m.getD i [])) (m.getD i []).length else 4
def matE(m:List (List Int)):Int:=if 12<m.length then 1 else firstN (lineE m.length m) m.length
theorem line_getD(m:List (List Int))(i:Nat)(hi:i<m.length):m.getD i []=m[i]:=by simp[List.getD,List.getElem?_eq_getElem hi]
theorem int_getD(xs:List Int)(i:Nat)(hi:i<xs.length):xs.getD i 0=xs[i]:=by simp[List.getD,List.getElem?_eq_getElem hi]
theorem cell_ways(x:Int):
  (x=1152921504606846976∧(x !=1152921504606846976)=false)∨
  (¬ x=1152921504606846976∧(x !=1152921504606846976)=true∧ -35184372088832≤x∧x≤35184372088832)∨
  (¬ x=1152921504606846976∧(x !=1152921504606846976)=true∧x< -35184372088832)∨
  (¬ x=1152921504606846976∧(x !=1152921504606846976)=true∧ ¬ x< -35184372088832∧35184372088832<x):=by
 by_cases h:x=1152921504606846976
 ·exact Or.inl ⟨h,by simp[h]⟩
 ·have h' :(x !=1152921504606846976)=true:=by simp[h]
  by_cases h1:x< -35184372088832
  ·exact Or.inr (Or.inr (Or.inl ⟨h,h',h1⟩))
  ·by_cases h2:35184372088832<x
   ·exact Or.inr (Or.inr (Or.inr ⟨h,h',h1,h2⟩))
   ·exact Or.inr (Or.inl ⟨h,h',by omega,by omega⟩)
set_option maxHeartbeats 2000000 in
theorem matCheck_any(ao:Option Addr)(n cap:Nat)(m:List (List Int))(w:World)(hM:SlR w 1 lineR ao n cap m):
  Calls Tryz.prog 79 #[.slice ao n cap] w fun e w' =>e= .returned (.int .i64 (matE m))∧Below w.heap.size w w' :=by
 have hnl:=hM.len
 have hle:=hM.le
 by_cases h12:12<n
 ·have h12' :(12:Int)<(n:Int):=by omega
  go_enter Tryz.func79,Tryz.ntmps79
  go_wp2
  go_ret
  exact⟨ret_int (by simp[matE];omega),(by repeat(exact Below.refl _ _))⟩
 ·have h12' : ¬ (12:Int)<(n:Int):=by omega
  have NL:Hid (n=m.length):=hnl
  clear hnl
  go_enter Tryz.func79,Tryz.ntmps79
  go_wp2_with fail
  go_loop [12] (fun i=> ∃ k:Nat,k≤n∧i= .int .i64 k∧AllZ (lineE m.length m) k) (fun i=>n - (intOf i).toNat)
  case atStart=>exact⟨0,by omega,rfl,allZ_zero _⟩
  case round=>
   obtain⟨k,hk,rfl,haz⟩:=hrel
   by_cases hlt:k<n
   ·obtain⟨b,off,row,hix,hblt,hrow,hrr⟩:=hM.index (P:=Tryz.prog) Tryz.underlying78 size_ints (i:=k) (by have:=NL.out;omega)
    obtain⟨ao2,n2,cap2,rfl,hR,h8⟩:=hrr
    have c0:=hrow.one
    simp only[Nat.mul_one]at hix c0
    have hkl:k<m.length:=by have:=NL.out;omega
    have hgd:Hid (m.getD k []=m[k]):=line_getD m k hkl
    have N2:Hid (n2=m[k].length):=hR.len
    have hle2:=hR.le
    by_cases hl:n2=n
    ·have hl1:((n2:Int)!=(n:Int))=false:=by simp[hl]
     have HL:Hid (n2=n):=hl;clear hl
     have hlk:Hid (lineE m.length m k=firstN (cellE m[k]) m[k].length):=by show lineE m.length m k=_;unfold lineE;rw[hgd.out,if_pos (by have:=NL.out;have:=HL.out;have:=N2.out;omega)]
     go_wp2_with fail
     go_loop [23] (fun i=> ∃ j:Nat,j≤n2∧i= .int .i64 j∧AllZ (cellE m[k]) j) (fun i=>n2 - (intOf i).toNat)
     case atStart=>exact⟨0,by omega,rfl,allZ_zero _⟩
     case round=>
      obtain⟨j,hj,rfl,haz2⟩:=hrel
      by_cases hjn:j<n2
      ·have hjl:j<m[k].length:=by have:=N2.out;omega
       obtain⟨b2,off2,row2,hix2,hblt2,hrow2,hrr2⟩:=hR.index (P:=Tryz.prog) Tryz.underlying26 size_int (i:=j) hjl
       have hx:Hid ((m[k]).getD j 0=m[k][j]):=int_getD m[k] j hjl
       obtain⟨x,hxx⟩: ∃ x:Int,x=m[k][j]:=⟨_,rfl⟩
       rw[←hxx]at hrr2 hx
       clear hxx
       have hrr3:row2=[.int .i64 x]:=hrr2
       subst hrr3
       have d0:=hrow2.one
       simp only[Nat.mul_one]at hix2 d0
       rcases cell_ways x with⟨g1,g2⟩|⟨g1,g2,g3,g4⟩|⟨g1,g2,g3⟩|⟨g1,g2,g3,g4⟩
       ·have hc:Hid (cellE m[k] j=0):=by show cellE m[k] j=0;unfold cellE;rw[hx.out,if_pos (by omega)]
        clear g1
        go_wp2
        exact⟨⟨j+1,by omega,by go_num,allZ_succ haz2 hc.out⟩,by simp[intOf];omega⟩
       ·have hc:Hid (cellE m[k] j=0):=by show cellE m[k] j=0;unfold cellE;rw[hx.out,if_pos (by omega)]
        clear g1
        go_wp2
        exact⟨⟨j+1,by omega,by go_num,allZ_succ haz2 hc.out⟩,by simp[intOf];omega⟩
       all_goals
        have hc:Hid (cellE m[k] j=2):=by show cellE m[k] j=2;unfold cellE;rw[hx.out,if_neg (by omega)]
        clear g1
        go_wp2
        go_ret
        have h2:=firstN_at haz2 hjl (by rw[hc.out];omega)
        rw[hc.out,←hlk.out]at h2
        have h3:=firstN_at haz hkl (by rw[h2];omega)
        rw[h2]at h3
        exact⟨ret_int (by have:=NL.out;simp[matE,h3];omega),(by repeat(exact Below.refl _ _))⟩
      ·have hjk:j=m[k].length:=by have:=N2.out;omega
       have hz2:Hid (lineE m.length m k=0):=by show lineE m.length m k=0;rw[hlk.out];subst hjk;exact firstN_zero haz2
       clear hjk
       go_wp2
       exact⟨⟨k+1,by omega,by go_num,allZ_succ haz hz2.out⟩,by simp[intOf];omega⟩
    ·have hl1:((n2:Int)!=(n:Int))=true:=by simp;omega
     have hlk:Hid (lineE m.length m k=4):=by show lineE m.length m k=_;unfold lineE;rw[hgd.out,if_neg (by have:=NL.out;have:=N2.out;omega)]
     go_wp2
     go_ret
     have h3:=firstN_at haz hkl (by rw[hlk.out];omega)
     rw[hlk.out]at h3
     exact⟨ret_int (by have:=NL.out;simp[matE,h3];omega),(by repeat(exact Below.refl _ _))⟩
   ·have hkn:Hid (k=m.length):=by show k=m.length;have:=NL.out;omega
    go_wp2
    go_ret
    have:=hkn.out
    subst this
    exact⟨ret_int (by have:=NL.out;simp[matE,firstN_zero haz];omega),(by repeat(exact Below.refl _ _))⟩
set_option maxHeartbeats 2000000 in
theorem matFault_any(ao:Option Addr)(n cap:Nat)(m:List (List Int))(w:World)(hM:SlR w 1 lineR ao n cap m):
  Calls Tryz.prog 103 #[.slice ao n cap] w fun e w' =>e= .returned (.int .i64 (matE m))∧Below w.heap.size w w' :=by
 have hnl:=hM.len
 have hle:=hM.le
 by_cases h12:12<n
 ·have h12' :(12:Int)<(n:Int):=by omega
  go_enter Tryz.func103,Tryz.ntmps103
  go_wp2
  go_ret
  exact⟨ret_int (by simp[matE];omega),(by repeat(exact Below.refl _ _))⟩
 ·have h12' : ¬ (12:Int)<(n:Int):=by omega
  have NL:Hid (n=m.length):=hnl
  clear hnl
  go_enter Tryz.func103,Tryz.ntmps103
  go_wp2_with fail
  go_loop [3] (fun i=> ∃ k:Nat,k≤n∧i= .int .i64 k∧AllZ (lineE m.length m) k) (fun i=>n - (intOf i).toNat)
  case atStart=>exact⟨0,by omega,rfl,allZ_zero _⟩
  case round=>
   obtain⟨k,hk,rfl,haz⟩:=hrel
   by_cases hlt:k<n
   ·obtain⟨b,off,row,hix,hblt,hrow,hrr⟩:=hM.index (P:=Tryz.prog) Tryz.underlying78 size_ints (i:=k) (by have:=NL.out;omega)
    obtain⟨ao2,n2,cap2,rfl,hR,h8⟩:=hrr
    have c0:=hrow.one
    simp only[Nat.mul_one]at hix c0
    have hkl:k<m.length:=by have:=NL.out;omega
    have hgd:Hid (m.getD k []=m[k]):=line_getD m k hkl
    have N2:Hid (n2=m[k].length):=hR.len
    have hle2:=hR.le
    by_cases hl:n2=n
    ·have hl1:((n2:Int)!=(n:Int))=false:=by simp[hl]
     have HL:Hid (n2=n):=hl;clear hl
     have hlk:Hid (lineE m.length m k=firstN (cellE m[k]) m[k].length):=by show lineE m.length m k=_;unfold lineE;rw[hgd.out,if_pos (by have:=NL.out;have:=HL.out;have:=N2.out;omega)]
     go_wp2_with fail
     go_loop [4] (fun i=> ∃ j:Nat,j≤n2∧i= .int .i64 j∧AllZ (cellE m[k]) j) (fun i=>n2 - (intOf i).toNat)
     case atStart=>exact⟨0,by omega,rfl,allZ_zero _⟩
     case round=>
      obtain⟨j,hj,rfl,haz2⟩:=hrel
      by_cases hjn:j<n2
      ·have hjl:j<m[k].length:=by have:=N2.out;omega
       obtain⟨b2,off2,row2,hix2,hblt2,hrow2,hrr2⟩:=hR.index (P:=Tryz.prog) Tryz.underlying26 size_int (i:=j) hjl
       have hx:Hid ((m[k]).getD j 0=m[k][j]):=int_getD m[k] j hjl
       obtain⟨x,hxx⟩: ∃ x:Int,x=m[k][j]:=⟨_,rfl⟩
       rw[←hxx]at hrr2 hx
       clear hxx
       have hrr3:row2=[.int .i64 x]:=hrr2
       subst hrr3
       have d0:=hrow2.one
       simp only[Nat.mul_one]at hix2 d0
       rcases cell_ways x with⟨g1,g2⟩|⟨g1,g2,g3,g4⟩|⟨g1,g2,g3⟩|⟨g1,g2,g3,g4⟩
       ·have hc:Hid (cellE m[k] j=0):=by show cellE m[k] j=0;unfold cellE;rw[hx.out,if_pos (by omega)]
        clear g1
        go_wp2
        exact⟨⟨j+1,by omega,by go_num,allZ_succ haz2 hc.out⟩,by simp[intOf];omega⟩
       ·have hc:Hid (cellE m[k] j=0):=by show cellE m[k] j=0;unfold cellE;rw[hx.out,if_pos (by omega)]
        clear g1
        have gi:inB x (-35184372088832) 35184372088832=true:=by rw[inB_true];omega
        go_wp2_with (go_at_call 14;refine(in_any _ _ _ _).mono ?_;rintro e w' ⟨rfl,rfl⟩)
        exact⟨⟨j+1,by omega,by go_num,allZ_succ haz2 hc.out⟩,by simp[intOf];omega⟩
       all_goals
        have hc:Hid (cellE m[k] j=2):=by show cellE m[k] j=2;unfold cellE;rw[hx.out,if_neg (by omega)]
        clear g1
        have gi:inB x (-35184372088832) 35184372088832=false:=by rw[inB_false];omega
        go_wp2_with (go_at_call 14;refine(in_any _ _ _ _).mono ?_;rintro e w' ⟨rfl,rfl⟩)
        go_ret
        have h2:=firstN_at haz2 hjl (by rw[hc.out];omega)
        rw[hc.out,←hlk.out]at h2
        have h3:=firstN_at haz hkl (by rw[h2];omega)
        rw[h2]at h3
        exact⟨ret_int (by have:=NL.out;simp[matE,h3];omega),(by repeat(exact Below.refl _ _))⟩
      ·have hjk:j=m[k].length:=by have:=N2.out;omega
       have hz2:Hid (lineE m.length m k=0):=by show lineE m.length m k=0;rw[hlk.out];subst hjk;exact firstN_zero haz2
       clear hjk
       go_wp2
       exact⟨⟨k+1,by omega,by go_num,allZ_succ haz hz2.out⟩,by simp[intOf];omega⟩
    ·have hl1:((n2:Int)!=(n:Int))=true:=by simp;omega
     have hlk:Hid (lineE m.length m k=4):=by show lineE m.length m k=_;unfold lineE;rw[hgd.out,if_neg (by have:=NL.out;have:=N2.out;omega)]
     go_wp2
     go_ret
     have h3:=firstN_at haz hkl (by rw[hlk.out];omega)
     rw[hlk.out]at h3
     exact⟨ret_int (by have:=NL.out;simp[matE,h3];omega),(by repeat(exact Below.refl _ _))⟩
   ·have hkn:Hid (k=m.length):=by show k=m.length;have:=NL.out;omega
    go_wp2
    go_ret
    have:=hkn.out
    subst this
    exact⟨ret_int (by have:=NL.out;simp[matE,firstN_zero haz];omega),(by repeat(exact Below.refl _ _))⟩
end Go.Proofs.YtncmghnhfipklaaGreatDoor
/-
  The walks of package bound and its reference, third part: matrices made anew, their blocks told; matrices compared; the free matrix.
-/
namespace Go.Proofs.YtncmghnhfipklaaGreatDoor
open Go.RowKit
set_option linter.unusedVariables false
set_option linter.unusedSimpArgs false
theorem info_int:(Tryz.prog.info? 3).map (fun i=>(i.zero,i.size,i.bytes))=some (some (.int .i64 0),1,8):=by kernel_rfl
theorem info_ints:(Tryz.prog.info? 26).map (fun i=>(i.zero,i.size,i.bytes))=some (some (.slice none 0 0),1,24):=by kernel_rfl
def lineF:(Nat→Prop)→World→List Value→List Int→Prop:=sliceF 1 8 intF
theorem lineF_firm:Firm lineF:=sliceF_firm intF_firm
theorem intF_one{F:Nat→Prop}{w:World}{row:List Value}{x:Int}(h:intF F w row x):row=[.int .i64 x]:=h
theorem line_old{F:Nat→Prop}{w:World}{row:List Value}{xs:List Int}(h:lineF F w row xs):lineR w row xs:=by
 obtain⟨ao,n,cap,e,⟨h1,h2,h3,h5,h4⟩,h8⟩:=h
 refine⟨ao,n,cap,e,⟨h1,h2,h3,h5,fun i hi=>?_⟩,Nat.le_trans h8 (by decide)⟩
 obtain⟨b,off,row,e,_,hlt,hr,hx⟩:=h4 i hi
 exact⟨b,off,row,e,hlt,hr,hx⟩
theorem mat_old{F:Nat→Prop}{w:World}{ao:Option Addr}{n cap:Nat}{m:List (List Int)}(h:SlF F w 1 lineF ao n cap m):SlR w 1 lineR ao n cap m:=by
 obtain⟨h1,h2,h3,h5,h4⟩:=h
 refine⟨h1,h2,h3,h5,fun i hi=>?_⟩
 obtain⟨b,off,row,e,_,hlt,hr,hx⟩:=h4 i hi
 exact⟨b,off,row,e,hlt,hr,line_old hx⟩
theorem OwnF.lt{α:Type}{F:Nat→Prop}{B:Nat}{w:World}{e k:Nat}{R:(Nat→Prop)→World→List Value→α→Prop}{o:Value}{xs:List α}(h:OwnF F B w e k R o xs): ∀ g,o.ownBlock=some g→g<w.heap.size:=by
 obtain⟨rs,h1,_⟩:=h
 rcases h1.2 with⟨rfl,_⟩|⟨g,cap,cur,rfl,hg,hh,_⟩
 ·intro g hg;simp[Value.ownBlock]at hg
 ·intro g' hg';simp[Value.ownBlock]at hg';subst hg';exact(Array.getElem?_eq_some_iff.1 hh).1
theorem off_new{α:Type}{F:Nat→Prop}{B B' :Nat}{w:World}{e k:Nat}{R:(Nat→Prop)→World→List Value→α→Prop}{o:Value}{xs:List α}(h:OwnF F B w e k R o xs)(hB:B' ≤w.heap.size): ∀ b,from_ w.heap.size b→off_ (from_ B') o b:=
 fun b hb=>⟨Nat.le_trans hB hb,fun e=>by have:=h.lt b e;unfold from_ at hb;omega⟩
end Go.Proofs.YtncmghnhfipklaaGreatDoor
/-
  Square matrices of the call's own, that are written in place: blocks apart. And the walks that make and write them: own, pair, join, merged.
-/
namespace Go.Proofs.YtncmghnhfipklaaGreatDoor
open Go.RowKit
set_option linter.unusedVariables false
set_option linter.unusedSimpArgs false
structure Grid (F:Nat→Prop) (w:World) (ao:Option Addr) (n cap:Nat) (gs:Nat→Nat) (g:Nat→Nat→Int):Prop where
 le:n≤cap
 max:cap≤maxLen
 nil:ao=none→cap=0
 row: ∀ r,r<n→ ∃ A rc cur,ao=some ⟨A,0,none⟩∧F A∧gs r≠A∧A<w.heap.size∧w.cell? ⟨A,r,none⟩=some (.slice (some ⟨gs r,0,none⟩) n rc)∧n≤rc∧rc≤maxLen∧w.heap[gs r]?=some (.cells cur 3 (0,0))∧(∀ c,c<n→cur[c]?=some (.int .i64 (g r c)))∧F (gs r)
 apart: ∀ r s,r<n→s<n→r≠s→gs r≠gs s
theorem Grid.same{F G:Nat→Prop}{w w' :World}{ao:Option Addr}{n cap:Nat}{gs:Nat→Nat}{g:Nat→Nat→Int}(h:Grid F w ao n cap gs g)(hs:Same F G w w'):Grid G w' ao n cap gs g:=by
 refine⟨h.le,h.max,h.nil,fun r hr=>?_,h.apart⟩
 obtain⟨A,rc,cur,e,hA,hne,hlt,hc,h1,h2,hh,hcur,hF⟩:=h.row r hr
 have hg:gs r<w.heap.size:=(Array.getElem?_eq_some_iff.1 hh).1
 refine⟨A,rc,cur,e,(hs.2 A hA hlt).1,hne,Nat.lt_of_lt_of_le hlt hs.1,?_,h1,h2,by rw[(hs.2 _ hF hg).2];exact hh,hcur,(hs.2 _ hF hg).1⟩
 exact(World.cell?_of_block (w:=w) (a:=⟨A,r,none⟩) (hs.2 A hA hlt).2).trans hc
theorem Grid.below{F:Nat→Prop}{w w' :World}{ao:Option Addr}{n cap:Nat}{gs:Nat→Nat}{g:Nat→Nat→Int}(h:Grid F w ao n cap gs g)(hb:Below w.heap.size w w'):Grid F w' ao n cap gs g:=h.same (Same.below hb)
theorem Grid.congr{F:Nat→Prop}{w:World}{ao:Option Addr}{n cap:Nat}{gs:Nat→Nat}{g g' :Nat→Nat→Int}(h:Grid F w ao n cap gs g)(hg: ∀ r c,r<n→c<n→g r c=g' r c):Grid F w ao n cap gs g' :=by
 refine⟨h.le,h.max,h.nil,fun r hr=>?_,h.apart⟩
 obtain⟨A,rc,cur,e,hA,hne,hlt,hc,h1,h2,hh,hcur,hF⟩:=h.row r hr
 exact⟨A,rc,cur,e,hA,hne,hlt,hc,h1,h2,hh,fun c hcn=>by rw[←hg r c hr hcn];exact hcur c hcn,hF⟩
def put2(g:Nat→Nat→Int)(i j:Nat)(v:Int):Nat→Nat→Int:=fun r c=>if r=i∧c=j then v else g r c
theorem Grid.store{F:Nat→Prop}{w:World}{ao:Option Addr}{n cap:Nat}{gs:Nat→Nat}{g:Nat→Nat→Int}(h:Grid F w ao n cap gs g){i j:Nat}(hi:i<n)(hj:j<n)(v:Int):
  Grid F (w.setCell ⟨gs i,j,none⟩ (.int .i64 v)) ao n cap gs (put2 g i j v):=by
 refine⟨h.le,h.max,h.nil,fun r hr=>?_,h.apart⟩
 obtain⟨A,rc,cur,e,hA,hne,hlt,hc,h1,h2,hh,hcur,hF⟩:=h.row r hr
 obtain⟨A',rc',cur',e',_,hne',_⟩:=h.row i hi
 obtain rfl:A=A' :=by rw[e]at e';injection e' with e';injection e'
 have hcA:(w.setCell ⟨gs i,j,none⟩ (.int .i64 v)).cell? ⟨A,r,none⟩=some (.slice (some ⟨gs r,0,none⟩) n rc):=by
  rw[World.cell?_setCell_other _ _ _ _ (by intro e;injection e with e1;exact hne' e1)];exact hc
 by_cases hri:r=i
 ·subst hri
  refine⟨A,rc,cur.setIfInBounds j (.int .i64 v),e,hA,hne,by simpa using hlt,hcA,h1,h2,?_,fun c hcn=>?_,hF⟩
  ·simp only[World.setCell,Array.getElem?_modify,if_true,hh,Option.map_some]
   simp
  ·rw[Array.getElem?_setIfInBounds]
   have hjs:j<cur.size:=by
    have:=hcur j hj
    exact(Array.getElem?_eq_some_iff.1 this).1
   unfold put2
   by_cases hcj:j=c
   ·subst hcj;simp[hjs]
   ·rw[if_neg hcj,if_neg (by omega)];exact hcur c hcn
 ·refine⟨A,rc,cur,e,hA,hne,by simpa using hlt,hcA,h1,h2,?_,fun c hcn=>?_,hF⟩
  ·rw[Below.heap_setCell _ _ _ _ (h.apart r i hr hi hri)];exact hh
  ·unfold put2
   rw[if_neg (fun h=>hri h.1)];exact hcur c hcn
theorem Grid.at{F:Nat→Prop}{w:World}{ao:Option Addr}{n cap:Nat}{gs:Nat→Nat}{g:Nat→Nat→Int}(h:Grid F w ao n cap gs g){i:Nat}(hi:i<n):
  ∃ A rc,A<w.heap.size∧gs i<w.heap.size∧F (gs i)∧gs i≠A∧n≤rc∧rc≤9223372036854775807∧(∀ wx,(Instr.indexAt 78 (.slice ao n cap) (.int .i64 i)).run Tryz.prog wx= .ok (.pointer (some ⟨A,i,none⟩)) wx)∧
   w.cell? ⟨A,i,none⟩=some (.slice (some ⟨gs i,0,none⟩) n rc)∧ ∀ j,j<n→w.cell? ⟨gs i,j,none⟩=some (.int .i64 (g i j))∧w.frozen? ⟨gs i,j,none⟩=false∧
    ∀ wx,(Instr.indexAt 26 (.slice (some ⟨gs i,0,none⟩) n rc) (.int .i64 j)).run Tryz.prog wx= .ok (.pointer (some ⟨gs i,j,none⟩)) wx:=by
 obtain⟨A,rc,cur,e,hA,hne,hlt,hc,h1,h2,hh,hcur,hF⟩:=h.row i hi
 have hle:=h.le
 have hmax:=h.max
 unfold maxLen at h2 hmax
 refine⟨A,rc,hlt,(Array.getElem?_eq_some_iff.1 hh).1,hF,hne,h1,h2,fun wx=>?_,hc,fun j hj=>⟨?_,?_,fun wx=>?_⟩⟩
 ·subst e
  simp[Instr.indexAt,run_underlying Tryz.underlying78,asIntOf,size_ints wx,Addr.add]
  rw[if_pos (by omega)]
  by_cases e0:i=0
  ·rw[if_pos e0,e0]
  ·rw[if_neg e0]
 ·simp only[World.cell?,hh]
  simpa using hcur j hj
 ·simp only[World.frozen?,hh]
  simp
 ·simp[Instr.indexAt,run_underlying Tryz.underlying26,asIntOf,size_int wx,Addr.add]
  rw[if_pos (by omega)]
  by_cases e0:j=0
  ·rw[if_pos e0,e0]
  ·rw[if_neg e0]
def gridL(n:Nat)(g:Nat→Nat→Int):List (List Int):=(List.range n).map fun r=>(List.range n).map fun c=>g r c
theorem gridL_congr{n:Nat}{g g' :Nat→Nat→Int}(h: ∀ r c,r<n→c<n→g r c=g' r c):gridL n g=gridL n g' :=by
 unfold gridL
 apply List.map_congr_left
 intro r hr
 apply List.map_congr_left
 intro c hc
 exact h r c (List.mem_range.1 hr) (List.mem_range.1 hc)
theorem Grid.toF{F:Nat→Prop}{w:World}{ao:Option Addr}{n cap:Nat}{gs:Nat→Nat}{g:Nat→Nat→Int}(h:Grid F w ao n cap gs g)(hn:n≤1000):SlF F w 1 lineF ao n cap (gridL n g):=by
 refine⟨by simp[gridL],h.le,h.max,h.nil,fun i hi=>?_⟩
 have hi' :i<n:=by simpa[gridL]using hi
 obtain⟨A,rc,cur,e,hA,hne,hlt,hc,h1,h2,hh,hcur,hF⟩:=h.row i hi'
 refine⟨A,0,[.slice (some ⟨gs i,0,none⟩) n rc],e,hA,hlt,⟨rfl,fun j hj=>?_⟩,?_⟩
 ·obtain rfl:j=0:=by omega
  simpa using hc
 ·have hel:(gridL n g)[i]=(List.range n).map fun c=>g i c:=by simp[gridL]
  rw[hel]
  refine⟨_,n,rc,rfl,⟨by simp,h1,h2,by simp,fun c hc=>?_⟩,by simp;omega⟩
  have hcn:c<n:=by simpa using hc
  refine⟨gs i,0,[.int .i64 (g i c)],rfl,hF,(Array.getElem?_eq_some_iff.1 hh).1,⟨rfl,fun j hj=>?_⟩,?_⟩
  ·obtain rfl:j=0:=by omega
   simp only[World.cell?,hh]
   simpa using hcur c hcn
  ·show [_]=[_]
   simp
end Go.Proofs.YtncmghnhfipklaaGreatDoor
