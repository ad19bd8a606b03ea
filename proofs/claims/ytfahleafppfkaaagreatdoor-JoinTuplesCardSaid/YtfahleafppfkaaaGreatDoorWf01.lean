/-
  The walks of package value and of its reference, first part: names and values.
-/
import Derived.Test.YtfahleafppfkaaaGreatDoorProg
import Derived.Test.YtfahleafppfkaaaGreatDoorWf00
import Derived.WalkSpells
import Derived.WalkLawsBesides
import Derived.Deep.Light
import Derived.Deep.QuietTactic
import Derived.BigQuiet
namespace Go.Proofs.YtfahleafppfkaaaGreatDoor
open Go.RowKit
set_option linter.unusedVariables false
set_option linter.unusedSimpArgs false

set_option maxHeartbeats 400000 in
theorem in_any (n lo hi : Int) (w : World) :
    Calls Tryz.prog 21 #[.int .i64 n, .int .i64 lo, .int .i64 hi] w fun e w' => e = .returned (.bool (inB n lo hi)) ∧ w' = w := by
  go_enter Tryz.func21, Tryz.ntmps21
  go_wp2
  all_goals (go_ret; refine ⟨?_, rfl⟩; exact ret_bool (by go_light; unfold inB; first | (simp; done) | (rw [Bool.eq_iff_iff]; simp []; done) | (rw [Bool.eq_iff_iff]; simp []; omega)))
set_option maxHeartbeats 400000 in
theorem name_any (s : ByteArray) (w : World) (hs : s.size ≤ maxLen) :
    Calls Tryz.prog 91 #[.string s] w fun e w' => e = .returned (.int .i64 (nameE s)) ∧ w' = w := by
  unfold maxLen at hs
  by_cases h1 : s.size < 1
  · have : (s.size : Int) < 1 := by omega
    go_enter Tryz.func91, Tryz.ntmps91
    go_wp2
    go_ret
    exact ⟨ret_int (by simp [nameE]; omega), rfl⟩
  by_cases h2 : 10 < s.size
  · have : (10 : Int) < (s.size : Int) := by omega
    go_enter Tryz.func91, Tryz.ntmps91
    go_wp2
    go_ret
    exact ⟨ret_int (by simp [nameE]; omega), rfl⟩
  have g1 : (decide ((s.size : Int) < 1) || decide ((10 : Int) < (s.size : Int))) = false := by simp; omega
  have g2 : decide ((s.size : Int) < 1) = false := by simp; omega
  have g3 : decide ((10 : Int) < (s.size : Int)) = false := by simp; omega
  go_enter Tryz.func91, Tryz.ntmps91
  go_wp2_with fail
  go_loop [15] (fun i => ∃ k : Nat, k ≤ s.size ∧ i = .int .i64 k ∧ AllZ (charE s) k) (fun i => s.size - (intOf i).toNat)
  case atStart => exact ⟨0, by omega, rfl, allZ_zero _⟩
  case round =>
    obtain ⟨k, hk, rfl, hz⟩ := hrel
    by_cases hlt : k < s.size
    · have hb : Hid ((s[k].toNat : Int) = byteAt s k) := byteAt_eq s k hlt
      by_cases hk0 : k = 0
      · have e0 : ((k : Int) == 0) = true := by simp [hk0]
        have hk0' : Hid (k = 0) := hk0; clear hk0
        go_wp2
        all_goals first
          | (go_ret; have hc : charE s k = 4 := by (go_light; unfold charE; rw [← hb.out, if_neg]; have := hk0'.out; (try simp only [Bool.not_eq_true', Bool.not_eq_false', decide_eq_true_eq, decide_eq_false_iff_not, beq_iff_eq, beq_eq_false_iff_ne, bne_iff_ne, ne_eq, Bool.or_eq_true, Bool.and_eq_true, Bool.or_eq_false_iff, Bool.and_eq_false_imp, bne_eq_false_iff_eq, List.isEmpty_iff, List.isEmpty_eq_false_iff] at *); omega)
             exact ⟨ret_int (by simp [nameE, firstN_at hz hlt (by rw [hc]; omega), hc]; omega), rfl⟩)
          | (have hc : charE s k = 0 := by (go_light; unfold charE; rw [← hb.out, if_pos]; have := hk0'.out; (try simp only [Bool.not_eq_true', Bool.not_eq_false', decide_eq_true_eq, decide_eq_false_iff_not, beq_iff_eq, beq_eq_false_iff_ne, bne_iff_ne, ne_eq, Bool.or_eq_true, Bool.and_eq_true, Bool.or_eq_false_iff, Bool.and_eq_false_imp, bne_eq_false_iff_eq, List.isEmpty_iff, List.isEmpty_eq_false_iff] at *); omega)
             go_round
             case rel => exact ⟨k + 1, by omega, by go_num, allZ_succ hz hc⟩
             case measure => simp [intOf]; omega)
      · have e0 : ((k : Int) == 0) = false := by simp [hk0]
        have hk0' : Hid (¬ k = 0) := hk0; clear hk0
        go_wp2
        all_goals first
          | (go_ret; have hc : charE s k = 4 := by (go_light; unfold charE; rw [← hb.out, if_neg]; have := hk0'.out; (try simp only [Bool.not_eq_true', Bool.not_eq_false', decide_eq_true_eq, decide_eq_false_iff_not, beq_iff_eq, beq_eq_false_iff_ne, bne_iff_ne, ne_eq, Bool.or_eq_true, Bool.and_eq_true, Bool.or_eq_false_iff, Bool.and_eq_false_imp, bne_eq_false_iff_eq, List.isEmpty_iff, List.isEmpty_eq_false_iff] at *); omega)
             exact ⟨ret_int (by simp [nameE, firstN_at hz hlt (by rw [hc]; omega), hc]; omega), rfl⟩)
          | (have hc : charE s k = 0 := by (go_light; unfold charE; rw [← hb.out, if_pos]; have := hk0'.out; (try simp only [Bool.not_eq_true', Bool.not_eq_false', decide_eq_true_eq, decide_eq_false_iff_not, beq_iff_eq, beq_eq_false_iff_ne, bne_iff_ne, ne_eq, Bool.or_eq_true, Bool.and_eq_true, Bool.or_eq_false_iff, Bool.and_eq_false_imp, bne_eq_false_iff_eq, List.isEmpty_iff, List.isEmpty_eq_false_iff] at *); omega)
             go_round
             case rel => exact ⟨k + 1, by omega, by go_num, allZ_succ hz hc⟩
             case measure => simp [intOf]; omega)
    · go_wp2
      go_ret
      obtain rfl : k = s.size := by omega
      exact ⟨ret_int (by simp [nameE, firstN_zero hz]; omega), rfl⟩

set_option maxHeartbeats 400000 in
theorem nameFault_any (s : ByteArray) (w : World) (hs : s.size ≤ maxLen) :
    Calls Tryz.prog 106 #[.string s] w fun e w' => e = .returned (.int .i64 (nameE s)) ∧ w' = w := by
  unfold maxLen at hs
  cases hr : inB (s.size : Int) 1 10 with
  | false =>
    go_enter Tryz.func106, Tryz.ntmps106
    go_wp2_with (go_at_call 21; refine (in_any _ _ _ _).mono ?_; rintro e w' ⟨rfl, rfl⟩)
    go_ret
    rw [inB_false] at hr
    exact ⟨ret_int (by simp [nameE]; omega), rfl⟩
  | true =>
    have hr' : Hid (1 ≤ (s.size : Int) ∧ (s.size : Int) ≤ 10) := inB_true.1 hr
    go_enter Tryz.func106, Tryz.ntmps106
    go_wp2_with (go_at_call 21; refine (in_any _ _ _ _).mono ?_; rintro e w' ⟨rfl, rfl⟩)
    go_loop [3] (fun i => ∃ k : Nat, k ≤ s.size ∧ i = .int .i64 k ∧ AllZ (charE s) k) (fun i => s.size - (intOf i).toNat)
    case atStart => exact ⟨0, by omega, rfl, allZ_zero _⟩
    case round =>
      obtain ⟨k, hk, rfl, hz⟩ := hrel
      by_cases hlt : k < s.size
      · have hb : Hid ((s[k].toNat : Int) = byteAt s k) := byteAt_eq s k hlt
        have h256 : (s[k].toNat : Int) < 256 := by have := s[k].toNat_lt; omega
        have key : ∀ (a b c : Bool), inB (s[k].toNat : Int) 97 122 = a → inB (s[k].toNat : Int) 48 57 = b → ((k : Int) == 0) = c → charE s k = if a || (!c && b) then 0 else 4 := by
          intro a b c ha hb' hc
          unfold charE
          rw [← hb.out]
          subst ha hb' hc
          simp only [inB]
          by_cases q : k = 0
          · simp [q]
          · have q' : (k : Int) ≠ 0 := by omega
            simp [q, q']
        have Key : Hid (∀ (a b c : Bool), inB (s[k].toNat : Int) 97 122 = a → inB (s[k].toNat : Int) 48 57 = b → ((k : Int) == 0) = c → charE s k = if a || (!c && b) then 0 else 4) := key
        clear key
        cases ha : inB (s[k].toNat : Int) 97 122 <;> cases hb' : inB (s[k].toNat : Int) 48 57 <;> cases hc : ((k : Int) == 0)
        all_goals
          have hce := Key.out _ _ _ ha hb' hc
          simp only [Bool.or_true, Bool.true_or, Bool.or_false, Bool.false_or, Bool.not_true, Bool.not_false, Bool.and_true, Bool.and_false, Bool.true_and, Bool.false_and, if_true, Bool.false_eq_true, if_false] at hce
          have HC : Hid (charE s k = _) := hce
          clear hce
          go_wp2_with (go_at_call 21; refine (in_any _ _ _ _).mono ?_; rintro e w' ⟨rfl, rfl⟩)
          first
            | (go_ret; exact ⟨ret_int (by have h := hr'.out; simp [nameE, firstN_at hz hlt (by rw [HC.out]; omega), HC.out]; omega), rfl⟩)
            | (go_round
               case rel => exact ⟨k + 1, by omega, by go_num, allZ_succ hz HC.out⟩
               case measure => simp [intOf]; omega)
      · go_wp2
        go_ret
        obtain rfl : k = s.size := by omega
        exact ⟨ret_int (by have h := hr'.out; simp [nameE, firstN_zero hz]; omega), rfl⟩

theorem size_toList (s : ByteArray) : s.toList = [] ↔ s.size = 0 := by
  rw [ByteArray.toList_eq]; cases s with | mk d => simp [ByteArray.size]

set_option maxHeartbeats 400000 in
theorem valCheck_any (k i : Int) (s : ByteArray) (w : World) (hs : s.size ≤ maxLen) :
    Calls Tryz.prog 84 #[.agg #[.int .i64 k, .int .i64 i, .string s]] w fun e w' => e = .returned (.int .i64 (valE ⟨k, i, s⟩)) ∧ Below w.heap.size w w' := by
  unfold maxLen at hs
  go_enter Tryz.func84, Tryz.ntmps84
  go_wp2
  all_goals (go_ret; refine ⟨ret_int ?_, (by repeat (first | exact Below.refl _ _ | (refine Below.alloc ?_ (by omega) _)))⟩; go_light; simp only [valE]; (try simp only [Bool.not_eq_true', Bool.not_eq_false', decide_eq_true_eq, decide_eq_false_iff_not, beq_iff_eq, beq_eq_false_iff_ne, bne_iff_ne, ne_eq, Bool.or_eq_true, Bool.and_eq_true, Bool.or_eq_false_iff, Bool.and_eq_false_imp, bne_eq_false_iff_eq, List.isEmpty_iff, List.isEmpty_eq_false_iff, size_toList] at *); (repeat' split) <;> first | omega | (simp_all; done))
set_option maxHeartbeats 400000 in
theorem valFault_any (k i : Int) (s : ByteArray) (w : World) (hs : s.size ≤ maxLen) :
    Calls Tryz.prog 89 #[.agg #[.int .i64 k, .int .i64 i, .string s]] w fun e w' => e = .returned (.int .i64 (valE ⟨k, i, s⟩)) ∧ Below w.heap.size w w' := by
  unfold maxLen at hs
  go_enter Tryz.func89, Tryz.ntmps89
  go_wp2_with (go_at_call 21; refine (in_any _ _ _ _).mono ?_; rintro e w' ⟨rfl, rfl⟩)
  all_goals (go_ret; refine ⟨ret_int ?_, (by repeat (first | exact Below.refl _ _ | (refine Below.alloc ?_ (by omega) _)))⟩; go_light; simp only [valE]; (try simp only [Bool.not_eq_true', Bool.not_eq_false', decide_eq_true_eq, decide_eq_false_iff_not, beq_iff_eq, beq_eq_false_iff_ne, bne_iff_ne, ne_eq, Bool.or_eq_true, Bool.and_eq_true, Bool.or_eq_false_iff, Bool.and_eq_false_imp, bne_eq_false_iff_eq, List.isEmpty_iff, List.isEmpty_eq_false_iff, size_toList, inB_true, inB_false] at *); (repeat' split) <;> omega)
end Go.Proofs.YtfahleafppfkaaaGreatDoor
/-
  The walks of package value and of its reference, second part: types.
-/
namespace Go.Proofs.YtfahleafppfkaaaGreatDoor
open Go.RowKit
set_option linter.unusedVariables false
set_option linter.unusedSimpArgs false
def fldR:World→List Value→Fld→Prop:=fun _ row f=>row=fldC f∧f.name.size≤maxLen
theorem fldR_stays:Stays fldR:=fun _ _ _ _ _ h=>h
def valR:World→List Value→Val→Prop:=fun _ row v=>row=valC v∧v.text.size≤maxLen
theorem valR_stays:Stays valR:=fun _ _ _ _ _ h=>h
theorem size_field:SizeIs Tryz.prog 100 2:=fun w=>by kernel_rfl
theorem size_value:SizeIs Tryz.prog 72 3:=fun w=>by kernel_rfl
theorem fldE_of(fs:List Fld)(i:Nat)(hi:i<fs.length):fs.getD i default=fs[i]:=by simp[List.getD,List.getElem?_eq_getElem hi]
set_option maxHeartbeats 1000000 in
theorem checkType_any(nm:ByteArray)(ao:Option Addr)(n cap:Nat)(fs:List Fld)(w:World)(hnm:nm.size≤maxLen)(hF:SlR w 2 fldR ao n cap fs):
    Calls Tryz.prog 55 #[.agg #[.string nm,.slice ao n cap]] w fun e w' =>e= .returned (.int .i64 (typE nm fs))∧Below w.heap.size w w' :=by
  by_cases hz:nameE nm=0
  · have hz1:(nameE nm !=0)=false:=by simp[hz]
    have H:Hid (nameE nm=0):=hz;clear hz
    have hnl:=hF.len
    have hle:=hF.le
    by_cases h4:4<n
    · have h4' :(4:Int)<(n:Int):=by omega
      go_enter Tryz.func55,Tryz.ntmps55
      go_wp2_with (go_at_call 91;refine(name_any _ _ hnm).mono ?_;rintro e w' ⟨rfl,rfl⟩)
      go_ret
      exact⟨ret_int (by simp[typE,H.out];omega),(by repeat(first|exact Below.refl _ _|(refine Below.alloc ?_ (by omega) _)))⟩
    · have h4' : ¬ (4:Int)<(n:Int):=by omega
      have NL:Hid (n=fs.length):=hnl
      clear hnl
      go_enter Tryz.func55,Tryz.ntmps55
      go_wp2_with (go_at_call 91;refine(name_any _ _ hnm).mono ?_;rintro e w' ⟨rfl,rfl⟩)
      have hF1:=hF.mono fldR_stays (Joins.below_alloc1 w (.cells #[.string nm,.slice ao n cap] 69))
      go_loopw [22] (fun i wr=> ∃ k:Nat,k≤n∧i= .int .i64 k∧AllZ (fldE fs) k∧Below (w.alloc (.cells #[.string nm,.slice ao n cap] 69)).heap.size (w.alloc (.cells #[.string nm,.slice ao n cap] 69)) wr) (fun i _=>n - (intOf i).toNat)
      case atStart=>exact⟨0,by omega,rfl,allZ_zero _,Below.refl _ _⟩
      case round=>
        obtain⟨k,hk,rfl,haz,hbr⟩:=hrel
        obtain⟨hc_wr,hf_wr⟩:=bcell hbr;have hs_wr:=hbr.size;(try simp only[World.size_alloc,World.size_drew,World.size_setCell]at hs_wr);have z0_wr:w.heap.size<wr.heap.size:=(by omega)
        have hFr:=hF1.mono fldR_stays hbr
        by_cases hlt:k<n
        · obtain⟨b,off,row,hix,hblt,hrow,hrr,hfn⟩:=hFr.index (P:=Tryz.prog) Tryz.underlying67 size_field (i:=k) (by have:=NL.out;omega)
          subst hrr
          obtain⟨c0,c1⟩:=hrow.two
          have hkl:k<fs.length:=by have:=NL.out;omega
          have hgd:Hid (fs.getD k default=fs[k]):=fldE_of fs k hkl
          by_cases hnz:nameE fs[k].name=0
          · have hnz1:(nameE fs[k].name !=0)=false:=by simp[hnz]
            have N:Hid (nameE fs[k].name=0):=hnz;clear hnz
            by_cases hkd:fs[k].kind=1∨fs[k].kind=2
            · have hkd2:Hid (inB fs[k].kind 1 2=true):=by show inB _ _ _=true;rw[inB_true];omega
              have hfk:Hid (fldE fs k=firstN (fldTwice fs k) k):=by show fldE fs k=_;unfold fldE;rw[hgd.out,if_pos N.out,if_pos hkd2.out]
              have hkd1:((fs[k].kind !=1)=true∧(fs[k].kind !=2)=false)∨((fs[k].kind !=1)=false):=by
                rcases hkd with h|h<;>simp[h]
              clear hkd
              obtain⟨wo,rfl⟩: ∃ wo:World,wo=wr:=⟨_,rfl⟩
              rcases hkd1 with⟨hk1,hk2⟩|hk1
              all_goals
                go_wp2_with (go_at_call 91;refine(name_any _ _ hfn).mono ?_;rintro e w' ⟨rfl,rfl⟩)
                have hF2:=hFr.mono fldR_stays (Joins.below_alloc1 wo (.cells #[.string fs[k].name,.int .i64 fs[k].kind] 100))
                go_loopw [46] (fun i wr=> ∃ j:Nat,j≤k∧i= .int .i64 j∧AllZ (fldTwice fs k) j∧Below (wo.alloc (.cells #[.string fs[k].name,.int .i64 fs[k].kind] 100)).heap.size (wo.alloc (.cells #[.string fs[k].name,.int .i64 fs[k].kind] 100)) wr) (fun i _=>k - (intOf i).toNat)
                case atStart=>exact⟨0,by omega,rfl,allZ_zero _,Below.refl _ _⟩
                case round=>
                  obtain⟨j,hj,rfl,haz2,hbr2⟩:=hrel
                  obtain⟨hc_wr,hf_wr⟩:=bcell hbr2;have hs_wr:=hbr2.size;(try simp only[World.size_alloc,World.size_drew,World.size_setCell]at hs_wr)
                  have y0:wo.heap.size<wr.heap.size:=by omega
                  have hFj:=hF2.mono fldR_stays hbr2
                  by_cases hjk:j<k
                  · obtain⟨b2,off2,row2,hix2,hblt2,hrow2,hrr2,hfn2⟩:=hFj.index_cut (P:=Tryz.prog) Tryz.underlying67 size_field (i:=j) (m:=k) hjk (by have:=NL.out;omega)
                    subst hrr2
                    obtain⟨d0,d1⟩:=hrow2.two
                    have hgj:Hid (fs.getD j default=fs[j]):=fldE_of fs j (by omega)
                    cases hsm:(fs[j].name.toList==fs[k].name.toList)with
                    |true=>
                      have hft:Hid (fldTwice fs k j=7):=by show fldTwice fs k j=7;unfold fldTwice sameS;rw[hgj.out,hgd.out,if_pos hsm]
                      go_wp2
                      go_ret
                      have h2:=firstN_at haz2 hjk (by rw[hft.out];omega)
                      rw[hft.out,←hfk.out]at h2
                      have h3:=firstN_at haz hkl (by rw[h2];omega)
                      exact⟨ret_int (by have h1:=NL.out;rw[h2]at h3;simp[typE,H.out,h3];omega),below_step (below_step (Joins.below_alloc1 _ _) hbr) (below_step (below_step (Joins.below_alloc1 _ _) hbr2) (Joins.below_alloc1 _ _))⟩
                    |false=>
                      have hft:Hid (fldTwice fs k j=0):=by show fldTwice fs k j=0;unfold fldTwice sameS;rw[hgj.out,hgd.out,if_neg (by rw[hsm];simp)]
                      go_wp2
                      exact⟨⟨j+1,by omega,by go_num,allZ_succ haz2 hft.out,hbr2.trans ((Joins.below_alloc1 _ _).mono hbr2.size)⟩,by simp[intOf];omega⟩
                  · go_wp2
                    have hjk' :j=k:=by omega
                    subst hjk'
                    exact⟨⟨j+1,by omega,by go_num,allZ_succ haz (by rw[hfk.out];exact firstN_zero haz2),hbr.trans (((Joins.below_alloc1 _ _).trans (hbr2.mono (by simp))).mono (by simp;omega))⟩,by simp[intOf];omega⟩
            · have hk1:(fs[k].kind !=1)=true:=by rw[bne_iff_ne];omega
              have hk2:(fs[k].kind !=2)=true:=by rw[bne_iff_ne];omega
              have hfk:Hid (fldE fs k=3):=by
                                                   show fldE fs k=_;have:inB fs[k].kind 1 2=false:=by(rw[inB_false];omega)
                                                   unfold fldE;rw[hgd.out,if_pos N.out,if_neg (by rw[this];simp)]
              clear hkd
              go_wp2_with (go_at_call 91;refine(name_any _ _ hfn).mono ?_;rintro e w' ⟨rfl,rfl⟩)
              go_ret
              exact⟨ret_int (by have h1:=NL.out;have h2:=firstN_at haz hkl (by rw[hfk.out];omega);rw[hfk.out]at h2;simp[typE,H.out,h2];omega),(by repeat(first|exact Below.refl _ _|refine below_step ?_ (by assumption)|(refine Below.alloc ?_ (by omega) _)))⟩
          · have hnz1:(nameE fs[k].name !=0)=true:=by simp[hnz]
            have hfk:Hid (fldE fs k=nameE fs[k].name):=by show fldE fs k=_;unfold fldE;rw[hgd.out,if_neg hnz]
            have N:Hid (¬ nameE fs[k].name=0):=hnz;clear hnz
            go_wp2_with (go_at_call 91;refine(name_any _ _ hfn).mono ?_;rintro e w' ⟨rfl,rfl⟩)
            go_ret
            exact⟨ret_int (by have h1:=NL.out;have h2:=firstN_at haz hkl (by rw[hfk.out];exact N.out);rw[hfk.out]at h2;simp[typE,H.out,h2];omega),(by repeat(first|exact Below.refl _ _|refine below_step ?_ (by assumption)|(refine Below.alloc ?_ (by omega) _)))⟩
        · go_wp2
          go_ret
          have hkn:k=fs.length:=by have:=NL.out;omega
          subst hkn
          exact⟨ret_int (by have:=NL.out;simp[typE,H.out,firstN_zero haz];try omega),(by repeat(first|exact Below.refl _ _|refine below_step ?_ (by assumption)|(refine Below.alloc ?_ (by omega) _)))⟩
  · have hz1:(nameE nm !=0)=true:=by simp[hz]
    have H:Hid (¬ nameE nm=0):=hz;clear hz
    go_enter Tryz.func55,Tryz.ntmps55
    go_wp2_with (go_at_call 91;refine(name_any _ _ hnm).mono ?_;rintro e w' ⟨rfl,rfl⟩)
    go_ret
    exact⟨ret_int (by simp[typE,H.out]),(by repeat(first|exact Below.refl _ _|(refine Below.alloc ?_ (by omega) _)))⟩
end Go.Proofs.YtfahleafppfkaaaGreatDoor
/-
  The walks of package value and of its reference, third part: types by the reference, fields.
-/
namespace Go.Proofs.YtfahleafppfkaaaGreatDoor
open Go.RowKit
set_option linter.unusedVariables false
set_option linter.unusedSimpArgs false
theorem firstN_succ{f:Nat→Int}{k:Nat}{x:Int}(hz:firstN f k=0)(h:f k=x):firstN f (k+1)=x:=by simp[firstN,hz,h]
theorem firstN_end{f:Nat→Int}{k n:Nat}(hk:k≤n)(h:k=n∨firstN f k≠0):firstN f k=firstN f n:=by
 rcases h with rfl|h
 ·rfl
 ·exact(firstN_stays hk h).symm
set_option maxHeartbeats 2000000 in
theorem typeFault_any(nm:ByteArray)(ao:Option Addr)(n cap:Nat)(fs:List Fld)(w:World)(hnm:nm.size≤maxLen)(hF:SlR w 2 fldR ao n cap fs):
  Calls Tryz.prog 64 #[.agg #[.string nm,.slice ao n cap]] w fun e w' =>e= .returned (.int .i64 (typE nm fs))∧Below w.heap.size w w' :=by
 have hnl:=hF.len
 have hle:=hF.le
 have NL:Hid (n=fs.length):=hnl
 clear hnl
 have hF1:=hF.mono fldR_stays (Joins.below_alloc1 w (.cells #[.string nm,.slice ao n cap] 69))
 by_cases hz:nameE nm=0∧n≤4
 ·obtain⟨hz,h4⟩:=hz
  have hz1:(nameE nm==0)=true:=by simp[hz]
  have H:Hid (nameE nm=0):=hz
  have h4' :decide ((4:Int)<(n:Int))=false:=by simp;omega
  go_enter Tryz.func64,Tryz.ntmps64
  go_wp2_with (go_at_call 106;refine(nameFault_any _ _ hnm).mono ?_;rintro e w' ⟨rfl,rfl⟩)
  go_loopw [3,4] (fun e i wr=> ∃ k:Nat,k≤n∧e= .int .i64 (firstN (fldE fs) k)∧i= .int .i64 k∧Below (w.alloc (.cells #[.string nm,.slice ao n cap] 69)).heap.size (w.alloc (.cells #[.string nm,.slice ao n cap] 69)) wr) (fun _ i _=>n - (intOf i).toNat)
  case atStart=>exact⟨0,by omega,rfl,rfl,Below.refl _ _⟩
  case round=>
   obtain⟨k,hk,rfl,rfl,hbr⟩:=hrel
   obtain⟨hc_wr,hf_wr⟩:=bcell hbr;have hs_wr:=hbr.size;(try simp only[World.size_alloc,World.size_drew,World.size_setCell]at hs_wr);have z0_wr:w.heap.size<wr.heap.size:=(by omega)
   have hFr:=hF1.mono fldR_stays hbr
   by_cases hgo:k<n∧firstN (fldE fs) k=0
   ·obtain⟨hlt,hfz⟩:=hgo
    have hfz1:(firstN (fldE fs) k==0)=true:=by simp[hfz]
    have FZ:Hid (firstN (fldE fs) k=0):=hfz
    obtain⟨b,off,row,hix,hblt,hrow,hrr,hfn⟩:=hFr.index (P:=Tryz.prog) Tryz.underlying67 size_field (i:=k) (by have:=NL.out;omega)
    subst hrr
    obtain⟨c0,c1⟩:=hrow.two
    have hkl:k<fs.length:=by have:=NL.out;omega
    have hgd:Hid (fs.getD k default=fs[k]):=fldE_of fs k hkl
    clear hz hfz
    obtain⟨wo,rfl⟩: ∃ wo:World,wo=wr:=⟨_,rfl⟩
    by_cases hnz:nameE fs[k].name=0
    ·have hnz1:(nameE fs[k].name==0)=true:=by simp[hnz]
     have N:Hid (nameE fs[k].name=0):=hnz;clear hnz
     cases hkd:inB fs[k].kind 1 2 with
     |true=>
      have hkd2:Hid (inB fs[k].kind 1 2=true):=hkd
      have hfk:Hid (fldE fs k=firstN (fldTwice fs k) k):=by show fldE fs k=_;unfold fldE;rw[hgd.out,if_pos N.out,if_pos hkd2.out]
      go_wp2_with (first|(go_at_call 106;refine(nameFault_any _ _ hfn).mono ?_;rintro e w' ⟨rfl,rfl⟩)|(go_at_call 21;refine(in_any _ _ _ _).mono ?_;rintro e w' ⟨rfl,rfl⟩))
      have hF2:=hFr.mono fldR_stays (Joins.below_alloc1 wo (.cells #[.string fs[k].name,.int .i64 fs[k].kind] 100))
      go_loopw [3,6] (fun e i wr=> ∃ j:Nat,j≤k∧e= .int .i64 (firstN (fldTwice fs k) j)∧i= .int .i64 j∧Below (wo.alloc (.cells #[.string fs[k].name,.int .i64 fs[k].kind] 100)).heap.size (wo.alloc (.cells #[.string fs[k].name,.int .i64 fs[k].kind] 100)) wr) (fun _ i _=>k - (intOf i).toNat)
      case atStart=>exact⟨0,by omega,by rw[N.out];rfl,rfl,Below.refl _ _⟩
      case round=>
       obtain⟨j,hj,rfl,rfl,hbr2⟩:=hrel
       obtain⟨hc_wr,hf_wr⟩:=bcell hbr2;have hs_wr:=hbr2.size;(try simp only[World.size_alloc,World.size_drew,World.size_setCell]at hs_wr);have z0_wr:w.heap.size<wr.heap.size:=(by omega)
       have y0:wo.heap.size<wr.heap.size:=by omega
       have hFj:=hF2.mono fldR_stays hbr2
       by_cases hgo2:j<k∧firstN (fldTwice fs k) j=0
       ·obtain⟨hjk,hfz2⟩:=hgo2
        have hfz3:(firstN (fldTwice fs k) j==0)=true:=by simp[hfz2]
        have FZ2:Hid (firstN (fldTwice fs k) j=0):=hfz2;clear hfz2
        obtain⟨b2,off2,row2,hix2,hblt2,hrow2,hrr2,hfn2⟩:=hFj.index (P:=Tryz.prog) Tryz.underlying67 size_field (i:=j) (by have:=NL.out;omega)
        subst hrr2
        obtain⟨d0,d1⟩:=hrow2.two
        have hgj:Hid (fs.getD j default=fs[j]):=fldE_of fs j (by omega)
        cases hsm:(fs[j].name.toList==fs[k].name.toList)with
        |true=>
         have hft:Hid (fldTwice fs k j=7):=by show fldTwice fs k j=7;unfold fldTwice sameS;rw[hgj.out,hgd.out,if_pos hsm]
         go_wp2_with fail
         go_quiet (fail)
         go_wp2
         exact⟨⟨j+1,by omega,by rw[firstN_succ FZ2.out hft.out],by go_num,hbr2.trans (Joins.below_draws _ _ _)⟩,by simp[intOf];omega⟩
        |false=>
         have hft:Hid (fldTwice fs k j=0):=by show fldTwice fs k j=0;unfold fldTwice sameS;rw[hgj.out,hgd.out,if_neg (by rw[hsm];simp)]
         go_wp2_with fail
         go_quiet (fail)
         go_wp2
         exact⟨⟨j+1,by omega,by rw[firstN_succ FZ2.out hft.out,FZ2.out],by go_num,hbr2.trans (Joins.below_draws _ _ _)⟩,by simp[intOf];omega⟩
       ·have hend:j=k∨firstN (fldTwice fs k) j≠0:=by omega
        have EN:Hid (firstN (fldTwice fs k) j=firstN (fldTwice fs k) k):=firstN_end hj hend
        by_cases hjk:j<k
        ·have hne1:(firstN (fldTwice fs k) j==0)=false:=by simp;omega
         clear hend
         go_wp2
         exact⟨⟨k+1,by omega,by rw[firstN_succ FZ.out hfk.out,EN.out],by go_num,hbr.trans (((Joins.below_alloc1 _ _).trans (hbr2.mono (by simp))).mono (by simp;omega))⟩,by simp[intOf];omega⟩
        ·clear hend
         go_wp2
         exact⟨⟨k+1,by omega,by rw[firstN_succ FZ.out hfk.out,EN.out],by go_num,hbr.trans (((Joins.below_alloc1 _ _).trans (hbr2.mono (by simp))).mono (by simp;omega))⟩,by simp[intOf];omega⟩
     |false=>
      have hfk:Hid (fldE fs k=3):=by show fldE fs k=_;unfold fldE;rw[hgd.out,if_pos N.out,if_neg (by rw[hkd];simp)]
      go_wp2_with (first|(go_at_call 106;refine(nameFault_any _ _ hfn).mono ?_;rintro e w' ⟨rfl,rfl⟩)|(go_at_call 21;refine(in_any _ _ _ _).mono ?_;rintro e w' ⟨rfl,rfl⟩))
      go_loopw [3,6] (fun e i wr=>e= .int .i64 3∧i= .int .i64 0∧Below (wo.alloc (.cells #[.string fs[k].name,.int .i64 fs[k].kind] 100)).heap.size (wo.alloc (.cells #[.string fs[k].name,.int .i64 fs[k].kind] 100)) wr) (fun _ _ _=>0)
      case atStart=>exact⟨rfl,rfl,Below.refl _ _⟩
      case round=>
       obtain⟨rfl,rfl,hbr2⟩:=hrel
       by_cases hk0:0<k
       ·go_wp2
        exact⟨⟨k+1,by omega,by rw[firstN_succ FZ.out hfk.out],by go_num,hbr.trans (((Joins.below_alloc1 _ _).trans (hbr2.mono (by simp))).mono (by simp;omega))⟩,by simp[intOf];omega⟩
       ·go_wp2
        exact⟨⟨k+1,by omega,by rw[firstN_succ FZ.out hfk.out],by go_num,hbr.trans (((Joins.below_alloc1 _ _).trans (hbr2.mono (by simp))).mono (by simp;omega))⟩,by simp[intOf];omega⟩
    ·have hnz1:(nameE fs[k].name==0)=false:=by simp[hnz]
     have hfk:Hid (fldE fs k=nameE fs[k].name):=by show fldE fs k=_;unfold fldE;rw[hgd.out,if_neg hnz]
     clear hnz
     go_wp2_with (go_at_call 106;refine(nameFault_any _ _ hfn).mono ?_;rintro e w' ⟨rfl,rfl⟩)
     go_loopw [3,6] (fun e i wr=>e= .int .i64 (nameE fs[k].name)∧i= .int .i64 0∧Below (wo.alloc (.cells #[.string fs[k].name,.int .i64 fs[k].kind] 100)).heap.size (wo.alloc (.cells #[.string fs[k].name,.int .i64 fs[k].kind] 100)) wr) (fun _ _ _=>0)
     case atStart=>exact⟨rfl,rfl,Below.refl _ _⟩
     case round=>
      obtain⟨rfl,rfl,hbr2⟩:=hrel
      by_cases hk0:0<k
      ·go_wp2
       exact⟨⟨k+1,by omega,by rw[firstN_succ FZ.out hfk.out],by go_num,hbr.trans (((Joins.below_alloc1 _ _).trans (hbr2.mono (by simp))).mono (by simp;omega))⟩,by simp[intOf];omega⟩
      ·go_wp2
       exact⟨⟨k+1,by omega,by rw[firstN_succ FZ.out hfk.out],by go_num,hbr.trans (((Joins.below_alloc1 _ _).trans (hbr2.mono (by simp))).mono (by simp;omega))⟩,by simp[intOf];omega⟩
   ·have hend:k=n∨firstN (fldE fs) k≠0:=by omega
    have EN:Hid (firstN (fldE fs) k=typE nm fs):=by
     have h1:=NL.out
     show firstN (fldE fs) k=_
     rw[firstN_end hk hend,typE,if_pos H.out,if_pos (by omega),h1]
    clear hz hgo
    by_cases hlt:k<n
    ·have hne1:(firstN (fldE fs) k==0)=false:=by simp;omega
     clear hend
     go_wp2
     go_ret
     exact⟨ret_int EN.out,(by repeat(first|exact Below.refl _ _|refine below_step ?_ (by assumption)|(refine Below.alloc ?_ (by omega) _)))⟩
    ·clear hend
     go_wp2
     go_ret
     exact⟨ret_int EN.out,(by repeat(first|exact Below.refl _ _|refine below_step ?_ (by assumption)|(refine Below.alloc ?_ (by omega) _)))⟩
 ·have EN:Hid (typE nm fs=if nameE nm=0 then 1 else nameE nm):=by
   have h1:=NL.out
   show typE nm fs=_
   unfold typE
   split
   ·rw[if_neg (by omega)]
   ·rfl
  by_cases hn0:nameE nm=0
  ·have h4:decide ((4:Int)<(n:Int))=true:=by simp;omega
   have hz1:(nameE nm==0)=true:=by simp[hn0]
   have E2:Hid (typE nm fs=1):=by show _=_;rw[EN.out,if_pos hn0]
   clear hz hn0
   go_enter Tryz.func64,Tryz.ntmps64
   go_wp2_with (go_at_call 106;refine(nameFault_any _ _ hnm).mono ?_;rintro e w' ⟨rfl,rfl⟩)
   go_loopw [3,4] (fun e i wr=>e= .int .i64 1∧i= .int .i64 0∧wr=w.alloc (.cells #[.string nm,.slice ao n cap] 69)) (fun _ _ _=>0)
   case atStart=>exact⟨rfl,rfl,rfl⟩
   case round=>
    obtain⟨rfl,rfl,rfl⟩:=hrel
    have hn1:(0:Int)<(n:Int):=by simp at h4;omega
    go_wp2
    go_ret
    exact⟨ret_int E2.out.symm,(by repeat(first|exact Below.refl _ _|(refine Below.alloc ?_ (by omega) _)))⟩
  ·have hz1:(nameE nm==0)=false:=by simp[hn0]
   have E2:Hid (typE nm fs=nameE nm):=by show _=_;rw[EN.out,if_neg hn0]
   clear hz hn0
   go_enter Tryz.func64,Tryz.ntmps64
   go_wp2_with (go_at_call 106;refine(nameFault_any _ _ hnm).mono ?_;rintro e w' ⟨rfl,rfl⟩)
   go_loopw [3,4] (fun e i wr=>e= .int .i64 (nameE nm)∧i= .int .i64 0∧wr=w.alloc (.cells #[.string nm,.slice ao n cap] 69)) (fun _ _ _=>0)
   case atStart=>exact⟨rfl,rfl,rfl⟩
   case round=>
    obtain⟨rfl,rfl,rfl⟩:=hrel
    by_cases hn1:0<n
    ·go_wp2
     go_ret
     exact⟨ret_int E2.out.symm,(by repeat(first|exact Below.refl _ _|(refine Below.alloc ?_ (by omega) _)))⟩
    ·go_wp2
     go_ret
     exact⟨ret_int E2.out.symm,(by repeat(first|exact Below.refl _ _|(refine Below.alloc ?_ (by omega) _)))⟩
end Go.Proofs.YtfahleafppfkaaaGreatDoor
