/-
  The walks of the reference's BookFault, eleventh part: links. Printed by chkk.py.
-/
import Derived.Test.YtncmghnhfipklaaGreatDoorPw22
namespace Go.Proofs.YtncmghnhfipklaaGreatDoor
open Go.RowKit
set_option linter.unusedVariables false
set_option linter.unusedSimpArgs false

theorem place_neg (l : List Pat) (nm : ByteArray) : decide (placeV (patI l nm) l.length < 0) = !hasP l nm := by
  unfold placeV hasP
  by_cases h : patI l nm < l.length
  · rw [if_pos h]; simp [h]
  · rw [if_neg h]; simp [h]
section
variable {g : Nat} {F G : Nat → Prop} {w0 : World}
def linkC1 (A1 B C D : Bool) : Bool := (!A1 && !B) || (!C && !D)
def linkC2 (S A1 C : Bool) : Bool := S || (!A1 && !C)
theorem linkE_eq (x : Rul) (k : Lnk) : linkE x k = if linkC1 (hasP x.whens k.left) (hasP x.nots k.left) (hasP x.whens k.right) (hasP x.nots k.right) = true then 6
  else if linkC2 (sameS k.left k.right) (hasP x.whens k.left) (hasP x.whens k.right) = true then 4
  else if k.opts.length < 1 ∨ 6 < k.opts.length then 1
  else firstN (fun i => optE (k.opts.getD i ⟨0, 0, 0⟩).rel (k.opts.getD i ⟨0, 0, 0⟩).lo (k.opts.getD i ⟨0, 0, 0⟩).hi) k.opts.length := rfl
set_option maxRecDepth 8000 in
set_option maxHeartbeats 8000000 in
theorem linkFault_none (hg : g < w0.heap.size) (x : Rul) (row : List Value) (h : rulF F w0 row x) (k : Lnk) (oo : Option Addr) (on ocap : Nat) (hO : SlF G w0 3 (plainF optC) oo on ocap k.opts) (h1 : linkC1 (hasP x.whens k.left) (hasP x.nots k.left) (hasP x.whens k.right) (hasP x.nots k.right) = true) :
    Calls Tryz.prog 55 #[.agg row.toArray, .agg (lnkC k oo on ocap).toArray] w0 fun e w' => e = .returned (.int .i64 (linkE x k)) ∧ Below w0.heap.size w0 w' := by
  rw [linkE_eq, if_pos h1]
  have HL := h1
  clear h1
  obtain ⟨a1, n1, c1, a2, n2, c2, a3, n3, c3, a4, n4, c4, a6, n6, c6, rfl, X1, X2, X3, X4, X6⟩ := h
  have M := Mem.begin hg ⟨0, 0⟩
  have HA := Lib.hid (fun wx (hb : Below w0.heap.size w0 wx) => patternNamed_any (Nat.lt_of_lt_of_le hg hb.size) (X1.below patF_firm hb) k.left)
  have HB := Lib.hid (fun wx (hb : Below w0.heap.size w0 wx) => patternNamed_any (Nat.lt_of_lt_of_le hg hb.size) (X2.below patF_firm hb) k.left)
  have HC := Lib.hid (fun wx (hb : Below w0.heap.size w0 wx) => patternNamed_any (Nat.lt_of_lt_of_le hg hb.size) (X1.below patF_firm hb) k.right)
  have HD := Lib.hid (fun wx (hb : Below w0.heap.size w0 wx) => patternNamed_any (Nat.lt_of_lt_of_le hg hb.size) (X2.below patF_firm hb) k.right)
  have hA := place_neg x.whens k.left
  have hB := place_neg x.nots k.left
  have hC := place_neg x.whens k.right
  have hD := place_neg x.nots k.right
  have hST : ∀ b, sameS k.left k.right = b → (k.left.toList == k.right.toList) = b := fun b h => h
  generalize placeV (patI x.whens k.left) x.whens.length = vA at HA hA
  generalize placeV (patI x.nots k.left) x.nots.length = vB at HB hB
  generalize placeV (patI x.whens k.right) x.whens.length = vC at HC hC
  generalize placeV (patI x.nots k.right) x.nots.length = vD at HD hD
  generalize hasP x.whens k.left = A1 at hA HL
  generalize hasP x.nots k.left = B at hB HL
  generalize hasP x.whens k.right = C at hC HL
  generalize hasP x.nots k.right = D at hD HL
  unfold rulC lnkC
  clear hg hO X1 X2 X3 X4 X6 hST
  cases A1 <;> cases B <;> cases C <;> cases D
  all_goals first
    | (exfalso; revert HL; decide)
    | (clear HL
       simp only [Bool.not_true, Bool.not_false] at hA hB hC hD
       go_enter Tryz.func55, Tryz.ntmps55
       go_wp2_with (first | (with_reducible (first | (refine wB (L := []) M ?_; clear M; intro za w1 M) | (refine wB M ?_; clear M; intro zb w2 M) | refine wq M ?_)) | (go_at_call 59; with_reducible refine (HA.out _ M.new).mono ?_; rintro e w5 ⟨rfl, hb5⟩; replace M := M.below hb5; clear hb5) | (go_at_call 59; with_reducible refine (HB.out _ M.new).mono ?_; rintro e w5 ⟨rfl, hb5⟩; replace M := M.below hb5; clear hb5) | (go_at_call 59; with_reducible refine (HC.out _ M.new).mono ?_; rintro e w5 ⟨rfl, hb5⟩; replace M := M.below hb5; clear hb5) | (go_at_call 59; with_reducible refine (HD.out _ M.new).mono ?_; rintro e w5 ⟨rfl, hb5⟩; replace M := M.below hb5; clear hb5))
       go_ret
       exact ⟨rfl, M.new⟩)
set_option maxRecDepth 8000 in
set_option maxHeartbeats 8000000 in
theorem linkFault_form (hg : g < w0.heap.size) (x : Rul) (row : List Value) (h : rulF F w0 row x) (k : Lnk) (oo : Option Addr) (on ocap : Nat) (hO : SlF G w0 3 (plainF optC) oo on ocap k.opts) (h1 : linkC1 (hasP x.whens k.left) (hasP x.nots k.left) (hasP x.whens k.right) (hasP x.nots k.right) = false) (h2 : linkC2 (sameS k.left k.right) (hasP x.whens k.left) (hasP x.whens k.right) = true) :
    Calls Tryz.prog 55 #[.agg row.toArray, .agg (lnkC k oo on ocap).toArray] w0 fun e w' => e = .returned (.int .i64 (linkE x k)) ∧ Below w0.heap.size w0 w' := by
  rw [linkE_eq, h1, if_neg (by simp), if_pos h2]
  have HL := And.intro h1 h2
  clear h1 h2
  obtain ⟨a1, n1, c1, a2, n2, c2, a3, n3, c3, a4, n4, c4, a6, n6, c6, rfl, X1, X2, X3, X4, X6⟩ := h
  have M := Mem.begin hg ⟨0, 0⟩
  have HA := Lib.hid (fun wx (hb : Below w0.heap.size w0 wx) => patternNamed_any (Nat.lt_of_lt_of_le hg hb.size) (X1.below patF_firm hb) k.left)
  have HB := Lib.hid (fun wx (hb : Below w0.heap.size w0 wx) => patternNamed_any (Nat.lt_of_lt_of_le hg hb.size) (X2.below patF_firm hb) k.left)
  have HC := Lib.hid (fun wx (hb : Below w0.heap.size w0 wx) => patternNamed_any (Nat.lt_of_lt_of_le hg hb.size) (X1.below patF_firm hb) k.right)
  have HD := Lib.hid (fun wx (hb : Below w0.heap.size w0 wx) => patternNamed_any (Nat.lt_of_lt_of_le hg hb.size) (X2.below patF_firm hb) k.right)
  have hA := place_neg x.whens k.left
  have hB := place_neg x.nots k.left
  have hC := place_neg x.whens k.right
  have hD := place_neg x.nots k.right
  have hST : ∀ b, sameS k.left k.right = b → (k.left.toList == k.right.toList) = b := fun b h => h
  generalize placeV (patI x.whens k.left) x.whens.length = vA at HA hA
  generalize placeV (patI x.nots k.left) x.nots.length = vB at HB hB
  generalize placeV (patI x.whens k.right) x.whens.length = vC at HC hC
  generalize placeV (patI x.nots k.right) x.nots.length = vD at HD hD
  generalize hasP x.whens k.left = A1 at hA HL
  generalize hasP x.nots k.left = B at hB HL
  generalize hasP x.whens k.right = C at hC HL
  generalize hasP x.nots k.right = D at hD HL
  unfold rulC lnkC
  generalize hS : sameS k.left k.right = S at HL
  have hs0 := hST _ hS
  clear hg hO X1 X2 X3 X4 X6 hST hS
  cases A1 <;> cases B <;> cases C <;> cases D <;> cases S
  all_goals first
    | (exfalso; revert HL; decide)
    | (clear HL
       simp only [Bool.not_true, Bool.not_false] at hA hB hC hD
       go_enter Tryz.func55, Tryz.ntmps55
       go_wp2_with (first | (with_reducible (first | (refine wB (L := []) M ?_; clear M; intro za w1 M) | (refine wB M ?_; clear M; intro zb w2 M) | refine wq M ?_)) | (go_at_call 59; with_reducible refine (HA.out _ M.new).mono ?_; rintro e w5 ⟨rfl, hb5⟩; replace M := M.below hb5; clear hb5) | (go_at_call 59; with_reducible refine (HB.out _ M.new).mono ?_; rintro e w5 ⟨rfl, hb5⟩; replace M := M.below hb5; clear hb5) | (go_at_call 59; with_reducible refine (HC.out _ M.new).mono ?_; rintro e w5 ⟨rfl, hb5⟩; replace M := M.below hb5; clear hb5) | (go_at_call 59; with_reducible refine (HD.out _ M.new).mono ?_; rintro e w5 ⟨rfl, hb5⟩; replace M := M.below hb5; clear hb5))
       go_ret
       exact ⟨rfl, M.new⟩)
set_option maxRecDepth 8000 in
set_option maxHeartbeats 8000000 in
theorem linkFault_size (hg : g < w0.heap.size) (x : Rul) (row : List Value) (h : rulF F w0 row x) (k : Lnk) (oo : Option Addr) (on ocap : Nat) (hO : SlF G w0 3 (plainF optC) oo on ocap k.opts) (h1 : linkC1 (hasP x.whens k.left) (hasP x.nots k.left) (hasP x.whens k.right) (hasP x.nots k.right) = false) (h2 : linkC2 (sameS k.left k.right) (hasP x.whens k.left) (hasP x.whens k.right) = false) (h3 : k.opts.length < 1 ∨ 6 < k.opts.length) :
    Calls Tryz.prog 55 #[.agg row.toArray, .agg (lnkC k oo on ocap).toArray] w0 fun e w' => e = .returned (.int .i64 (linkE x k)) ∧ Below w0.heap.size w0 w' := by
  rw [linkE_eq, h1, if_neg (by simp), h2, if_neg (by simp), if_pos h3]
  have HL := And.intro h1 h2
  have hsz : inB (on : Int) 1 6 = false := by rw [inB_false]; have := hO.len; omega
  clear h1 h2 h3
  obtain ⟨a1, n1, c1, a2, n2, c2, a3, n3, c3, a4, n4, c4, a6, n6, c6, rfl, X1, X2, X3, X4, X6⟩ := h
  have M := Mem.begin hg ⟨0, 0⟩
  have HA := Lib.hid (fun wx (hb : Below w0.heap.size w0 wx) => patternNamed_any (Nat.lt_of_lt_of_le hg hb.size) (X1.below patF_firm hb) k.left)
  have HB := Lib.hid (fun wx (hb : Below w0.heap.size w0 wx) => patternNamed_any (Nat.lt_of_lt_of_le hg hb.size) (X2.below patF_firm hb) k.left)
  have HC := Lib.hid (fun wx (hb : Below w0.heap.size w0 wx) => patternNamed_any (Nat.lt_of_lt_of_le hg hb.size) (X1.below patF_firm hb) k.right)
  have HD := Lib.hid (fun wx (hb : Below w0.heap.size w0 wx) => patternNamed_any (Nat.lt_of_lt_of_le hg hb.size) (X2.below patF_firm hb) k.right)
  have hA := place_neg x.whens k.left
  have hB := place_neg x.nots k.left
  have hC := place_neg x.whens k.right
  have hD := place_neg x.nots k.right
  have hST : ∀ b, sameS k.left k.right = b → (k.left.toList == k.right.toList) = b := fun b h => h
  generalize placeV (patI x.whens k.left) x.whens.length = vA at HA hA
  generalize placeV (patI x.nots k.left) x.nots.length = vB at HB hB
  generalize placeV (patI x.whens k.right) x.whens.length = vC at HC hC
  generalize placeV (patI x.nots k.right) x.nots.length = vD at HD hD
  generalize hasP x.whens k.left = A1 at hA HL
  generalize hasP x.nots k.left = B at hB HL
  generalize hasP x.whens k.right = C at hC HL
  generalize hasP x.nots k.right = D at hD HL
  unfold rulC lnkC
  generalize hS : sameS k.left k.right = S at HL
  have hs0 := hST _ hS
  clear hg hO X1 X2 X3 X4 X6 hST hS
  cases A1 <;> cases B <;> cases C <;> cases D <;> cases S
  all_goals first
    | (exfalso; revert HL; decide)
    | (clear HL
       simp only [Bool.not_true, Bool.not_false] at hA hB hC hD
       go_enter Tryz.func55, Tryz.ntmps55
       go_wp2_with (first | (with_reducible (first | (refine wB (L := []) M ?_; clear M; intro za w1 M) | (refine wB M ?_; clear M; intro zb w2 M) | refine wq M ?_)) | (go_at_call 59; with_reducible refine (HA.out _ M.new).mono ?_; rintro e w5 ⟨rfl, hb5⟩; replace M := M.below hb5; clear hb5) | (go_at_call 59; with_reducible refine (HB.out _ M.new).mono ?_; rintro e w5 ⟨rfl, hb5⟩; replace M := M.below hb5; clear hb5) | (go_at_call 59; with_reducible refine (HC.out _ M.new).mono ?_; rintro e w5 ⟨rfl, hb5⟩; replace M := M.below hb5; clear hb5) | (go_at_call 59; with_reducible refine (HD.out _ M.new).mono ?_; rintro e w5 ⟨rfl, hb5⟩; replace M := M.below hb5; clear hb5) | (go_at_call 14; refine (in_any _ _ _ _).mono ?_; rintro e w4 ⟨rfl, rfl⟩; (try rw [hsz])))
       go_ret
       exact ⟨rfl, M.new⟩)
set_option maxRecDepth 8000 in
set_option maxHeartbeats 16000000 in
theorem linkFault_opts (hg : g < w0.heap.size) (x : Rul) (row : List Value) (h : rulF F w0 row x) (k : Lnk) (oo : Option Addr) (on ocap : Nat) (hO : SlF G w0 3 (plainF optC) oo on ocap k.opts) (h1 : linkC1 (hasP x.whens k.left) (hasP x.nots k.left) (hasP x.whens k.right) (hasP x.nots k.right) = false) (h2 : linkC2 (sameS k.left k.right) (hasP x.whens k.left) (hasP x.whens k.right) = false) (h3 : ¬ (k.opts.length < 1 ∨ 6 < k.opts.length)) :
    Calls Tryz.prog 55 #[.agg row.toArray, .agg (lnkC k oo on ocap).toArray] w0 fun e w' => e = .returned (.int .i64 (linkE x k)) ∧ Below w0.heap.size w0 w' := by
  rw [linkE_eq, h1, if_neg (by simp), h2, if_neg (by simp), if_neg h3]
  have HL := And.intro h1 h2
  have hsz : inB (on : Int) 1 6 = true := by rw [inB_true]; have := hO.len; omega
  have hleO := hO.le
  have NO := Lib.hid hO.len
  have HOO := Lib.hid hO
  clear h1 h2 h3
  obtain ⟨a1, n1, c1, a2, n2, c2, a3, n3, c3, a4, n4, c4, a6, n6, c6, rfl, X1, X2, X3, X4, X6⟩ := h
  have M := Mem.begin hg ⟨0, 0⟩
  have HA := Lib.hid (fun wx (hb : Below w0.heap.size w0 wx) => patternNamed_any (Nat.lt_of_lt_of_le hg hb.size) (X1.below patF_firm hb) k.left)
  have HB := Lib.hid (fun wx (hb : Below w0.heap.size w0 wx) => patternNamed_any (Nat.lt_of_lt_of_le hg hb.size) (X2.below patF_firm hb) k.left)
  have HC := Lib.hid (fun wx (hb : Below w0.heap.size w0 wx) => patternNamed_any (Nat.lt_of_lt_of_le hg hb.size) (X1.below patF_firm hb) k.right)
  have HD := Lib.hid (fun wx (hb : Below w0.heap.size w0 wx) => patternNamed_any (Nat.lt_of_lt_of_le hg hb.size) (X2.below patF_firm hb) k.right)
  have hA := place_neg x.whens k.left
  have hB := place_neg x.nots k.left
  have hC := place_neg x.whens k.right
  have hD := place_neg x.nots k.right
  have hST : ∀ b, sameS k.left k.right = b → (k.left.toList == k.right.toList) = b := fun b h => h
  generalize placeV (patI x.whens k.left) x.whens.length = vA at HA hA
  generalize placeV (patI x.nots k.left) x.nots.length = vB at HB hB
  generalize placeV (patI x.whens k.right) x.whens.length = vC at HC hC
  generalize placeV (patI x.nots k.right) x.nots.length = vD at HD hD
  generalize hasP x.whens k.left = A1 at hA HL
  generalize hasP x.nots k.left = B at hB HL
  generalize hasP x.whens k.right = C at hC HL
  generalize hasP x.nots k.right = D at hD HL
  unfold rulC lnkC
  generalize hS : sameS k.left k.right = S at HL
  have hs0 := hST _ hS
  have HF : Hid (∀ i, i < k.opts.length → (fun i => optE (k.opts.getD i ⟨0, 0, 0⟩).rel (k.opts.getD i ⟨0, 0, 0⟩).lo (k.opts.getD i ⟨0, 0, 0⟩).hi) i = optE (k.opts.getD i ⟨0, 0, 0⟩).rel (k.opts.getD i ⟨0, 0, 0⟩).lo (k.opts.getD i ⟨0, 0, 0⟩).hi) := fun i _ => rfl
  generalize (fun i => optE (k.opts.getD i ⟨0, 0, 0⟩).rel (k.opts.getD i ⟨0, 0, 0⟩).lo (k.opts.getD i ⟨0, 0, 0⟩).hi) = f at HF ⊢
  clear hg hO X1 X2 X3 X4 X6 hST hS
  cases A1 <;> cases B <;> cases C <;> cases D <;> cases S
  all_goals first
    | (exfalso; revert HL; decide)
    | (clear HL
       simp only [Bool.not_true, Bool.not_false] at hA hB hC hD
       go_enter Tryz.func55, Tryz.ntmps55
       go_wp2_with (first | (with_reducible (first | (refine wB (L := []) M ?_; clear M; intro za w1 M) | (refine wB M ?_; clear M; intro zb w2 M) | refine wq M ?_)) | (go_at_call 59; with_reducible refine (HA.out _ M.new).mono ?_; rintro e w5 ⟨rfl, hb5⟩; replace M := M.below hb5; clear hb5) | (go_at_call 59; with_reducible refine (HB.out _ M.new).mono ?_; rintro e w5 ⟨rfl, hb5⟩; replace M := M.below hb5; clear hb5) | (go_at_call 59; with_reducible refine (HC.out _ M.new).mono ?_; rintro e w5 ⟨rfl, hb5⟩; replace M := M.below hb5; clear hb5) | (go_at_call 59; with_reducible refine (HD.out _ M.new).mono ?_; rintro e w5 ⟨rfl, hb5⟩; replace M := M.below hb5; clear hb5) | (go_at_call 14; refine (in_any _ _ _ _).mono ?_; rintro e w4 ⟨rfl, rfl⟩; (try rw [hsz])))
       go_loopw [7] (fun i wr => ∃ j : Nat, j ≤ on ∧ i = .int .i64 j ∧ Mem (StaysB g w0) g w0 wr ⟨0, 0⟩ (own zb [.string k.left, .slice oo on ocap, .string k.right] 97 :: own za [.string x.name, .slice a1 n1 c1, .slice a2 n2 c2, .slice a3 n3 c3, .slice a4 n4 c4, .string x.etype, .slice a6 n6 c6] 47 :: []) ∧ Hid (AllZ f j)) (fun i _ => on - (intOf i).toNat)
       case atStart => exact ⟨0, by omega, rfl, M, allZ_zero _⟩
       case round =>
         clear M
         obtain ⟨j, hj, rfl, M, HZ⟩ := hrel
         by_cases hlt : j < on
         · have hkl : j < k.opts.length := by have := NO.out; omega
           obtain ⟨ca, oa, rowa, hixa, -, hrra, hwa⟩ := SlF.rowAt (P := Tryz.prog) HOO.out (plainF_firm _) Tryz.underlying95 size_opt (i := j) hkl
           have e1 : rowa = optC k.opts[j] := hrra
           subst e1
           have HR := Lib.hid (fun wx hb => (hwa wx hb).1)
           have hfj : f j = optE k.opts[j].rel k.opts[j].lo k.opts[j].hi := by rw [HF.out j hkl, List.getD_eq_getElem?_getD, List.getElem?_eq_getElem hkl]; rfl
           have HO : Hid (∀ wx, Below w0.heap.size w0 wx → Calls Tryz.prog 86 #[.agg #[.int .i64 k.opts[j].rel, .int .i64 k.opts[j].lo, .int .i64 k.opts[j].hi]] wx fun e w' => e = .returned (.int .i64 (f j)) ∧ Below wx.heap.size wx w') := fun wx hb => by rw [hfj]; exact optFault_any _ _ _ wx
           have HV : Hid (f j ≠ 0 → firstN f k.opts.length = f j) := fun h => firstN_at HZ.out hkl h
           have HW : Hid (f j = 0 → AllZ f (j + 1)) := fun h => allZ_succ HZ.out h
           clear hwa hrra hfj HZ
           generalize k.opts[j] = o at HR HO
           unfold optC at HR
           generalize f j = q at HO HV HW
           by_cases hq : q = 0
           · subst hq
             have HZ2 := Lib.hid (HW.out rfl)
             clear HV HW
             go_wp2_with (first | (with_reducible (first | refine wq M ?_ | refine wA (HR.out _ M.new) ?_)) | (go_at_call 86; with_reducible refine (HO.out _ M.new).mono ?_; rintro e w5 ⟨rfl, hb5⟩; replace M := M.below hb5; clear hb5))
             go_roundw
             case rel => exact ⟨j + 1, by omega, by go_num, M, HZ2⟩
             case measure => simp [intOf]; omega
           · have hqb : (q != 0) = true := by simpa using hq
             have HE := Lib.hid (HV.out hq)
             clear HV HW hq
             go_wp2_with (first | (with_reducible (first | refine wq M ?_ | refine wA (HR.out _ M.new) ?_)) | (go_at_call 86; with_reducible refine (HO.out _ M.new).mono ?_; rintro e w5 ⟨rfl, hb5⟩; replace M := M.below hb5; clear hb5))
             go_ret
             rw [HE.out]
             exact ⟨rfl, M.new⟩
         · have HE : Hid (firstN f k.opts.length = 0) := by
             have e : j = k.opts.length := by have := NO.out; omega
             exact firstN_zero (e ▸ HZ.out)
           go_wp2_with (with_reducible refine wq M ?_)
           go_ret
           rw [HE.out]
           exact ⟨rfl, M.new⟩)
theorem linkFault_any (hg : g < w0.heap.size) (x : Rul) (row : List Value) (h : rulF F w0 row x) (k : Lnk) (oo : Option Addr) (on ocap : Nat) (hO : SlF G w0 3 (plainF optC) oo on ocap k.opts) : Calls Tryz.prog 55 #[.agg row.toArray, .agg (lnkC k oo on ocap).toArray] w0 fun e w' => e = .returned (.int .i64 (linkE x k)) ∧ Below w0.heap.size w0 w' := by
  cases h1 : linkC1 (hasP x.whens k.left) (hasP x.nots k.left) (hasP x.whens k.right) (hasP x.nots k.right) with
  | true => exact linkFault_none hg x row h k oo on ocap hO h1
  | false =>
    cases h2 : linkC2 (sameS k.left k.right) (hasP x.whens k.left) (hasP x.whens k.right) with
    | true => exact linkFault_form hg x row h k oo on ocap hO h1 h2
    | false =>
      by_cases h3 : k.opts.length < 1 ∨ 6 < k.opts.length
      · exact linkFault_size hg x row h k oo on ocap hO h1 h2 h3
      · exact linkFault_opts hg x row h k oo on ocap hO h1 h2 h3
end
end Go.Proofs.YtncmghnhfipklaaGreatDoor
