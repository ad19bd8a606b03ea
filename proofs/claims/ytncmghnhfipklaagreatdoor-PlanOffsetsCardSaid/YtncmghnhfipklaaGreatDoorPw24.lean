/-
  The walks of the program's Check, sixth part: links; fields that are summed up. Printed by pgf.py.
-/
import Derived.Test.YtncmghnhfipklaaGreatDoorPw17
import Derived.Test.YtncmghnhfipklaaGreatDoorPw23
import Derived.Deep.CutBlock
import Derived.Deep.DeepCutAuto
namespace Go.Proofs.YtncmghnhfipklaaGreatDoor
open Go.RowKit
set_option linter.unusedVariables false
set_option linter.unusedSimpArgs false

instance : StI Tryz.prog 128 3 := ⟨stOpt⟩
section
variable {g : Nat} {F G : Nat → Prop} {ao : Option Addr} {n cap : Nat} {w0 : World}
set_option maxRecDepth 8000 in
set_option maxHeartbeats 4000000 in
theorem linkIn_any (hg : g < w0.heap.size) {l : List Pat} (hX : SlF F w0 18 patF ao n cap l) (nm : ByteArray) :
    Calls Tryz.prog 68 #[.slice ao n cap, .string nm] w0 fun e w' => e = .returned (.bool (hasP l nm)) ∧ Below w0.heap.size w0 w' := by
  have NL := Lib.hid hX.len
  have hle := hX.le
  have M := Mem.begin hg ⟨0, 0⟩
  have HX := Lib.hid hX
  clear hX hg
  go_enter Tryz.func68, Tryz.ntmps68
  go_wp2_with (with_reducible (first | refine wq M ?_ | (refine wS M ?_; clear M; intro w M) | (refine wV M ?_; clear M; intro z w M) | (refine wR M ?_; clear M; intro q w M)))
  go_loopg [9] n (fun f i wr => ∃ k : Nat, k + f = n ∧ i = .int .i64 k ∧ Mem (StaysB g w0) g w0 wr ⟨0, 0⟩ [] ∧ Hid (NoB l (fun t => sameS t.var nm) k))
  case atStart => exact ⟨0, by omega, rfl, M, noB_zero _ _⟩
  case round =>
    clear M
    obtain ⟨k, hk, rfl, M, HB⟩ := hrel
    by_cases hlt : k < n
    · have hkl : k < l.length := by have := NL.out; omega
      obtain ⟨ca, oa, rowa, hixa, -, hrra, hwa⟩ := SlF.rowAt (P := Tryz.prog) HX.out patF_firm Tryz.underlying40 size_pat (i := k) hkl
      obtain ⟨p1, q1, s1, ea, u1⟩ := patF.open18 hrra
      subst ea
      have HR := Lib.hid (fun wx hb => (hwa wx hb).1)
      have HP : Hid (∀ b, sameS l[k].var nm = b → (l[k].var.toList == nm.toList) = b) := fun b h => h
      have HS : Hid (sameS l[k].var nm = true → hasP l nm = true) := fun h => by
        have e : patI l nm = k := noB_at HB.out hkl h
        unfold hasP
        rw [e]
        simpa using hkl
      have HT : Hid (sameS l[k].var nm = false → NoB l (fun t => sameS t.var nm) (k + 1)) := fun h => noB_succ HB.out hkl h
      clear hwa u1 HB
      unfold pat18 at HR
      generalize l[k] = p at HR HP HS HT
      cases hsm : sameS p.var nm with
      | true =>
        have hq := HP.out _ hsm
        have HV := Lib.hid (HS.out hsm)
        clear HP HS HT hsm
        go_wp2_with (with_reducible (first | (refine wV M ?_; clear M; intro zx w M) | refine wq M ?_ | (refine wS M ?_; clear M; intro w M) | refine wA (HR.out _ M.new) ?_))
        go_ret
        rw [HV.out]
        exact ⟨rfl, M.new⟩
      | false =>
        have hq := HP.out _ hsm
        have HV := Lib.hid (HT.out hsm)
        clear HP HS HT hsm
        go_wp2_with (with_reducible (first | (refine wV M ?_; clear M; intro zx w M) | refine wq M ?_ | (refine wS M ?_; clear M; intro w M) | refine wA (HR.out _ M.new) ?_))
        go_roundg (n - (k + 1))
        case measure => omega
        case rel => exact ⟨k + 1, by omega, by go_num, M.drop, HV⟩
    · have HV : Hid (hasP l nm = false) := by
        have e : k = l.length := by have := NL.out; omega
        have h : patI l nm = l.length := noB_none (e ▸ HB.out)
        show _ = _
        unfold hasP
        rw [h]
        simp
      go_wp2_with (with_reducible (first | refine wq M ?_ | (refine wS M ?_; clear M; intro w M) | (refine wV M ?_; clear M; intro z w M) | (refine wR M ?_; clear M; intro q w M)))
      go_ret
      rw [HV.out]
      exact ⟨rfl, M.new⟩
/-- Variables of whens and nots are apart. -/
def Apart (x : Rul) : Prop := ∀ nm, hasP x.whens nm = true → hasP x.nots nm = false
set_option maxRecDepth 8000 in
set_option maxHeartbeats 8000000 in
theorem link_any (hg : g < w0.heap.size) (x : Rul) (row : List Value) (h : rulF F w0 row x) (k : Lnk) (oo : Option Addr) (on ocap : Nat) (hO : SlF G w0 3 (plainF optC) oo on ocap k.opts) (hap : Apart x) :
    Calls Tryz.prog 40 #[.agg row.toArray, .agg (lnkC k oo on ocap).toArray] w0 fun e w' => e = .returned (.int .i64 (linkE x k)) ∧ Below w0.heap.size w0 w' := by
  obtain ⟨a1, n1, c1, a2, n2, c2, a3, n3, c3, a4, n4, c4, a6, n6, c6, rfl, X1, X2, X3, X4, X6⟩ := h
  have M := Mem.begin hg ⟨0, 0⟩
  have HA := Lib.hid (fun wx (hb : Below w0.heap.size w0 wx) => linkIn_any (Nat.lt_of_lt_of_le hg hb.size) (X1.below patF_firm hb) k.left)
  have HB := Lib.hid (fun wx (hb : Below w0.heap.size w0 wx) => linkIn_any (Nat.lt_of_lt_of_le hg hb.size) (X2.below patF_firm hb) k.left)
  have HC := Lib.hid (fun wx (hb : Below w0.heap.size w0 wx) => linkIn_any (Nat.lt_of_lt_of_le hg hb.size) (X1.below patF_firm hb) k.right)
  have HD := Lib.hid (fun wx (hb : Below w0.heap.size w0 wx) => linkIn_any (Nat.lt_of_lt_of_le hg hb.size) (X2.below patF_firm hb) k.right)
  have hST : ∀ b, sameS k.left k.right = b → (k.left.toList == k.right.toList) = b := fun b h => h
  have hab := hap k.left
  have hcd := hap k.right
  have HL := Lib.hid (linkE_eq x k)
  have hleO := hO.le
  have NO := Lib.hid hO.len
  have HOO := Lib.hid hO
  unfold rulC lnkC
  generalize hasP x.whens k.left = A1 at HA hab HL
  generalize hasP x.nots k.left = B at HB hab HL
  generalize hasP x.whens k.right = C at HC hcd HL
  generalize hasP x.nots k.right = D at HD hcd HL
  have i0 : ∀ w, (Instr.index 126 (.agg #[.string k.left, .string k.right]) (.int .i64 0)).run Tryz.prog w = .ok (.string k.left) w := fun _ => by kernel_rfl
  have i1 : ∀ w, (Instr.index 126 (.agg #[.string k.left, .string k.right]) (.int .i64 1)).run Tryz.prog w = .ok (.string k.right) w := fun _ => by kernel_rfl
  clear hg hO X1 X2 X3 X4 X6 hap
  replace hST := Lib.hid hST
  replace hab := Lib.hid hab
  replace hcd := Lib.hid hcd
  go_enter Tryz.func40, Tryz.ntmps40
  go_wp2_with (with_reducible (first | (refine wB (L := []) M ?_; clear M; intro za w1 M) | (refine wB M ?_; clear M; intro zb w2 M) | refine wq M ?_))
  go_loopg [16] 2 (fun f i wr => ∃ j : Nat, j + f = 2 ∧ i = .int .i64 j ∧ Mem (StaysB g w0) g w0 wr ⟨0, 0⟩ (own zb [.string k.left, .slice oo on ocap, .string k.right] 97 :: own za [.string x.name, .slice a1 n1 c1, .slice a2 n2 c2, .slice a3 n3 c3, .slice a4 n4 c4, .string x.etype, .slice a6 n6 c6] 47 :: []) ∧ Hid ((1 ≤ j → (A1 || B) = true) ∧ (2 ≤ j → (C || D) = true)))
  case atStart => exact ⟨0, by omega, rfl, M, fun h => absurd h (by omega), fun h => absurd h (by omega)⟩
  case round =>
    clear M
    obtain ⟨j, hj, rfl, M, HJ⟩ := hrel
    rcases (by omega : j = 0 ∨ j = 1 ∨ j = 2) with rfl | rfl | rfl
    · clear HJ
      cases A1 <;> cases B
      all_goals first
        | (have HV : Hid (linkE x k = 6) := by show _ = _; rw [HL.out]; unfold linkC1; simp
           clear HL hab hcd hST
           go_wp2_with (first | (with_reducible refine wq M ?_) | (go_at_call 68; with_reducible refine (HA.out _ M.new).mono ?_; rintro e w5 ⟨rfl, hb5⟩; replace M := M.below hb5; clear hb5) | (go_at_call 68; with_reducible refine (HB.out _ M.new).mono ?_; rintro e w5 ⟨rfl, hb5⟩; replace M := M.below hb5; clear hb5))
           go_ret
           rw [HV.out]
           exact ⟨rfl, M.new⟩)
        | (go_wp2_with (first | (with_reducible refine wq M ?_) | (go_at_call 68; with_reducible refine (HA.out _ M.new).mono ?_; rintro e w5 ⟨rfl, hb5⟩; replace M := M.below hb5; clear hb5) | (go_at_call 68; with_reducible refine (HB.out _ M.new).mono ?_; rintro e w5 ⟨rfl, hb5⟩; replace M := M.below hb5; clear hb5))
           go_roundg 1
           case measure => omega
           case rel => exact ⟨1, by omega, by go_num, M, fun _ => rfl, fun h => absurd h (by omega)⟩)
    · have HJ1 := Lib.hid (HJ.out.1 (by omega))
      clear HJ
      cases C <;> cases D
      all_goals first
        | (have HV : Hid (linkE x k = 6) := by show _ = _; rw [HL.out]; unfold linkC1; simp
           clear HL hab hcd hST
           go_wp2_with (first | (with_reducible refine wq M ?_) | (go_at_call 68; with_reducible refine (HC.out _ M.new).mono ?_; rintro e w5 ⟨rfl, hb5⟩; replace M := M.below hb5; clear hb5) | (go_at_call 68; with_reducible refine (HD.out _ M.new).mono ?_; rintro e w5 ⟨rfl, hb5⟩; replace M := M.below hb5; clear hb5))
           go_ret
           rw [HV.out]
           exact ⟨rfl, M.new⟩)
        | (go_wp2_with (first | (with_reducible refine wq M ?_) | (go_at_call 68; with_reducible refine (HC.out _ M.new).mono ?_; rintro e w5 ⟨rfl, hb5⟩; replace M := M.below hb5; clear hb5) | (go_at_call 68; with_reducible refine (HD.out _ M.new).mono ?_; rintro e w5 ⟨rfl, hb5⟩; replace M := M.below hb5; clear hb5))
           go_roundg 0
           case measure => omega
           case rel => exact ⟨2, by omega, by go_num, M, fun _ => HJ1.out, fun _ => rfl⟩)
    · have hJ := HJ.out
      have hj1 := hJ.1 (by omega)
      have hj2 := hJ.2 (by omega)
      have hq := hab.out
      have hr := hcd.out
      have hC1 : linkC1 A1 B C D = false := by revert hj1 hj2; cases A1 <;> cases B <;> cases C <;> cases D <;> decide
      have hC2 : linkC2 (sameS k.left k.right) A1 C = (sameS k.left k.right || (B && D)) := by
        unfold linkC2
        revert hj1 hj2 hq hr
        cases A1 <;> cases B <;> cases C <;> cases D <;> simp
      have HL2 : Hid (linkE x k = if (sameS k.left k.right || (B && D)) = true then 4 else if k.opts.length < 1 ∨ 6 < k.opts.length then 1
          else firstN (fun i => optE (k.opts.getD i ⟨0, 0, 0⟩).rel (k.opts.getD i ⟨0, 0, 0⟩).lo (k.opts.getD i ⟨0, 0, 0⟩).hi) k.opts.length) := by
        show _ = _
        rw [HL.out, hC1, hC2, if_neg (by simp)]
      clear HL HJ hJ hj1 hj2 hq hr hC1 hC2 hab hcd
      generalize hS : sameS k.left k.right = S at HL2
      have hs0 := hST.out _ hS
      clear hST hS
      cases S with
      | true =>
        have HV : Hid (linkE x k = 4) := by show _ = _; rw [HL2.out]; rfl
        clear HL2
        go_wp2_with (with_reducible refine wq M ?_)
        go_ret
        rw [HV.out]
        exact ⟨rfl, M.new⟩
      | false =>
        cases hBD : (B && D) with
        | true =>
          have HV : Hid (linkE x k = 4) := by show _ = _; rw [HL2.out, hBD]; rfl
          have hb1 : B = true := by revert hBD; cases B <;> simp
          have hd1 : D = true := by revert hBD; cases D <;> simp
          subst hb1 hd1
          clear HL2 hBD
          go_wp2_with (first | (with_reducible refine wq M ?_) | (go_at_call 68; with_reducible refine (HB.out _ M.new).mono ?_; rintro e w5 ⟨rfl, hb5⟩; replace M := M.below hb5; clear hb5) | (go_at_call 68; with_reducible refine (HD.out _ M.new).mono ?_; rintro e w5 ⟨rfl, hb5⟩; replace M := M.below hb5; clear hb5))
          go_ret
          rw [HV.out]
          exact ⟨rfl, M.new⟩
        | false =>
          have HL3 : Hid (linkE x k = if k.opts.length < 1 ∨ 6 < k.opts.length then 1
              else firstN (fun i => optE (k.opts.getD i ⟨0, 0, 0⟩).rel (k.opts.getD i ⟨0, 0, 0⟩).lo (k.opts.getD i ⟨0, 0, 0⟩).hi) k.opts.length) := by
            show _ = _
            rw [HL2.out, hBD]
            rfl
          clear HL2
          have hBD := Lib.hid hBD
          go_upto_region 8 with (with_reducible (first | refine wq M ?_ | (refine wS M ?_; clear M; intro w M) | (refine wV M ?_; clear M; intro z w M) | (refine wR M ?_; clear M; intro q w M)))
          go_cut [54] (fun v wx => v = .bool false ∧ Mem (StaysB g w0) g w0 wx ⟨0, 0⟩ (own zb [.string k.left, .slice oo on ocap, .string k.right] 97 :: own za [.string x.name, .slice a1 n1 c1, .slice a2 n2 c2, .slice a3 n3 c3, .slice a4 n4 c4, .string x.etype, .slice a6 n6 c6] 47 :: []))
          case first =>
            have hbd := hBD.out
            clear hBD HL3
            cases B <;> cases D
            all_goals first
              | (exfalso; revert hbd; decide)
              | (clear hbd
                 go_wp2_with (first | (with_reducible refine wq M ?_) | (go_at_call 68; with_reducible refine (HB.out _ M.new).mono ?_; rintro e w5 ⟨rfl, hb5⟩; replace M := M.below hb5; clear hb5) | (go_at_call 68; with_reducible refine (HD.out _ M.new).mono ?_; rintro e w5 ⟨rfl, hb5⟩; replace M := M.below hb5; clear hb5))
                 go_meet
                 case rel => exact ⟨rfl, M⟩)
          case rest =>
          clear M
          obtain ⟨rfl, M⟩ := hcut
          by_cases hl : k.opts.length < 1 ∨ 6 < k.opts.length
          · have HV : Hid (linkE x k = 1) := by show _ = _; rw [HL3.out, if_pos hl]
            clear HL3
            by_cases hl1 : on < 1
            · have d1 : decide ((on : Int) < 1) = true := by simp; omega
              clear hl hl1
              go_wp2_with (with_reducible refine wq M ?_)
              go_ret
              rw [HV.out]
              exact ⟨rfl, M.new⟩
            · have d1 : decide ((on : Int) < 1) = false := by simp; omega
              have d2 : decide ((6 : Int) < on) = true := by have := NO.out; simp; omega
              clear hl hl1
              go_wp2_with (with_reducible refine wq M ?_)
              go_ret
              rw [HV.out]
              exact ⟨rfl, M.new⟩
          · have HL4 := Lib.hid (HL3.out.trans (if_neg hl))
            have d1 : decide ((on : Int) < 1) = false := by have := NO.out; simp; omega
            have d2 : decide ((6 : Int) < on) = false := by have := NO.out; simp; omega
            have HF : Hid (∀ i, i < k.opts.length → (fun i => optE (k.opts.getD i ⟨0, 0, 0⟩).rel (k.opts.getD i ⟨0, 0, 0⟩).lo (k.opts.getD i ⟨0, 0, 0⟩).hi) i = optE (k.opts.getD i ⟨0, 0, 0⟩).rel (k.opts.getD i ⟨0, 0, 0⟩).lo (k.opts.getD i ⟨0, 0, 0⟩).hi) := fun i _ => rfl
            generalize (fun i => optE (k.opts.getD i ⟨0, 0, 0⟩).rel (k.opts.getD i ⟨0, 0, 0⟩).lo (k.opts.getD i ⟨0, 0, 0⟩).hi) = f at HF HL4
            clear HL3 hl hBD
            go_wp2_with (with_reducible refine wq M ?_)
            go_loopg [68] on (fun fu i wr => ∃ j : Nat, j + fu = on ∧ i = .int .i64 j ∧ Mem (StaysB g w0) g w0 wr ⟨0, 0⟩ (own zb [.string k.left, .slice oo on ocap, .string k.right] 97 :: own za [.string x.name, .slice a1 n1 c1, .slice a2 n2 c2, .slice a3 n3 c3, .slice a4 n4 c4, .string x.etype, .slice a6 n6 c6] 47 :: []) ∧ Hid (AllZ f j))
            case atStart => exact ⟨0, by omega, rfl, M, allZ_zero _⟩
            case round =>
              clear M
              obtain ⟨j, hj, rfl, M, HZ⟩ := hrel
              by_cases hlt : j < on
              · have hkl : j < k.opts.length := by have := NO.out; omega
                obtain ⟨ca, oa, rowa, hixa, -, hrra, hwa⟩ := SlF.rowAt (P := Tryz.prog) HOO.out (plainF_firm _) Tryz.underlying95 size_opt (i := j) hkl
                have e1 : rowa = optC k.opts[j] := hrra
                subst e1
                have HR := Lib.hid (fun wx hb => (hwa wx hb).1)
                have hfj : f j = optE k.opts[j].rel k.opts[j].lo k.opts[j].hi := by rw [HF.out j hkl, List.getD_eq_getElem?_getD, List.getElem?_eq_getElem hkl]; rfl
                have HO : Hid (∀ wx, Below w0.heap.size w0 wx → Calls Tryz.prog 69 #[.agg #[.int .i64 k.opts[j].rel, .int .i64 k.opts[j].lo, .int .i64 k.opts[j].hi]] wx fun e w' => e = .returned (.int .i64 (f j)) ∧ Below wx.heap.size wx w') := fun wx hb => by rw [hfj]; exact optCheck_any _ _ _ wx
                have HV : Hid (f j ≠ 0 → linkE x k = f j) := fun h => HL4.out.trans (firstN_at HZ.out hkl h)
                have HW : Hid (f j = 0 → AllZ f (j + 1)) := fun h => allZ_succ HZ.out h
                clear hwa hrra hfj HZ
                generalize k.opts[j] = o at HR HO
                unfold optC at HR
                generalize f j = q at HO HV HW
                by_cases hq : q = 0
                · subst hq
                  have HZ2 := Lib.hid (HW.out rfl)
                  clear HV HW
                  go_wp2_with (first | (with_reducible (first | (refine wV M ?_; clear M; intro zx w M) | refine wq M ?_ | (refine wS M ?_; clear M; intro w M) | refine wA (HR.out _ M.new) ?_)) | (go_at_call 69; with_reducible refine (HO.out _ M.new).mono ?_; rintro e w5 ⟨rfl, hb5⟩; replace M := M.below hb5; clear hb5))
                  go_roundg (on - (j + 1))
                  case measure => omega
                  case rel => exact ⟨j + 1, by omega, by go_num, M.drop, HZ2⟩
                · have hqb : (q != 0) = true := by simpa using hq
                  have HE := Lib.hid (HV.out hq)
                  clear HV HW hq
                  go_wp2_with (first | (with_reducible (first | (refine wV M ?_; clear M; intro zx w M) | refine wq M ?_ | (refine wS M ?_; clear M; intro w M) | refine wA (HR.out _ M.new) ?_)) | (go_at_call 69; with_reducible refine (HO.out _ M.new).mono ?_; rintro e w5 ⟨rfl, hb5⟩; replace M := M.below hb5; clear hb5))
                  go_ret
                  rw [HE.out]
                  exact ⟨rfl, M.new⟩
              · have HE : Hid (linkE x k = 0) := by
                  have e : j = k.opts.length := by have := NO.out; omega
                  exact HL4.out.trans (firstN_zero (e ▸ HZ.out))
                go_wp2_with (with_reducible (first | refine wq M ?_ | (refine wS M ?_; clear M; intro w M) | (refine wV M ?_; clear M; intro z w M) | (refine wR M ?_; clear M; intro q w M)))
                go_ret
                rw [HE.out]
                exact ⟨rfl, M.new⟩
set_option maxRecDepth 8000 in
set_option maxHeartbeats 4000000 in
theorem summed_any (hg : g < w0.heap.size) (t : Typ) {oo : Option Addr} {k ocap : Nat} (hO : SlF F w0 2 (plainF fldC) oo k ocap t.fields) (ht : TypGood t) (fd : ByteArray) :
    Calls Tryz.prog 39 #[.agg #[.string t.name, .slice oo k ocap], .string fd] w0 fun e w' => e = .returned (.int .i64 (sumE t fd)) ∧ Below w0.heap.size w0 w' := by
  have M := Mem.begin hg ⟨0, 0⟩
  have HFD : Hid (∀ wx, Below w0.heap.size w0 wx → Calls Tryz.prog 67 #[.agg #[.string t.name, .slice oo k ocap], .string fd] wx fun e w' => e = .returned (.tuple #[.int .i64 (fieldX t.name t.fields fd), .int .i64 (fieldK t.name t.fields fd), .int .i64 (fieldE t.name t.fields fd)]) ∧ Below wx.heap.size wx w') := fun wx hbx =>
    field_any t.name oo k ocap t.fields fd wx ht.1.1 (fld_R (hO.below (plainF_firm _) hbx) ht.1.2)
  have hfe : fieldE t.name t.fields fd = if fldAt t.fields fd < t.fields.length then 0 else 6 := by unfold fieldE; rw [if_pos ht.2]
  generalize fieldX t.name t.fields fd = fx at HFD
  cases hem : emS fd with
  | true =>
    have HV : Hid (sumE t fd = 0) := by show _ = _; unfold sumE; rw [if_pos hem]
    have hf : fd.toList = [] := by simpa [emS] using hem
    clear hg hO ht HFD hem hfe
    go_enter Tryz.func39, Tryz.ntmps39
    go_wp2_with (with_reducible (refine wB (L := []) M ?_; clear M; intro za w1 M))
    go_ret
    rw [HV.out]
    exact ⟨rfl, M.new⟩
  | false =>
    have hf : fd.toList.isEmpty = false := hem
    by_cases hl : fldAt t.fields fd < t.fields.length
    · have hk : fieldK t.name t.fields fd = (t.fields.getD (fldAt t.fields fd) default).kind := by unfold fieldK; rw [hfe, if_pos hl, if_pos rfl]
      have HV : Hid (sumE t fd = if (t.fields.getD (fldAt t.fields fd) default).kind = 1 then 0 else 13) := by show _ = _; unfold sumE; rw [hem, if_neg (by simp), if_pos hl]
      rw [hfe, if_pos hl, hk] at HFD
      generalize (t.fields.getD (fldAt t.fields fd) default).kind = kd at HFD HV
      by_cases h1 : kd = 1
      · have hb : (kd != 1) = false := by simpa using h1
        have HV2 := Lib.hid (HV.out.trans (if_pos h1))
        clear hg hO ht hem hfe hl hk HV h1
        go_enter Tryz.func39, Tryz.ntmps39
        go_wp2_with (first | (with_reducible (first | (refine wB (L := []) M ?_; clear M; intro za w1 M) | refine wq M ?_)) | (go_at_call 67; with_reducible refine (HFD.out _ M.new).mono ?_; rintro e w5 ⟨rfl, hb5⟩; replace M := M.below hb5; clear hb5))
        go_ret
        rw [HV2.out]
        exact ⟨rfl, M.new⟩
      · have hb : (kd != 1) = true := by simpa using h1
        have HV2 := Lib.hid (HV.out.trans (if_neg h1))
        clear hg hO ht hem hfe hl hk HV h1
        go_enter Tryz.func39, Tryz.ntmps39
        go_wp2_with (first | (with_reducible (first | (refine wB (L := []) M ?_; clear M; intro za w1 M) | refine wq M ?_)) | (go_at_call 67; with_reducible refine (HFD.out _ M.new).mono ?_; rintro e w5 ⟨rfl, hb5⟩; replace M := M.below hb5; clear hb5))
        go_ret
        rw [HV2.out]
        exact ⟨rfl, M.new⟩
    · have HV : Hid (sumE t fd = 6) := by show _ = _; unfold sumE; rw [hem, if_neg (by simp), if_neg hl]
      rw [hfe, if_neg hl] at HFD
      generalize fieldK t.name t.fields fd = kd at HFD
      clear hg hO ht hem hfe hl
      go_enter Tryz.func39, Tryz.ntmps39
      go_wp2_with (first | (with_reducible (first | (refine wB (L := []) M ?_; clear M; intro za w1 M) | refine wq M ?_)) | (go_at_call 67; with_reducible refine (HFD.out _ M.new).mono ?_; rintro e w5 ⟨rfl, hb5⟩; replace M := M.below hb5; clear hb5))
      go_ret
      rw [HV.out]
      exact ⟨rfl, M.new⟩
end
section
variable {g:Nat} {F G:Nat→Prop} {ao:Option Addr} {n cap:Nat} {w0:World} {ts:List Typ}
set_option maxRecDepth 8000 in
set_option maxHeartbeats 4000000 in
theorem emitFault_none(hg:g<w0.heap.size)(hX:SlF F w0 2 typF ao n cap ts)(hts: ∀ t∈ts,typOk t)(x:Rul)(row:List Value)(h:rulF G w0 row x)(hkn: ∀ p∈x.whens,typI ts p.type<ts.length)(hev: ∀ o∈x.evals,o.vtext.size≤maxLen)(h1:emS x.etype=true):Calls Tryz.prog 56 #[.slice ao n cap,.agg row.toArray] w0 fun e w' =>e= .returned (.int .i64 (emitE ts x))∧Below w0.heap.size w0 w' :=by
 have HV:Hid (emitE ts x=if x.evals.length=0 then 0 else 4):=by show _=_;unfold emitE;rw[if_pos h1]
 have he0:x.etype.toList=[]:=by simpa[emS]using h1
 obtain⟨a1,n1,c1,a2,n2,c2,a3,n3,c3,a4,n4,c4,a6,n6,c6,rfl,X1,X2,X3,X4,X6⟩:=h
 have M:=Mem.begin hg ⟨0,0⟩
 have hle6:=X6.le
 have N6:=Lib.hid X6.len
 have hleX:=hX.le
 have NX:=Lib.hid hX.len
 unfold rulC
 rw[HV.out]
 by_cases h0:x.evals.length=0
 ·have hn:(n6:Int)=0:=by have:=N6.out;omega
  rw[if_pos h0]
  clear hg hX hts hkn hev X1 X2 X3 X4 X6 h1 h0 HV
  go_enter Tryz.func56,Tryz.ntmps56
  go_wp2_with (with_reducible (first|(refine wB (L:=[]) M ?_;clear M;intro za w1 M)|(refine wV M ?_;clear M;intro ze w2 M)|refine wq M ?_|(refine wS M ?_;clear M;intro w M)))
  go_ret
  exact⟨rfl,M.new⟩
 ·have hn:(0:Int)<n6:=by have:=N6.out;omega
  rw[if_neg h0]
  clear hg hX hts hkn hev X1 X2 X3 X4 X6 h1 h0 HV
  go_enter Tryz.func56,Tryz.ntmps56
  go_wp2_with (with_reducible (first|(refine wB (L:=[]) M ?_;clear M;intro za w1 M)|(refine wV M ?_;clear M;intro ze w2 M)|refine wq M ?_|(refine wS M ?_;clear M;intro w M)))
  go_ret
  exact⟨rfl,M.new⟩
set_option maxRecDepth 8000 in
set_option maxHeartbeats 4000000 in
theorem emitFault_type(hg:g<w0.heap.size)(hX:SlF F w0 2 typF ao n cap ts)(hts: ∀ t∈ts,typOk t)(x:Rul)(row:List Value)(h:rulF G w0 row x)(hkn: ∀ p∈x.whens,typI ts p.type<ts.length)(hev: ∀ o∈x.evals,o.vtext.size≤maxLen)(h1:emS x.etype=false)(h2:ts.length≤typI ts x.etype):Calls Tryz.prog 56 #[.slice ao n cap,.agg row.toArray] w0 fun e w' =>e= .returned (.int .i64 (emitE ts x))∧Below w0.heap.size w0 w' :=by
 have HV:Hid (emitE ts x=6):=by show _=_;unfold emitE;rw[h1,if_neg (by simp),if_pos h2]
 have he0:x.etype.toList.isEmpty=false:=h1
 obtain⟨a1,n1,c1,a2,n2,c2,a3,n3,c3,a4,n4,c4,a6,n6,c6,rfl,X1,X2,X3,X4,X6⟩:=h
 have M:=Mem.begin hg ⟨0,0⟩
 have hle6:=X6.le
 have N6:=Lib.hid X6.len
 have hleX:=hX.le
 have NX:=Lib.hid hX.len
 unfold rulC
 have HTN:=Lib.hid (fun wx (hb:Below w0.heap.size w0 wx)=>typeNamed_any (Nat.lt_of_lt_of_le hg hb.size) (hX.below typF_firm hb) x.etype)
 have hpv:placeV (typI ts x.etype) ts.length= -1:=by unfold placeV;rw[if_neg (by omega)]
 rw[hpv]at HTN
 rw[HV.out]
 clear hg hX hts hkn hev X1 X2 X3 X4 X6 h1 h2 HV hpv
 go_enter Tryz.func56,Tryz.ntmps56
 go_wp2_with (first|(with_reducible (first|(refine wB (L:=[]) M ?_;clear M;intro za w1 M)|(refine wV M ?_;clear M;intro ze w2 M)|refine wq M ?_|(refine wS M ?_;clear M;intro w M)))|(go_at_call 29;with_reducible refine(HTN.out _ M.new).mono ?_;rintro e w5 ⟨rfl,hb5⟩;replace M:=M.below hb5;clear hb5))
 go_ret
 exact⟨rfl,M.new⟩
set_option maxRecDepth 8000 in
set_option maxHeartbeats 4000000 in
theorem emitFault_len(hg:g<w0.heap.size)(hX:SlF F w0 2 typF ao n cap ts)(hts: ∀ t∈ts,typOk t)(x:Rul)(row:List Value)(h:rulF G w0 row x)(hkn: ∀ p∈x.whens,typI ts p.type<ts.length)(hev: ∀ o∈x.evals,o.vtext.size≤maxLen)(h1:emS x.etype=false)(h2:typI ts x.etype<ts.length)(h3:x.evals.length≠(typAt ts x.etype).fields.length):Calls Tryz.prog 56 #[.slice ao n cap,.agg row.toArray] w0 fun e w' =>e= .returned (.int .i64 (emitE ts x))∧Below w0.heap.size w0 w' :=by
 have HV:Hid (emitE ts x=13):=by show _=_;unfold emitE;rw[h1,if_neg (by simp),if_neg (by omega),if_pos h3]
 have he0:x.etype.toList.isEmpty=false:=h1
 obtain⟨a1,n1,c1,a2,n2,c2,a3,n3,c3,a4,n4,c4,a6,n6,c6,rfl,X1,X2,X3,X4,X6⟩:=h
 have M:=Mem.begin hg ⟨0,0⟩
 have hle6:=X6.le
 have N6:=Lib.hid X6.len
 have hleX:=hX.le
 have NX:=Lib.hid hX.len
 unfold rulC
 have HTN:=Lib.hid (fun wx (hb:Below w0.heap.size w0 wx)=>typeNamed_any (Nat.lt_of_lt_of_le hg hb.size) (hX.below typF_firm hb) x.etype)
 have hpv:placeV (typI ts x.etype) ts.length=(typI ts x.etype:Nat):=by unfold placeV;rw[if_pos h2]
 rw[hpv]at HTN
 rw[HV.out]
 obtain⟨ct,ot,rowt,hixt, -,hrrt,hwt⟩:=SlF.rowAt (P:=Tryz.prog) hX typF_firm Tryz.underlying22 size_typ (i:=typI ts x.etype) h2
 obtain⟨t1,t2,t3,et,ut⟩:=hrrt
 subst et
 have hTT:typAt ts x.etype=ts[typI ts x.etype]:=by unfold typAt;rw[List.getD_eq_getElem?_getD,List.getElem?_eq_getElem h2];rfl
 have HT1:Hid (∀ wx,Below w0.heap.size w0 wx→wx.cell? ⟨ct,ot+1,none⟩=some (.slice t1 t2 t3)):=fun wx hb=>(hwt wx hb).1 1 _ rfl
 have hne:((n6:Int)!=t2)=true:=by
  have e1:=N6.out
  have e2:=ut.len
  rw[hTT]at h3
  simp;omega
 have htn:(typI ts x.etype:Int)<n:=by have:=NX.out;omega
 have htp:(0:Int)≤(typI ts x.etype:Nat):=by omega
 generalize typI ts x.etype=ti at HTN hixt htn htp
 clear hg hX hts hkn hev X1 X2 X3 X4 X6 h1 h2 h3 HV hpv hwt ut hTT
 go_enter Tryz.func56,Tryz.ntmps56
 go_wp2_with (first|(with_reducible (first|(refine wB (L:=[]) M ?_;clear M;intro za w1 M)|(refine wV M ?_;clear M;intro ze w2 M)|refine wq M ?_|(refine wS M ?_;clear M;intro w M)))|(go_at_call 29;with_reducible refine(HTN.out _ M.new).mono ?_;rintro e w5 ⟨rfl,hb5⟩;replace M:=M.below hb5;clear hb5))
 ((refine wp_region_still_lit (by kernel_rfl) (by kernel_rfl) ?_);(change wpStill _ _ (World.drew _) _ _ _);replace M:=M.drew;(repeat(first|((with_reducible refine s_list rfl fun K hK=>?_);refine s_load ?_;(first|(refine q_cellat (HT1.out _ M.new) ?_)|refine q_get M (by exact rfl) ?_);refine⟨rfl,hK _ ?_⟩;clear hK K)|((with_reducible refine s_list rfl fun K hK=>?_);refine s_pure ?_;go_simp;refine hK _ ?_;clear hK K)));(refine wpStill_nil ?_))
 go_wp2_with (with_reducible (first|refine wq M ?_|(refine wS M ?_;clear M;intro w M)|(refine wV M ?_;clear M;intro z w M)|(refine wR M ?_;clear M;intro q w M)))
 go_ret
 exact⟨rfl,M.new⟩
end
end Go.Proofs.YtncmghnhfipklaaGreatDoor
