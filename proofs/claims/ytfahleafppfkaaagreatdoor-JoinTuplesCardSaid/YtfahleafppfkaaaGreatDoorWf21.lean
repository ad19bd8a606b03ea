/-
  The walks of the program's Check, sixth part: links; fields that are summed up. Printed by pgf.py.
-/
import Derived.Test.YtfahleafppfkaaaGreatDoorWf10
import Derived.Test.YtfahleafppfkaaaGreatDoorWf15
import Derived.Deep.CutBlock
import Derived.Deep.DeepCutAuto
import Derived.Test.YtfahleafppfkaaaGreatDoorWf11
import Derived.Test.YtfahleafppfkaaaGreatDoorWf16
import Derived.Test.YtfahleafppfkaaaGreatDoorWf20
import Derived.Test.YtfahleafppfkaaaGreatDoorWf17
namespace Go.Proofs.YtfahleafppfkaaaGreatDoor
open Go.RowKit
set_option linter.unusedVariables false
set_option linter.unusedSimpArgs false

instance : StI Tryz.prog 137 3 := ⟨stOpt⟩
section
variable {g : Nat} {F G : Nat → Prop} {ao : Option Addr} {n cap : Nat} {w0 : World}
set_option maxRecDepth 8000 in
set_option maxHeartbeats 4000000 in
theorem linkIn_any (hg : g < w0.heap.size) {l : List Pat} (hX : SlF F w0 18 patF ao n cap l) (nm : ByteArray) :
    Calls Tryz.prog 133 #[.slice ao n cap, .string nm] w0 fun e w' => e = .returned (.bool (hasP l nm)) ∧ Below w0.heap.size w0 w' := by
  have NL := Lib.hid hX.len
  have hle := hX.le
  have M := Mem.begin hg ⟨0, 0⟩
  have HX := Lib.hid hX
  clear hX hg
  go_enter Tryz.func133, Tryz.ntmps133
  go_wp2_with (with_reducible (first | refine wq M ?_ | (refine wS M ?_; clear M; intro w M) | (refine wV M ?_; clear M; intro z w M) | (refine wR M ?_; clear M; intro q w M)))
  go_loopg [9] n (fun f i wr => ∃ k : Nat, k + f = n ∧ i = .int .i64 k ∧ Mem (StaysB g w0) g w0 wr ⟨0, 0⟩ [] ∧ Hid (NoB l (fun t => sameS t.var nm) k))
  case atStart => exact ⟨0, by omega, rfl, M, noB_zero _ _⟩
  case round =>
    clear M
    obtain ⟨k, hk, rfl, M, HB⟩ := hrel
    by_cases hlt : k < n
    · have hkl : k < l.length := by have := NL.out; omega
      obtain ⟨ca, oa, rowa, hixa, -, hrra, hwa⟩ := SlF.rowAt (P := Tryz.prog) HX.out patF_firm Tryz.underlying53 size_pat (i := k) hkl
      obtain ⟨p1, q1, s1, ea, u1⟩ := patF.open18 hrra
      subst ea
      have HR := Lib.hid (fun wx hb => (hwa wx hb).1)
      have HP : Hid (∀ b, sameS l[k].var nm = b → (l[k].var.toList == nm.toList) = b) := fun b h => h
      have HS : Hid (sameS l[k].var nm = true → hasP l nm = true) := fun h => by
        have e : patI l nm = k := noB_at HB.out hkl h
        unfold hasP
        rw [e]
        simpa using hkl
      have HT : Hid (sameS l[k].var nm = false → NoB l (fun t => sameS t.var nm) (k + 1)) := fun h => noB_succ HB.out hkl h
      clear hwa u1 HB
      unfold pat18 at HR
      generalize l[k] = p at HR HP HS HT
      cases hsm : sameS p.var nm with
      | true =>
        have hq := HP.out _ hsm
        have HV := Lib.hid (HS.out hsm)
        clear HP HS HT hsm
        go_wp2_with (with_reducible (first | (refine wV M ?_; clear M; intro zx w M) | refine wq M ?_ | (refine wS M ?_; clear M; intro w M) | refine wA (HR.out _ M.new) ?_))
        go_ret
        rw [HV.out]
        exact ⟨rfl, M.new⟩
      | false =>
        have hq := HP.out _ hsm
        have HV := Lib.hid (HT.out hsm)
        clear HP HS HT hsm
        go_wp2_with (with_reducible (first | (refine wV M ?_; clear M; intro zx w M) | refine wq M ?_ | (refine wS M ?_; clear M; intro w M) | refine wA (HR.out _ M.new) ?_))
        go_roundg (n - (k + 1))
        case measure => omega
        case rel => exact ⟨k + 1, by omega, by go_num, M.drop, HV⟩
    · have HV : Hid (hasP l nm = false) := by
        have e : k = l.length := by have := NL.out; omega
        have h : patI l nm = l.length := noB_none (e ▸ HB.out)
        show _ = _
        unfold hasP
        rw [h]
        simp
      go_wp2_with (with_reducible (first | refine wq M ?_ | (refine wS M ?_; clear M; intro w M) | (refine wV M ?_; clear M; intro z w M) | (refine wR M ?_; clear M; intro q w M)))
      go_ret
      rw [HV.out]
      exact ⟨rfl, M.new⟩
/-- Variables of whens and nots are apart. -/
def Apart (x : Rul) : Prop := ∀ nm, hasP x.whens nm = true → hasP x.nots nm = false
set_option maxRecDepth 8000 in
set_option maxHeartbeats 8000000 in
theorem link_any (hg : g < w0.heap.size) (x : Rul) (row : List Value) (h : rulF F w0 row x) (k : Lnk) (oo : Option Addr) (on ocap : Nat) (hO : SlF G w0 3 (plainF optC) oo on ocap k.opts) (hap : Apart x) :
    Calls Tryz.prog 96 #[.agg row.toArray, .agg (lnkC k oo on ocap).toArray] w0 fun e w' => e = .returned (.int .i64 (linkE x k)) ∧ Below w0.heap.size w0 w' := by
  obtain ⟨a1, n1, c1, a2, n2, c2, a3, n3, c3, a4, n4, c4, a6, n6, c6, rfl, X1, X2, X3, X4, X6⟩ := h
  have M := Mem.begin hg ⟨0, 0⟩
  have HA := Lib.hid (fun wx (hb : Below w0.heap.size w0 wx) => linkIn_any (Nat.lt_of_lt_of_le hg hb.size) (X1.below patF_firm hb) k.left)
  have HB := Lib.hid (fun wx (hb : Below w0.heap.size w0 wx) => linkIn_any (Nat.lt_of_lt_of_le hg hb.size) (X2.below patF_firm hb) k.left)
  have HC := Lib.hid (fun wx (hb : Below w0.heap.size w0 wx) => linkIn_any (Nat.lt_of_lt_of_le hg hb.size) (X1.below patF_firm hb) k.right)
  have HD := Lib.hid (fun wx (hb : Below w0.heap.size w0 wx) => linkIn_any (Nat.lt_of_lt_of_le hg hb.size) (X2.below patF_firm hb) k.right)
  have hST : ∀ b, sameS k.left k.right = b → (k.left.toList == k.right.toList) = b := fun b h => h
  have hab := hap k.left
  have hcd := hap k.right
  have HL := Lib.hid (linkE_eq x k)
  have hleO := hO.le
  have NO := Lib.hid hO.len
  have HOO := Lib.hid hO
  unfold rulC lnkC
  generalize hasP x.whens k.left = A1 at HA hab HL
  generalize hasP x.nots k.left = B at HB hab HL
  generalize hasP x.whens k.right = C at HC hcd HL
  generalize hasP x.nots k.right = D at HD hcd HL
  have i0 : ∀ w, (Instr.index 193 (.agg #[.string k.left, .string k.right]) (.int .i64 0)).run Tryz.prog w = .ok (.string k.left) w := fun _ => by kernel_rfl
  have i1 : ∀ w, (Instr.index 193 (.agg #[.string k.left, .string k.right]) (.int .i64 1)).run Tryz.prog w = .ok (.string k.right) w := fun _ => by kernel_rfl
  clear hg hO X1 X2 X3 X4 X6 hap
  replace hST := Lib.hid hST
  replace hab := Lib.hid hab
  replace hcd := Lib.hid hcd
  go_enter Tryz.func96, Tryz.ntmps96
  go_wp2_with (with_reducible (first | (refine wB (L := []) M ?_; clear M; intro za w1 M) | (refine wB M ?_; clear M; intro zb w2 M) | refine wq M ?_))
  go_loopg [16] 2 (fun f i wr => ∃ j : Nat, j + f = 2 ∧ i = .int .i64 j ∧ Mem (StaysB g w0) g w0 wr ⟨0, 0⟩ (own zb [.string k.left, .slice oo on ocap, .string k.right] 134 :: own za [.string x.name, .slice a1 n1 c1, .slice a2 n2 c2, .slice a3 n3 c3, .slice a4 n4 c4, .string x.etype, .slice a6 n6 c6] 60 :: []) ∧ Hid ((1 ≤ j → (A1 || B) = true) ∧ (2 ≤ j → (C || D) = true)))
  case atStart => exact ⟨0, by omega, rfl, M, fun h => absurd h (by omega), fun h => absurd h (by omega)⟩
  case round =>
    clear M
    obtain ⟨j, hj, rfl, M, HJ⟩ := hrel
    rcases (by omega : j = 0 ∨ j = 1 ∨ j = 2) with rfl | rfl | rfl
    · clear HJ
      cases A1 <;> cases B
      all_goals first
        | (have HV : Hid (linkE x k = 6) := by show _ = _; rw [HL.out]; unfold linkC1; simp
           clear HL hab hcd hST
           go_wp2_with (first | (with_reducible refine wq M ?_) | (go_at_call 133; with_reducible refine (HA.out _ M.new).mono ?_; rintro e w5 ⟨rfl, hb5⟩; replace M := M.below hb5; clear hb5) | (go_at_call 133; with_reducible refine (HB.out _ M.new).mono ?_; rintro e w5 ⟨rfl, hb5⟩; replace M := M.below hb5; clear hb5))
           go_ret
           rw [HV.out]
           exact ⟨rfl, M.new⟩)
        | (go_wp2_with (first | (with_reducible refine wq M ?_) | (go_at_call 133; with_reducible refine (HA.out _ M.new).mono ?_; rintro e w5 ⟨rfl, hb5⟩; replace M := M.below hb5; clear hb5) | (go_at_call 133; with_reducible refine (HB.out _ M.new).mono ?_; rintro e w5 ⟨rfl, hb5⟩; replace M := M.below hb5; clear hb5))
           go_roundg 1
           case measure => omega
           case rel => exact ⟨1, by omega, by go_num, M, fun _ => rfl, fun h => absurd h (by omega)⟩)
    · have HJ1 := Lib.hid (HJ.out.1 (by omega))
      clear HJ
      cases C <;> cases D
      all_goals first
        | (have HV : Hid (linkE x k = 6) := by show _ = _; rw [HL.out]; unfold linkC1; simp
           clear HL hab hcd hST
           go_wp2_with (first | (with_reducible refine wq M ?_) | (go_at_call 133; with_reducible refine (HC.out _ M.new).mono ?_; rintro e w5 ⟨rfl, hb5⟩; replace M := M.below hb5; clear hb5) | (go_at_call 133; with_reducible refine (HD.out _ M.new).mono ?_; rintro e w5 ⟨rfl, hb5⟩; replace M := M.below hb5; clear hb5))
           go_ret
           rw [HV.out]
           exact ⟨rfl, M.new⟩)
        | (go_wp2_with (first | (with_reducible refine wq M ?_) | (go_at_call 133; with_reducible refine (HC.out _ M.new).mono ?_; rintro e w5 ⟨rfl, hb5⟩; replace M := M.below hb5; clear hb5) | (go_at_call 133; with_reducible refine (HD.out _ M.new).mono ?_; rintro e w5 ⟨rfl, hb5⟩; replace M := M.below hb5; clear hb5))
           go_roundg 0
           case measure => omega
           case rel => exact ⟨2, by omega, by go_num, M, fun _ => HJ1.out, fun _ => rfl⟩)
    · have hJ := HJ.out
      have hj1 := hJ.1 (by omega)
      have hj2 := hJ.2 (by omega)
      have hq := hab.out
      have hr := hcd.out
      have hC1 : linkC1 A1 B C D = false := by revert hj1 hj2; cases A1 <;> cases B <;> cases C <;> cases D <;> decide
      have hC2 : linkC2 (sameS k.left k.right) A1 C = (sameS k.left k.right || (B && D)) := by
        unfold linkC2
        revert hj1 hj2 hq hr
        cases A1 <;> cases B <;> cases C <;> cases D <;> simp
      have HL2 : Hid (linkE x k = if (sameS k.left k.right || (B && D)) = true then 4 else if k.opts.length < 1 ∨ 6 < k.opts.length then 1
          else firstN (fun i => optE (k.opts.getD i ⟨0, 0, 0⟩).rel (k.opts.getD i ⟨0, 0, 0⟩).lo (k.opts.getD i ⟨0, 0, 0⟩).hi) k.opts.length) := by
        show _ = _
        rw [HL.out, hC1, hC2, if_neg (by simp)]
      clear HL HJ hJ hj1 hj2 hq hr hC1 hC2 hab hcd
      generalize hS : sameS k.left k.right = S at HL2
      have hs0 := hST.out _ hS
      clear hST hS
      cases S with
      | true =>
        have HV : Hid (linkE x k = 4) := by show _ = _; rw [HL2.out]; rfl
        clear HL2
        go_wp2_with (with_reducible refine wq M ?_)
        go_ret
        rw [HV.out]
        exact ⟨rfl, M.new⟩
      | false =>
        cases hBD : (B && D) with
        | true =>
          have HV : Hid (linkE x k = 4) := by show _ = _; rw [HL2.out, hBD]; rfl
          have hb1 : B = true := by revert hBD; cases B <;> simp
          have hd1 : D = true := by revert hBD; cases D <;> simp
          subst hb1 hd1
          clear HL2 hBD
          go_wp2_with (first | (with_reducible refine wq M ?_) | (go_at_call 133; with_reducible refine (HB.out _ M.new).mono ?_; rintro e w5 ⟨rfl, hb5⟩; replace M := M.below hb5; clear hb5) | (go_at_call 133; with_reducible refine (HD.out _ M.new).mono ?_; rintro e w5 ⟨rfl, hb5⟩; replace M := M.below hb5; clear hb5))
          go_ret
          rw [HV.out]
          exact ⟨rfl, M.new⟩
        | false =>
          have HL3 : Hid (linkE x k = if k.opts.length < 1 ∨ 6 < k.opts.length then 1
              else firstN (fun i => optE (k.opts.getD i ⟨0, 0, 0⟩).rel (k.opts.getD i ⟨0, 0, 0⟩).lo (k.opts.getD i ⟨0, 0, 0⟩).hi) k.opts.length) := by
            show _ = _
            rw [HL2.out, hBD]
            rfl
          clear HL2
          have hBD := Lib.hid hBD
          go_upto_region 8 with (with_reducible (first | refine wq M ?_ | (refine wS M ?_; clear M; intro w M) | (refine wV M ?_; clear M; intro z w M) | (refine wR M ?_; clear M; intro q w M)))
          go_cut [54] (fun v wx => v = .bool false ∧ Mem (StaysB g w0) g w0 wx ⟨0, 0⟩ (own zb [.string k.left, .slice oo on ocap, .string k.right] 134 :: own za [.string x.name, .slice a1 n1 c1, .slice a2 n2 c2, .slice a3 n3 c3, .slice a4 n4 c4, .string x.etype, .slice a6 n6 c6] 60 :: []))
          case first =>
            have hbd := hBD.out
            clear hBD HL3
            cases B <;> cases D
            all_goals first
              | (exfalso; revert hbd; decide)
              | (clear hbd
                 go_wp2_with (first | (with_reducible refine wq M ?_) | (go_at_call 133; with_reducible refine (HB.out _ M.new).mono ?_; rintro e w5 ⟨rfl, hb5⟩; replace M := M.below hb5; clear hb5) | (go_at_call 133; with_reducible refine (HD.out _ M.new).mono ?_; rintro e w5 ⟨rfl, hb5⟩; replace M := M.below hb5; clear hb5))
                 go_meet
                 case rel => exact ⟨rfl, M⟩)
          case rest =>
          clear M
          obtain ⟨rfl, M⟩ := hcut
          by_cases hl : k.opts.length < 1 ∨ 6 < k.opts.length
          · have HV : Hid (linkE x k = 1) := by show _ = _; rw [HL3.out, if_pos hl]
            clear HL3
            by_cases hl1 : on < 1
            · have d1 : decide ((on : Int) < 1) = true := by simp; omega
              clear hl hl1
              go_wp2_with (with_reducible refine wq M ?_)
              go_ret
              rw [HV.out]
              exact ⟨rfl, M.new⟩
            · have d1 : decide ((on : Int) < 1) = false := by simp; omega
              have d2 : decide ((6 : Int) < on) = true := by have := NO.out; simp; omega
              clear hl hl1
              go_wp2_with (with_reducible refine wq M ?_)
              go_ret
              rw [HV.out]
              exact ⟨rfl, M.new⟩
          · have HL4 := Lib.hid (HL3.out.trans (if_neg hl))
            have d1 : decide ((on : Int) < 1) = false := by have := NO.out; simp; omega
            have d2 : decide ((6 : Int) < on) = false := by have := NO.out; simp; omega
            have HF : Hid (∀ i, i < k.opts.length → (fun i => optE (k.opts.getD i ⟨0, 0, 0⟩).rel (k.opts.getD i ⟨0, 0, 0⟩).lo (k.opts.getD i ⟨0, 0, 0⟩).hi) i = optE (k.opts.getD i ⟨0, 0, 0⟩).rel (k.opts.getD i ⟨0, 0, 0⟩).lo (k.opts.getD i ⟨0, 0, 0⟩).hi) := fun i _ => rfl
            generalize (fun i => optE (k.opts.getD i ⟨0, 0, 0⟩).rel (k.opts.getD i ⟨0, 0, 0⟩).lo (k.opts.getD i ⟨0, 0, 0⟩).hi) = f at HF HL4
            clear HL3 hl hBD
            go_wp2_with (with_reducible refine wq M ?_)
            go_loopg [68] on (fun fu i wr => ∃ j : Nat, j + fu = on ∧ i = .int .i64 j ∧ Mem (StaysB g w0) g w0 wr ⟨0, 0⟩ (own zb [.string k.left, .slice oo on ocap, .string k.right] 134 :: own za [.string x.name, .slice a1 n1 c1, .slice a2 n2 c2, .slice a3 n3 c3, .slice a4 n4 c4, .string x.etype, .slice a6 n6 c6] 60 :: []) ∧ Hid (AllZ f j))
            case atStart => exact ⟨0, by omega, rfl, M, allZ_zero _⟩
            case round =>
              clear M
              obtain ⟨j, hj, rfl, M, HZ⟩ := hrel
              by_cases hlt : j < on
              · have hkl : j < k.opts.length := by have := NO.out; omega
                obtain ⟨ca, oa, rowa, hixa, -, hrra, hwa⟩ := SlF.rowAt (P := Tryz.prog) HOO.out (plainF_firm _) Tryz.underlying132 size_opt (i := j) hkl
                have e1 : rowa = optC k.opts[j] := hrra
                subst e1
                have HR := Lib.hid (fun wx hb => (hwa wx hb).1)
                have hfj : f j = optE k.opts[j].rel k.opts[j].lo k.opts[j].hi := by rw [HF.out j hkl, List.getD_eq_getElem?_getD, List.getElem?_eq_getElem hkl]; rfl
                have HO : Hid (∀ wx, Below w0.heap.size w0 wx → Calls Tryz.prog 120 #[.agg #[.int .i64 k.opts[j].rel, .int .i64 k.opts[j].lo, .int .i64 k.opts[j].hi]] wx fun e w' => e = .returned (.int .i64 (f j)) ∧ Below wx.heap.size wx w') := fun wx hb => by rw [hfj]; exact optCheck_any _ _ _ wx
                have HV : Hid (f j ≠ 0 → linkE x k = f j) := fun h => HL4.out.trans (firstN_at HZ.out hkl h)
                have HW : Hid (f j = 0 → AllZ f (j + 1)) := fun h => allZ_succ HZ.out h
                clear hwa hrra hfj HZ
                generalize k.opts[j] = o at HR HO
                unfold optC at HR
                generalize f j = q at HO HV HW
                by_cases hq : q = 0
                · subst hq
                  have HZ2 := Lib.hid (HW.out rfl)
                  clear HV HW
                  go_wp2_with (first | (with_reducible (first | (refine wV M ?_; clear M; intro zx w M) | refine wq M ?_ | (refine wS M ?_; clear M; intro w M) | refine wA (HR.out _ M.new) ?_)) | (go_at_call 120; with_reducible refine (HO.out _ M.new).mono ?_; rintro e w5 ⟨rfl, hb5⟩; replace M := M.below hb5; clear hb5))
                  go_roundg (on - (j + 1))
                  case measure => omega
                  case rel => exact ⟨j + 1, by omega, by go_num, M.drop, HZ2⟩
                · have hqb : (q != 0) = true := by simpa using hq
                  have HE := Lib.hid (HV.out hq)
                  clear HV HW hq
                  go_wp2_with (first | (with_reducible (first | (refine wV M ?_; clear M; intro zx w M) | refine wq M ?_ | (refine wS M ?_; clear M; intro w M) | refine wA (HR.out _ M.new) ?_)) | (go_at_call 120; with_reducible refine (HO.out _ M.new).mono ?_; rintro e w5 ⟨rfl, hb5⟩; replace M := M.below hb5; clear hb5))
                  go_ret
                  rw [HE.out]
                  exact ⟨rfl, M.new⟩
              · have HE : Hid (linkE x k = 0) := by
                  have e : j = k.opts.length := by have := NO.out; omega
                  exact HL4.out.trans (firstN_zero (e ▸ HZ.out))
                go_wp2_with (with_reducible (first | refine wq M ?_ | (refine wS M ?_; clear M; intro w M) | (refine wV M ?_; clear M; intro z w M) | (refine wR M ?_; clear M; intro q w M)))
                go_ret
                rw [HE.out]
                exact ⟨rfl, M.new⟩
set_option maxRecDepth 8000 in
set_option maxHeartbeats 4000000 in
theorem summed_any (hg : g < w0.heap.size) (t : Typ) {oo : Option Addr} {k ocap : Nat} (hO : SlF F w0 2 (plainF fldC) oo k ocap t.fields) (ht : TypGood t) (fd : ByteArray) :
    Calls Tryz.prog 95 #[.agg #[.string t.name, .slice oo k ocap], .string fd] w0 fun e w' => e = .returned (.int .i64 (sumE t fd)) ∧ Below w0.heap.size w0 w' := by
  have M := Mem.begin hg ⟨0, 0⟩
  have HFD : Hid (∀ wx, Below w0.heap.size w0 wx → Calls Tryz.prog 132 #[.agg #[.string t.name, .slice oo k ocap], .string fd] wx fun e w' => e = .returned (.tuple #[.int .i64 (fieldX t.name t.fields fd), .int .i64 (fieldK t.name t.fields fd), .int .i64 (fieldE t.name t.fields fd)]) ∧ Below wx.heap.size wx w') := fun wx hbx =>
    field_any t.name oo k ocap t.fields fd wx ht.1.1 (fld_R (hO.below (plainF_firm _) hbx) ht.1.2)
  have hfe : fieldE t.name t.fields fd = if fldAt t.fields fd < t.fields.length then 0 else 6 := by unfold fieldE; rw [if_pos ht.2]
  generalize fieldX t.name t.fields fd = fx at HFD
  cases hem : emS fd with
  | true =>
    have HV : Hid (sumE t fd = 0) := by show _ = _; unfold sumE; rw [if_pos hem]
    have hf : fd.toList = [] := by simpa [emS] using hem
    clear hg hO ht HFD hem hfe
    go_enter Tryz.func95, Tryz.ntmps95
    go_wp2_with (with_reducible (refine wB (L := []) M ?_; clear M; intro za w1 M))
    go_ret
    rw [HV.out]
    exact ⟨rfl, M.new⟩
  | false =>
    have hf : fd.toList.isEmpty = false := hem
    by_cases hl : fldAt t.fields fd < t.fields.length
    · have hk : fieldK t.name t.fields fd = (t.fields.getD (fldAt t.fields fd) default).kind := by unfold fieldK; rw [hfe, if_pos hl, if_pos rfl]
      have HV : Hid (sumE t fd = if (t.fields.getD (fldAt t.fields fd) default).kind = 1 then 0 else 13) := by show _ = _; unfold sumE; rw [hem, if_neg (by simp), if_pos hl]
      rw [hfe, if_pos hl, hk] at HFD
      generalize (t.fields.getD (fldAt t.fields fd) default).kind = kd at HFD HV
      by_cases h1 : kd = 1
      · have hb : (kd != 1) = false := by simpa using h1
        have HV2 := Lib.hid (HV.out.trans (if_pos h1))
        clear hg hO ht hem hfe hl hk HV h1
        go_enter Tryz.func95, Tryz.ntmps95
        go_wp2_with (first | (with_reducible (first | (refine wB (L := []) M ?_; clear M; intro za w1 M) | refine wq M ?_)) | (go_at_call 132; with_reducible refine (HFD.out _ M.new).mono ?_; rintro e w5 ⟨rfl, hb5⟩; replace M := M.below hb5; clear hb5))
        go_ret
        rw [HV2.out]
        exact ⟨rfl, M.new⟩
      · have hb : (kd != 1) = true := by simpa using h1
        have HV2 := Lib.hid (HV.out.trans (if_neg h1))
        clear hg hO ht hem hfe hl hk HV h1
        go_enter Tryz.func95, Tryz.ntmps95
        go_wp2_with (first | (with_reducible (first | (refine wB (L := []) M ?_; clear M; intro za w1 M) | refine wq M ?_)) | (go_at_call 132; with_reducible refine (HFD.out _ M.new).mono ?_; rintro e w5 ⟨rfl, hb5⟩; replace M := M.below hb5; clear hb5))
        go_ret
        rw [HV2.out]
        exact ⟨rfl, M.new⟩
    · have HV : Hid (sumE t fd = 6) := by show _ = _; unfold sumE; rw [hem, if_neg (by simp), if_neg hl]
      rw [hfe, if_neg hl] at HFD
      generalize fieldK t.name t.fields fd = kd at HFD
      clear hg hO ht hem hfe hl
      go_enter Tryz.func95, Tryz.ntmps95
      go_wp2_with (first | (with_reducible (first | (refine wB (L := []) M ?_; clear M; intro za w1 M) | refine wq M ?_)) | (go_at_call 132; with_reducible refine (HFD.out _ M.new).mono ?_; rintro e w5 ⟨rfl, hb5⟩; replace M := M.below hb5; clear hb5))
      go_ret
      rw [HV.out]
      exact ⟨rfl, M.new⟩
end
end Go.Proofs.YtfahleafppfkaaaGreatDoor
/-
  The walks of the program's Check, seventh part: what is emitted. Printed by pgg.py.
-/
namespace Go.Proofs.YtfahleafppfkaaaGreatDoor
open Go.RowKit
set_option linter.unusedVariables false
set_option linter.unusedSimpArgs false
section
variable {g:Nat} {F G:Nat→Prop} {ao:Option Addr} {n cap:Nat} {a6:Option Addr} {n6 c6:Nat} {w0:World} {ts:List Typ} {zs zk nk:Nat} {f:MapF}
set_option maxRecDepth 8000 in
set_option maxHeartbeats 8000000 in
theorem emit_any(hg:g<w0.heap.size)(x:Rul)(hS:Scope F w0 zs zk nk f ts x.whens ao n cap)(hts: ∀ t∈ts,TypGood t)(X6:SlF G w0 6 opdF a6 n6 c6 x.evals)(hev: ∀ o∈x.evals,OpdFit o):
  Calls Tryz.prog 97 #[.pointer (some ⟨zs,0,none⟩),.agg #[.string x.etype,.slice a6 n6 c6]] w0 fun e w' =>e= .returned (.int .i64 (emitE ts x))∧Below w0.heap.size w0 w' :=by
 have M:=Mem.begin hg ⟨0,0⟩
 have hle6:=X6.le
 have N6:=Lib.hid X6.len
 have HTY0: ∀ wx,Below w0.heap.size w0 wx→Calls Tryz.prog 128 #[.pointer (some ⟨zs,0,none⟩),.string x.etype] wx (TypdPost F ts x.etype w0 wx):=fun wx hb=>typed_any (Same.below hb) (Nat.lt_of_lt_of_le hg hb.size) hS.types zs (Nat.lt_of_lt_of_le hS.lt hb.size) (hS.below hb).c0 x.etype
 cases h1:emS x.etype with
 |true=>
  have he0:x.etype.toList=[]:=by simpa[emS]using h1
  have HV:Hid (emitE ts x=if x.evals.length=0 then 0 else 4):=by show _=_;unfold emitE;rw[if_pos h1]
  by_cases h0:x.evals.length=0
  ·have hn:(n6:Int)=0:=by have:=N6.out;omega
   replace HV:=Lib.hid (HV.out.trans (if_pos h0))
   clear hg hS hts hev X6 h0 HTY0 h1
   go_enter Tryz.func97,Tryz.ntmps97
   go_wp2_with (with_reducible (first|(refine wB (L:=[]) M ?_;clear M;intro za w1 M)|refine wq M ?_))
   go_ret
   rw[HV.out]
   exact⟨rfl,M.new⟩
  ·have hn:(0:Int)<n6:=by have:=N6.out;omega
   replace HV:=Lib.hid (HV.out.trans (if_neg h0))
   clear hg hS hts hev X6 h0 HTY0 h1
   go_enter Tryz.func97,Tryz.ntmps97
   go_wp2_with (with_reducible (first|(refine wB (L:=[]) M ?_;clear M;intro za w1 M)|refine wq M ?_))
   go_ret
   rw[HV.out]
   exact⟨rfl,M.new⟩
 |false=>
  have he0:x.etype.toList.isEmpty=false:=h1
  by_cases h2:typI ts x.etype<ts.length
  ·have hTT:typAt ts x.etype=ts[typI ts x.etype]:=by unfold typAt;rw[List.getD_eq_getElem?_getD,List.getElem?_eq_getElem h2];rfl
   have hgo:TypGood (typAt ts x.etype):=by rw[hTT];exact hts _ (List.getElem_mem h2)
   have HTY:Hid (∀ wx,Below w0.heap.size w0 wx→Calls Tryz.prog 128 #[.pointer (some ⟨zs,0,none⟩),.string x.etype] wx fun e w' => ∃ a nn c,e= .returned (.tuple #[.agg #[.string (typAt ts x.etype).name,.slice a nn c],.int .i64 0])∧Below wx.heap.size wx w' ∧SlF F w0 2 (plainF fldC) a nn c (typAt ts x.etype).fields):=fun wx hb=>
    (HTY0 wx hb).mono (by rintro e w' ⟨tn,a,nn,c,rfl,hb,h⟩;exact⟨a,nn,c,by rw[if_pos h2,(h h2).1],hb,(h h2).2⟩)
   by_cases h3:x.evals.length=(typAt ts x.etype).fields.length
   ·have HV:Hid (emitE ts x=firstN (fun i=>emitG ts x.whens (typAt ts x.etype) (x.evals.getD i opd0) ((typAt ts x.etype).fields.getD i default).kind) x.evals.length):=by show _=_;unfold emitE;rw[h1,if_neg (by simp),if_neg (by omega),if_neg (by omega)];rfl
    have HNE:Hid (∀ m:Nat,m=(typAt ts x.etype).fields.length→((n6:Int)!=m)=false):=fun m hm=>by have:=N6.out;simp;omega
    have HSD:Hid (∀ ta tnn tc,SlF F w0 2 (plainF fldC) ta tnn tc (typAt ts x.etype).fields→ ∀ o∈x.evals,∀ wx,Below w0.heap.size w0 wx→Calls Tryz.prog 134 #[.pointer (some ⟨zs,0,none⟩),.agg (opdC o).toArray,.agg #[.string (typAt ts x.etype).name,.slice ta tnn tc]] wx (SidePost ts x.whens (typAt ts x.etype) o wx)):=fun ta tnn tc hfl o ho wx hb=>
     side_any (Nat.lt_of_lt_of_le hg hb.size) o (hev o ho).1 (hev o ho).2 (hS.below hb) hts (hfl.below (plainF_firm _) hb) hgo
    have HF:Hid (∀ i,i<x.evals.length→(fun i=>emitG ts x.whens (typAt ts x.etype) (x.evals.getD i opd0) ((typAt ts x.etype).fields.getD i default).kind) i=emitG ts x.whens (typAt ts x.etype) (x.evals.getD i opd0) ((typAt ts x.etype).fields.getD i default).kind):=fun i _=>rfl
    generalize (fun i=>emitG ts x.whens (typAt ts x.etype) (x.evals.getD i opd0) ((typAt ts x.etype).fields.getD i default).kind)=fe at HF HV
    have h3:=Lib.hid h3
    have XV:=Lib.hid X6
    clear hg hS hts hev X6 HTY0 h1 h2 hTT hgo
    go_enter Tryz.func97,Tryz.ntmps97
    go_wp2_with (first|(with_reducible (first|(refine wB (L:=[]) M ?_;clear M;intro za w1 M)|(refine wV M ?_;clear M;intro zt w M)|refine wq M ?_|(refine wS M ?_;clear M;intro w M)))|(go_at_call 128;with_reducible refine(HTY.out _ M.new).mono ?_;rintro e w5 ⟨ta,tnn,tc,rfl,hb5,hfl⟩;replace M:=M.below hb5;clear hb5;have hne:=HNE.out tnn hfl.len;have HTF:=Lib.hid hfl;clear hfl))
    go_loopg [38] n6 (fun fu i wr=> ∃ j:Nat,j+fu=n6∧i= .int .i64 j∧Mem (StaysB g w0) g w0 wr ⟨0,0⟩ (own zt [.string (typAt ts x.etype).name,.slice ta tnn tc] 69::own za [.string x.etype,.slice a6 n6 c6] 58::[])∧Hid (AllZ fe j))
    case atStart=>exact⟨0,by omega,rfl,M,allZ_zero _⟩
    case round=>
     clear M
     obtain⟨j,hj,rfl,M,HZ⟩:=hrel
     by_cases hlt:j<n6
     ·have hkl:j<x.evals.length:=by have:=N6.out;omega
      have hkt:j<(typAt ts x.etype).fields.length:=by have:=h3.out;omega
      obtain⟨ca,oa,rowa,hixa, -,hrra,hwa⟩:=SlF.rowAt (P:=Tryz.prog) XV.out (plainF_firm _) Tryz.underlying56 size_opd (i:=j) hkl
      have e1:rowa=opdC x.evals[j]:=hrra
      subst e1
      obtain⟨cf,of,rowf,hixf, -,hrrf,hwf⟩:=SlF.rowAt (P:=Tryz.prog) HTF.out (plainF_firm _) Tryz.underlying67 size_fld (i:=j) hkt
      have e2:rowf=fldC (typAt ts x.etype).fields[j]:=hrrf
      subst e2
      have HR:=Lib.hid (fun wx hb=>(hwa wx hb).1)
      have HFK:Hid (∀ wx,Below w0.heap.size w0 wx→wx.cell? ⟨cf,of+1,none⟩=some (.int .i64 (typAt ts x.etype).fields[j].kind)):=fun wx hb=>(hwf wx hb).1 1 _ rfl
      have hfj:fe j=emitG ts x.whens (typAt ts x.etype) x.evals[j] (typAt ts x.etype).fields[j].kind:=by
       rw[HF.out j hkl,List.getD_eq_getElem?_getD,List.getElem?_eq_getElem hkl,List.getD_eq_getElem?_getD,List.getElem?_eq_getElem hkt];rfl
      have HVj:Hid (fe j≠0→emitE ts x=fe j):=fun h=>HV.out.trans (firstN_at HZ.out hkl h)
      have HW:Hid (fe j=0→AllZ fe (j+1)):=fun h=>allZ_succ HZ.out h
      have HSo:=Lib.hid (HSD.out ta tnn tc HTF.out x.evals[j] (List.getElem_mem hkl))
      have hjt:(j:Int)<tnn:=by have:=HTF.out.len;omega
      clear hwa hrra hwf hrrf HZ
      generalize x.evals[j]=o at HR HSo hfj
      generalize (typAt ts x.etype).fields[j].kind=fk at HFK hfj
      unfold opdC at HR HSo
      unfold SidePost at HSo
      unfold emitG at hfj
      by_cases hk2:o.kind=2
      ·rw[if_pos hk2]at hfj
       rw[hk2]at HR
       have HE:Hid (emitE ts x=4):=by show _=_;rw[←hfj];exact HVj.out (by rw[hfj];decide)
       clear HVj HW hfj hk2 HSo
       go_wp2_with (with_reducible (first|(refine wV M ?_;clear M;intro zx w M)|refine wq M ?_|(refine wS M ?_;clear M;intro w M)|refine wA (HR.out _ M.new) ?_))
       go_ret
       rw[HE.out]
       exact⟨rfl,M.new⟩
      ·rw[if_neg hk2]at hfj
       have hkb:(o.kind==2)=false:=by simpa using hk2
       generalize sideE ts x.whens (typAt ts x.etype) o=se at HSo hfj
       generalize sideK ts x.whens (typAt ts x.etype) o=sk at HSo hfj
       generalize o.kind=ok at HR HSo hkb hk2
       by_cases hse:se=0
       ·subst hse
        rw[if_neg (by simp)]at hfj
        simp only[true_implies]at HSo
        by_cases hkk2:sk=fk
        ·subst hkk2
         rw[if_pos rfl]at hfj
         have HZ2:=Lib.hid (HW.out hfj)
         clear HVj HW hfj hk2
         go_wp2_with (first|(with_reducible (first|(refine wV M ?_;clear M;intro zx w M)|refine wq M ?_|(refine wS M ?_;clear M;intro w M)|refine wA (HR.out _ M.new) ?_|refine wC (HFK.out _ M.new) ?_))|(go_at_call 134;with_reducible refine(HSo.out _ M.new).mono ?_;rintro e w5 ⟨kk,rfl,hb5,hkk⟩;replace hkk:=hkk.symm;subst hkk;replace M:=M.below hb5;clear hb5))
         go_roundg (n6 - (j+1))
         case measure=>omega
         case rel=>exact⟨j+1,by omega,by go_num,M.drop,HZ2⟩
        ·rw[if_neg hkk2]at hfj
         have hkc:(sk !=fk)=true:=by simpa using hkk2
         have HE:Hid (emitE ts x=13):=by show _=_;rw[←hfj];exact HVj.out (by rw[hfj];decide)
         clear HVj HW hfj hk2 hkk2
         go_wp2_with (first|(with_reducible (first|(refine wV M ?_;clear M;intro zx w M)|refine wq M ?_|(refine wS M ?_;clear M;intro w M)|refine wA (HR.out _ M.new) ?_|refine wC (HFK.out _ M.new) ?_))|(go_at_call 134;with_reducible refine(HSo.out _ M.new).mono ?_;rintro e w5 ⟨kk,rfl,hb5,hkk⟩;replace hkk:=hkk.symm;subst hkk;replace M:=M.below hb5;clear hb5))
         go_ret
         rw[HE.out]
         exact⟨rfl,M.new⟩
       ·rw[if_pos hse]at hfj
        have hs2:(se !=0)=true:=by simpa using hse
        have HE:Hid (emitE ts x=se):=by show _=_;rw[←hfj];exact HVj.out (by rw[hfj];exact hse)
        clear HVj HW hfj hk2 hse
        go_wp2_with (first|(with_reducible (first|(refine wV M ?_;clear M;intro zx w M)|refine wq M ?_|(refine wS M ?_;clear M;intro w M)|refine wA (HR.out _ M.new) ?_))|(go_at_call 134;with_reducible refine(HSo.out _ M.new).mono ?_;rintro e w5 ⟨kk,rfl,hb5, -⟩;replace M:=M.below hb5;clear hb5))
        go_ret
        rw[HE.out]
        exact⟨rfl,M.new⟩
     ·have HE:Hid (emitE ts x=0):=by
       have e:j=x.evals.length:=by have:=N6.out;omega
       exact HV.out.trans (firstN_zero (e▸HZ.out))
      go_wp2_with (with_reducible (first|refine wq M ?_|(refine wS M ?_;clear M;intro w M)|(refine wV M ?_;clear M;intro z w M)|(refine wR M ?_;clear M;intro q w M)))
      go_ret
      rw[HE.out]
      exact⟨rfl,M.new⟩
   ·have HV:Hid (emitE ts x=13):=by show _=_;unfold emitE;rw[h1,if_neg (by simp),if_neg (by omega),if_pos h3]
    have HNE:Hid (∀ m:Nat,m=(typAt ts x.etype).fields.length→((n6:Int)!=m)=true):=fun m hm=>by have:=N6.out;simp;omega
    clear hg hS hts hev X6 HTY0 h1 h2 hTT hgo h3
    go_enter Tryz.func97,Tryz.ntmps97
    go_wp2_with (first|(with_reducible (first|(refine wB (L:=[]) M ?_;clear M;intro za w1 M)|(refine wV M ?_;clear M;intro zt w M)|refine wq M ?_|(refine wS M ?_;clear M;intro w M)))|(go_at_call 128;with_reducible refine(HTY.out _ M.new).mono ?_;rintro e w5 ⟨ta,tnn,tc,rfl,hb5,hfl⟩;replace M:=M.below hb5;clear hb5;have hne:=HNE.out tnn hfl.len;have HTF:=Lib.hid hfl;clear hfl))
    go_ret
    rw[HV.out]
    exact⟨rfl,M.new⟩
  ·have HV:Hid (emitE ts x=6):=by show _=_;unfold emitE;rw[h1,if_neg (by simp),if_pos (by omega)]
   have HTY:Hid (∀ wx,Below w0.heap.size w0 wx→Calls Tryz.prog 128 #[.pointer (some ⟨zs,0,none⟩),.string x.etype] wx fun e w' => ∃ tn a nn c,e= .returned (.tuple #[.agg #[.string tn,.slice a nn c],.int .i64 6])∧Below wx.heap.size wx w'):=fun wx hb=>
    (HTY0 wx hb).mono (by rintro e w' ⟨tn,a,nn,c,rfl,hb,h⟩;exact⟨tn,a,nn,c,by rw[if_neg h2],hb⟩)
   clear hg hS hts hev X6 HTY0 h1 h2
   go_enter Tryz.func97,Tryz.ntmps97
   go_wp2_with (first|(with_reducible (first|(refine wB (L:=[]) M ?_;clear M;intro za w1 M)|(refine wV M ?_;clear M;intro zt w M)|refine wq M ?_|(refine wS M ?_;clear M;intro w M)))|(go_at_call 128;with_reducible refine(HTY.out _ M.new).mono ?_;rintro e w5 ⟨tn,ta,tnn,tc,rfl,hb5⟩;replace M:=M.below hb5;clear hb5))
   go_ret
   rw[HV.out]
   exact⟨rfl,M.new⟩
end
end Go.Proofs.YtfahleafppfkaaaGreatDoor
/-
  The program's Check, eighth part: what a scope holds, what names are taken, in plain Lean; slices of numbers made.
-/
namespace Go.Proofs.YtfahleafppfkaaaGreatDoor
open Go.RowKit
set_option linter.unusedVariables false
set_option linter.unusedSimpArgs false
theorem sameS_self(a:ByteArray):sameS a a=true:=by unfold sameS;simp
theorem toList_data: ∀ (a:ByteArray),a.toList=a.data.toList:=fun a=>ByteArray.toList_eq a
theorem sameS_eq{a b:ByteArray}(h:sameS a b=true):a=b:=by
 unfold sameS at h
 have e:a.toList=b.toList:=by simpa using h
 rw[toList_data,toList_data]at e
 exact data_inj e
def TakF(f:MapF)(al:List ByteArray):Prop:= ∀ s:ByteArray,f s=if inS al s=true then some (.bool true)else none
theorem takF_none:TakF noneF []:=fun s=>rfl
theorem inS_snoc(al:List ByteArray)(v s:ByteArray):inS (al++[v]) s=(inS al s||sameS v s):=by unfold inS;simp
theorem TakF.snoc{f:MapF}{al:List ByteArray}(h:TakF f al)(v:ByteArray):TakF (putF f v (.bool true)) (al++[v]):=fun s=>by
 unfold putF
 rw[inS_snoc]
 by_cases e:s=v
 ·subst e
  rw[if_pos rfl,sameS_self]
  simp
 ·have hn:sameS v s=false:=by
   cases hq:sameS v s with
   |false=>rfl
   |true=>exact absurd (sameS_eq hq).symm e
  rw[if_neg e,h s,hn]
  simp
structure KnownF (F:Nat→Prop) (w0:World) (f:MapF) (ts:List Typ) (known:List Pat):Prop where
 has: ∀ s:ByteArray,patI known s<known.length→ ∃ cs,f s=some (.agg cs.toArray)∧TypAs F w0 (typAt ts (known.getD (patI known s) pat0).type) cs
 hasnt: ∀ s:ByteArray,¬ patI known s<known.length→f s=none
theorem knownF_none(F:Nat→Prop)(w0:World)(ts:List Typ):KnownF F w0 noneF ts []:=⟨fun s h=>absurd h (Nat.not_lt_zero _),fun s _=>rfl⟩
theorem patI_snoc(l:List Pat)(p:Pat)(s:ByteArray):patI (l++[p]) s=if patI l s<l.length then patI l s else if sameS p.var s=true then l.length else l.length+1:=by
 unfold patI
 rw[List.findIdx_append]
 by_cases h:List.findIdx (fun q=>sameS q.var s) l<l.length
 ·rw[if_pos h,if_pos h]
 ·rw[if_neg h,if_neg h,List.findIdx_singleton]
  cases sameS p.var s<;>simp[Nat.add_comm]
theorem inS_vars(l:List Pat)(s:ByteArray):inS (vars l) s=decide (patI l s<l.length):=by
 unfold inS vars patI
 rw[List.any_map,Bool.eq_iff_iff,decide_eq_true_iff,List.findIdx_lt_length,List.any_eq_true]
 rfl
theorem KnownF.snoc{F:Nat→Prop}{w0:World}{f:MapF}{ts:List Typ}{known:List Pat}(h:KnownF F w0 f ts known)(p:Pat)(hp:inS (vars known) p.var=false){cs:List Value}(hc:TypAs F w0 (typAt ts p.type) cs):KnownF F w0 (putF f p.var (.agg cs.toArray)) ts (known++[p]) where
 has:=fun s hs=>by
  unfold putF
  by_cases e:s=p.var
  ·subst e
   rw[if_pos rfl]
   have hn: ¬ patI known p.var<known.length:=by rw[inS_vars]at hp;simpa using hp
   refine⟨cs,rfl,?_⟩
   rw[patI_snoc,if_neg hn,sameS_self,if_pos rfl]
   rw[List.getD_eq_getElem?_getD,List.getElem?_append_right (Nat.le_refl _)]
   simpa using hc
  ·rw[if_neg e]
   have hk:patI known s<known.length:=by
    apply Classical.byContradiction
    intro hn
    rw[patI_snoc,if_neg hn,if_neg (fun h2=>e (sameS_eq h2).symm)]at hs
    simp at hs
   obtain⟨cs',h1,h2⟩:=h.has s hk
   refine⟨cs',h1,?_⟩
   rw[patI_snoc,if_pos hk,List.getD_eq_getElem?_getD,List.getElem?_append_left hk]
   rw[List.getD_eq_getElem?_getD]at h2
   exact h2
 hasnt:=fun s hs=>by
  unfold putF
  have hk: ¬ patI known s<known.length:=fun hk=>hs (by rw[patI_snoc,if_pos hk,List.length_append];omega)
  have e:s≠p.var:=fun e=>hs (by subst e;rw[patI_snoc,if_neg hk,sameS_self,if_pos rfl,List.length_append];simp)
  rw[if_neg e]
  exact h.hasnt s hk
theorem SlF.back{α:Type}{F:Nat→Prop}{w w0:World}{k:Nat}{c:α→List Value}{ao:Option Addr}{n cap:Nat}{xs:List α}(h:SlF F w k (plainF c) ao n cap xs)(hF: ∀ b,F b→b<w0.heap.size∧w0.heap[b]?=w.heap[b]?):SlF F w0 k (plainF c) ao n cap xs:=by
 obtain⟨h1,h2,h3,h5,h4⟩:=h
 refine⟨h1,h2,h3,h5,fun i hi=>?_⟩
 obtain⟨b,off,row,e,hFb,hlt,hr,hR⟩:=h4 i hi
 exact⟨b,off,row,e,hFb,(hF b hFb).1,rowAt_same hr (hF b hFb).2,hR⟩
theorem pat_fresh{ts:List Typ}{known:List Pat}{ahead:List ByteArray}{p:Pat}{part:Nat}(h:patE ts known ahead p part=0):inS ahead p.var=false:=by
 unfold patE at h
 by_cases h0:freeE p.var≠0
 ·rw[if_pos h0]at h;exact absurd h h0
 ·rw[if_neg h0]at h
  by_cases h1:inS ahead p.var=true
  ·rw[if_pos h1]at h;exact absurd h (by decide)
  ·simpa using h1
theorem inS_app(a b:List ByteArray)(s:ByteArray):inS (a++b) s=(inS a s||inS b s):=by unfold inS;simp
theorem apart_of{ts:List Typ}{x:Rul}(h:AllZ (notE ts x) x.nots.length):Apart x:=fun nm hw=>by
 unfold hasP at hw ⊢
 have hw' :inS (vars x.whens) nm=true:=by rw[inS_vars];exact hw
 rw[←inS_vars]
 apply Classical.byContradiction
 intro hn
 have hn' :inS (vars x.nots) nm=true:=by simpa using hn
 unfold inS vars at hn'
 rw[List.any_map,List.any_eq_true]at hn'
 obtain⟨p,hp,hs⟩:=hn'
 obtain⟨i,hi,rfl⟩:=List.mem_iff_getElem.1 hp
 have hz:=h i hi
 unfold notE at hz
 have hf:=pat_fresh hz
 rw[List.getD_eq_getElem?_getD,List.getElem?_eq_getElem hi,inS_app]at hf
 have e:=sameS_eq (show sameS x.nots[i].var nm=true from hs)
 have hf' :inS (vars x.whens) x.nots[i].var=false:=by
  have:=(Bool.or_eq_false_iff.1 hf).1
  exact this
 rw[e,hw']at hf'
 cases hf'
section
variable {P:Program} {o:Oper} {a:Act} {Q:Exit→Act→World→Prop} {K:Act→World→Prop}
variable {At:PS→World→Prop} {b:Nat} {u w:World} {s:PS} {L:List Ent}
theorem op_buildN(M:Mem At b u w s L){t e:Nat}(hT:RowT P t e 1)(n:Nat)(ps:Array (Nat×Operand))(ho:o.op= .buildSlice t n ps)(hn:0<n∧n≤100)(cs:List Value)(hf: ∀ init:Array Value,init.size=n→Instr.fill (fun i=>some (i*1,1)) init (ps.toList.map fun x=>(x.1,a.eval x.2))=some cs.toArray)
  (h: ∀ q w',Mem At b u w' s (own q cs e::L)→K (a.put o.dst (.slice (some ⟨q,0,none⟩) n n)) w'):o.wp P a w K Q:=by
 obtain⟨hu,ie,z,hie,hz,hsz,hzs,hpos,hsmall, -, -⟩:=hT.open
 have hf2:=hf ((Array.range (n*ie.size)).map (z.cells[· % z.cells.size]!)) (by simp[hsz])
 have hlow: ∀ y,(own w.heap.size cs e).blk=some y→w.heap.size≤y∧y<(w.alloc (.cells cs.toArray e)).heap.size:=fun y hy=>by
  have e:w.heap.size=y:=by injection hy
  subst e
  simp
 exact wp_buildSlice t e n ps ho cs.toArray ie z hu hie hz (by rw[hsz];omega) (by rw[hsz];omega) (by rw[hsz]at hf2 ⊢;simpa using hf2) (h w.heap.size _ (M.push (Joins.below_alloc1 w _) (own_firm _ _ _) hlow (fun G _=>heap_alloc_new w _)))
end
section
variable {P:Program} {dst:Option Tmp} {oty:TypeId} {pos:String} {after:Array Edge} {g:Option (Nat×Bool)} {l:List Value} {ds:List Deferred} {Q:Exit→Act→World→Prop} {K:Act→World→Prop}
variable {At:PS→World→Prop} {b:Nat} {u w:World} {s:PS} {L:List Ent} {ty:Nat}
theorem q_one(M:Mem At b u w s L){e:Nat}{k:Int}[hT:RowI P ty e 1]{F:Nat→List Value}[hd: ∀ q,PutI l dst (.slice (some ⟨q,0,none⟩) 1 1) (F q)](h: ∀ q w',Mem At b u w' s (own q [.int .i64 k] e::L)→K ⟨(F q).toArray,ds⟩ w'):OWP P ⟨dst,.buildSlice ty 1 #[(0,.const (.int .i64 k))],oty,pos,after,g⟩ ⟨l.toArray,ds⟩ w K Q:=
 owp_of (op_buildN M hT.row 1 _ rfl (by omega) [.int .i64 k] (fun init hi=>by
  obtain⟨⟨xs⟩⟩: ∃ y:Array Value,y=init:=⟨init,rfl⟩
  cases init with
  |mk l0=>
   rcases l0 with _|⟨x0,_|⟨x1,l2⟩⟩<;>simp at hi
   simp[Instr.fill,Act.eval,Value.cells]) (fun q w' M' =>by rw[(hd q).put];exact h q w' M'))
theorem q_three(M:Mem At b u w s L){e:Nat}{k1 k2 k3:Int}[hT:RowI P ty e 1]{F:Nat→List Value}[hd: ∀ q,PutI l dst (.slice (some ⟨q,0,none⟩) 3 3) (F q)](h: ∀ q w',Mem At b u w' s (own q [.int .i64 k1,.int .i64 k2,.int .i64 k3] e::L)→K ⟨(F q).toArray,ds⟩ w'):OWP P ⟨dst,.buildSlice ty 3 #[(0,.const (.int .i64 k1)),(1,.const (.int .i64 k2)),(2,.const (.int .i64 k3))],oty,pos,after,g⟩ ⟨l.toArray,ds⟩ w K Q:=
 owp_of (op_buildN M hT.row 3 _ rfl (by omega) [.int .i64 k1,.int .i64 k2,.int .i64 k3] (fun init hi=>by
  cases init with
  |mk l0=>
   rcases l0 with _|⟨x0,_|⟨x1,_|⟨x2,_|⟨x3,l4⟩⟩⟩⟩<;>simp at hi
   simp[Instr.fill,Act.eval,Value.cells]) (fun q w' M' =>by rw[(hd q).put];exact h q w' M'))
end
instance :RowI Tryz.prog 36 3 1:=⟨⟨Tryz.underlying36,⟨.int .i64 0,by kernel_rfl,rfl⟩,by kernel_rfl,by kernel_rfl,by omega,by omega⟩⟩
end Go.Proofs.YtfahleafppfkaaaGreatDoor
