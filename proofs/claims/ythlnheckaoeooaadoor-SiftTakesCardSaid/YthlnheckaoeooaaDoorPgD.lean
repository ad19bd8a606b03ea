/-
  The walks of the program's Check, fourth part: windows; no condition. Printed by pgd.py.
-/
import Derived.Test.YthlnheckaoeooaaDoorPgC
namespace Go.Proofs.YthlnheckaoeooaaDoor
open Go.RowKit
set_option linter.unusedVariables false
set_option linter.unusedSimpArgs false

/-- A window: of one of these kinds. -/
def winK (l : List Int) (p : Pat) : Int :=
  if l.any (fun k => p.window == k) = false ∨ (p.window = 0 ∧ p.n ≠ 0) then 4
  else if (p.window = 1 ∧ ¬ (0 ≤ p.n ∧ p.n ≤ 1073741824)) ∨ (p.window = 2 ∧ ¬ (1 ≤ p.n ∧ p.n ≤ 120)) then 2 else 0
def winL : Nat → List Int
  | 0 => [0, 1, 2]
  | 1 => [0]
  | _ => [1]
theorem winK_eq (part : Nat) (hp : part ≤ 2) (p : Pat) : winK (winL part) p = winE part p := by
  have h1 : ((winL part).any (fun k => p.window == k) = false ∨ (p.window = 0 ∧ p.n ≠ 0)) ↔ ((part = 0 ∧ ¬ (0 ≤ p.window ∧ p.window ≤ 2)) ∨ (part = 1 ∧ p.window ≠ 0) ∨ (part = 2 ∧ p.window ≠ 1) ∨ (p.window = 0 ∧ p.n ≠ 0)) := by
    rcases (by omega : part = 0 ∨ part = 1 ∨ part = 2) with rfl | rfl | rfl <;> simp [winL] <;> omega
  unfold winK winE
  by_cases h : (winL part).any (fun k => p.window == k) = false ∨ (p.window = 0 ∧ p.n ≠ 0)
  · rw [if_pos h, if_pos (h1.1 h)]
  · rw [if_neg h, if_neg (fun h2 => h (h1.2 h2))]
def intC (k : Int) : List Value := [.int .i64 k]
theorem size_int : SizeIs Tryd.prog 3 1 := fun w => by kernel_rfl
section
variable {g : Nat} {F H S : Nat → Prop} {ao : Option Addr} {n cap : Nat} {ko : Option Addr} {kn kcap : Nat} {so : Option Addr} {sn scap : Nat} {w0 : World} {ts : List Typ} {known : List Pat} {zs zk nk : Nat} {f : MapF}
set_option maxRecDepth 8000 in
set_option maxHeartbeats 8000000 in
theorem window_any (hg : g < w0.heap.size) (p : Pat) (l : List Int) (hK : SlF H w0 1 (plainF intC) ko kn kcap l) :
    Calls Tryd.prog 81 #[.agg (pat18 p so sn scap).toArray, .slice ko kn kcap] w0 fun e w' => e = .returned (.int .i64 (winK l p)) ∧ Below w0.heap.size w0 w' := by
  have M := Mem.begin hg ⟨0, 0⟩
  have hle := hK.le
  have NL := Lib.hid hK.len
  have HK := Lib.hid hK
  have HD : Hid (winK l p = winK l p) := rfl
  unfold pat18
  clear hg hK
  go_enter Tryd.func81, Tryd.ntmps81
  go_wp2_with (first | (with_reducible (first | (refine wB (L := []) M ?_; clear M; intro za w1 M) | refine wl M ?_ | refine wlg M ?_ | (refine ws M ?_; clear M; intro w M) | (refine wsc M ?_; clear M; intro w M) | (refine wV M ?_; clear M; intro z w M) | (refine wR M ?_; clear M; intro q w M) | refine o_skipT ?_ | refine o_skipF ?_)))
  go_loopg [5, 10] kn (fun fu b i wr => ∃ (j : Nat), j + fu = kn ∧ b = .bool ((l.take j).any (fun k => p.window == k)) ∧ i = .int .i64 j ∧ Mem (StaysB g w0) g w0 wr ⟨0, 0⟩ (own za [.string p.var, .string p.type, .int .i64 p.wher.kind, .slice so sn scap, .int .i64 p.wher.left.kind, .int .i64 p.wher.left.vkind, .int .i64 p.wher.left.vint, .string p.wher.left.vtext, .string p.wher.left.var, .string p.wher.left.field, .int .i64 p.wher.right.kind, .int .i64 p.wher.right.vkind, .int .i64 p.wher.right.vint, .string p.wher.right.vtext, .string p.wher.right.var, .string p.wher.right.field, .int .i64 p.window, .int .i64 p.n] 50 :: []))
  case atStart => exact ⟨0, by omega, rfl, rfl, M⟩
  case round =>
    clear M
    obtain ⟨j, hj, rfl, rfl, M⟩ := hrel
    by_cases hlt : j < kn
    · have hkl : j < l.length := by have := NL.out; omega
      obtain ⟨ca, oa, rowa, hixa, -, hrra, hwa⟩ := SlF.rowAt (P := Tryd.prog) HK.out (plainF_firm _) Tryd.underlying145 size_int (i := j) hkl
      have e1 : rowa = intC l[j] := hrra
      subst e1
      have HI0 : Hid (∀ wx, Below w0.heap.size w0 wx → wx.cell? ⟨ca, oa, none⟩ = some (.int .i64 l[j])) := fun wx hb => (hwa wx hb).1 0 _ rfl
      have HS : Hid ((l.take (j + 1)).any (fun k => p.window == k) = ((l.take j).any (fun k => p.window == k) || (p.window == l[j]))) := by
        show _ = _
        rw [List.take_add_one, List.getElem?_eq_getElem hkl, List.any_append]
        simp
      clear hwa hrra
      generalize l[j] = kj at HI0 HS
      generalize (l.take j).any (fun k => p.window == k) = b0 at HS ⊢
      cases b0 with
      | true =>
        go_wp2_with (first | (with_reducible (first | refine wl M ?_ | refine wlg M ?_ | (refine ws M ?_; clear M; intro w M) | (refine wsc M ?_; clear M; intro w M) | (refine wV M ?_; clear M; intro z w M) | (refine wR M ?_; clear M; intro q w M) | refine o_skipT ?_ | refine o_skipF ?_ | refine wC (HI0.out _ M.new) ?_)))
        go_roundg (kn - (j + 1))
        case measure => omega
        case rel => exact ⟨j + 1, by omega, by rw [HS.out]; rfl, by go_num, M⟩
      | false =>
        go_wp2_with (first | (with_reducible (first | refine wl M ?_ | refine wlg M ?_ | (refine ws M ?_; clear M; intro w M) | (refine wsc M ?_; clear M; intro w M) | (refine wV M ?_; clear M; intro z w M) | (refine wR M ?_; clear M; intro q w M) | refine o_skipT ?_ | refine o_skipF ?_ | refine wC (HI0.out _ M.new) ?_)))
        all_goals
          go_roundg (kn - (j + 1))
          case measure => omega
          case rel => exact ⟨j + 1, by omega, by rw [HS.out]; simp [*], by go_num, M⟩
    · have hal : (l.take j).any (fun k => p.window == k) = l.any (fun k => p.window == k) := by rw [List.take_of_length_le (by have := NL.out; omega)]
      have HV : Hid (winK l p = (if l.any (fun k => p.window == k) = false ∨ (p.window = 0 ∧ p.n ≠ 0) then 4 else if (p.window = 1 ∧ ¬ (0 ≤ p.n ∧ p.n ≤ 1073741824)) ∨ (p.window = 2 ∧ ¬ (1 ≤ p.n ∧ p.n ≤ 120)) then (2 : Int) else 0)) := rfl
      rw [hal]
      generalize l.any (fun k => p.window == k) = b0 at HV ⊢
      generalize p.window = pw at M HV ⊢
      generalize p.n = pn at M HV ⊢
      clear HD hal
      cases b0 with
      | false =>
        replace HV := Lib.hid (HV.out.trans (if_pos (Or.inl rfl)))
        go_wp2_with (first | (with_reducible (first | refine wl M ?_ | refine wlg M ?_ | (refine ws M ?_; clear M; intro w M) | (refine wsc M ?_; clear M; intro w M) | (refine wV M ?_; clear M; intro z w M) | (refine wR M ?_; clear M; intro q w M) | refine o_skipT ?_ | refine o_skipF ?_)))
        go_ret
        rw [HV.out]
        exact ⟨rfl, M.new⟩
      | true =>
        by_cases h0 : pw = 0
        · subst h0
          by_cases hn : pn = 0
          · have hnb : (pn != 0) = false := by simpa using hn
            replace HV := Lib.hid (HV.out.trans ((if_neg (by simp [hn])).trans (if_neg (by simp))))
            clear hn
            go_wp2_with (first | (with_reducible (first | refine wl M ?_ | refine wlg M ?_ | (refine ws M ?_; clear M; intro w M) | (refine wsc M ?_; clear M; intro w M) | (refine wV M ?_; clear M; intro z w M) | (refine wR M ?_; clear M; intro q w M) | refine o_skipT ?_ | refine o_skipF ?_)))
            go_ret
            rw [HV.out]
            exact ⟨rfl, M.new⟩
          · have hnb : (pn != 0) = true := by simpa using hn
            replace HV := Lib.hid (HV.out.trans (if_pos (Or.inr ⟨rfl, hn⟩)))
            clear hn
            go_wp2_with (first | (with_reducible (first | refine wl M ?_ | refine wlg M ?_ | (refine ws M ?_; clear M; intro w M) | (refine wsc M ?_; clear M; intro w M) | (refine wV M ?_; clear M; intro z w M) | (refine wR M ?_; clear M; intro q w M) | refine o_skipT ?_ | refine o_skipF ?_)))
            go_ret
            rw [HV.out]
            exact ⟨rfl, M.new⟩
        · have h0b : (pw == 0) = false := by simpa using h0
          replace HV := Lib.hid (HV.out.trans (if_neg (by simp [h0])))
          by_cases h1 : pw = 1
          · subst h1
            clear h0
            by_cases hr : 0 ≤ pn ∧ pn ≤ 1073741824
            · have d1 : decide (pn < 0) = false := by simp; omega
              have d2 : decide (1073741824 < pn) = false := by simp; omega
              replace HV := Lib.hid (HV.out.trans (if_neg (by simp [hr])))
              clear hr
              go_wp2_with (first | (with_reducible (first | refine wl M ?_ | refine wlg M ?_ | (refine ws M ?_; clear M; intro w M) | (refine wsc M ?_; clear M; intro w M) | (refine wV M ?_; clear M; intro z w M) | (refine wR M ?_; clear M; intro q w M) | refine o_skipT ?_ | refine o_skipF ?_)))
              go_ret
              rw [HV.out]
              exact ⟨rfl, M.new⟩
            · replace HV := Lib.hid (HV.out.trans (if_pos (Or.inl ⟨rfl, hr⟩)))
              by_cases h2 : pn < 0
              · have d1 : decide (pn < 0) = true := by simpa using h2
                clear hr h2
                go_wp2_with (first | (with_reducible (first | refine wl M ?_ | refine wlg M ?_ | (refine ws M ?_; clear M; intro w M) | (refine wsc M ?_; clear M; intro w M) | (refine wV M ?_; clear M; intro z w M) | (refine wR M ?_; clear M; intro q w M) | refine o_skipT ?_ | refine o_skipF ?_)))
                go_ret
                rw [HV.out]
                exact ⟨rfl, M.new⟩
              · have d1 : decide (pn < 0) = false := by simpa using h2
                have d2 : decide (1073741824 < pn) = true := by simp; omega
                clear hr h2
                go_wp2_with (first | (with_reducible (first | refine wl M ?_ | refine wlg M ?_ | (refine ws M ?_; clear M; intro w M) | (refine wsc M ?_; clear M; intro w M) | (refine wV M ?_; clear M; intro z w M) | (refine wR M ?_; clear M; intro q w M) | refine o_skipT ?_ | refine o_skipF ?_)))
                go_ret
                rw [HV.out]
                exact ⟨rfl, M.new⟩
          · have h1b : (pw == 1) = false := by simpa using h1
            by_cases h2 : pw = 2
            · subst h2
              clear h0 h1
              by_cases hr : 1 ≤ pn ∧ pn ≤ 120
              · have d1 : decide (pn < 1) = false := by simp; omega
                have d2 : decide (120 < pn) = false := by simp; omega
                replace HV := Lib.hid (HV.out.trans (if_neg (by simp [hr])))
                clear hr
                go_wp2_with (first | (with_reducible (first | refine wl M ?_ | refine wlg M ?_ | (refine ws M ?_; clear M; intro w M) | (refine wsc M ?_; clear M; intro w M) | (refine wV M ?_; clear M; intro z w M) | (refine wR M ?_; clear M; intro q w M) | refine o_skipT ?_ | refine o_skipF ?_)))
                go_ret
                rw [HV.out]
                exact ⟨rfl, M.new⟩
              · replace HV := Lib.hid (HV.out.trans (if_pos (Or.inr ⟨rfl, hr⟩)))
                by_cases h2 : pn < 1
                · have d1 : decide (pn < 1) = true := by simpa using h2
                  clear hr h2
                  go_wp2_with (first | (with_reducible (first | refine wl M ?_ | refine wlg M ?_ | (refine ws M ?_; clear M; intro w M) | (refine wsc M ?_; clear M; intro w M) | (refine wV M ?_; clear M; intro z w M) | (refine wR M ?_; clear M; intro q w M) | refine o_skipT ?_ | refine o_skipF ?_)))
                  go_ret
                  rw [HV.out]
                  exact ⟨rfl, M.new⟩
                · have d1 : decide (pn < 1) = false := by simpa using h2
                  have d2 : decide (120 < pn) = true := by simp; omega
                  clear hr h2
                  go_wp2_with (first | (with_reducible (first | refine wl M ?_ | refine wlg M ?_ | (refine ws M ?_; clear M; intro w M) | (refine wsc M ?_; clear M; intro w M) | (refine wV M ?_; clear M; intro z w M) | (refine wR M ?_; clear M; intro q w M) | refine o_skipT ?_ | refine o_skipF ?_)))
                  go_ret
                  rw [HV.out]
                  exact ⟨rfl, M.new⟩
            · have h2b : (pw == 2) = false := by simpa using h2
              replace HV := Lib.hid (HV.out.trans (if_neg (by simp [h1, h2])))
              clear h0 h1 h2
              go_wp2_with (first | (with_reducible (first | refine wl M ?_ | refine wlg M ?_ | (refine ws M ?_; clear M; intro w M) | (refine wsc M ?_; clear M; intro w M) | (refine wV M ?_; clear M; intro z w M) | (refine wR M ?_; clear M; intro q w M) | refine o_skipT ?_ | refine o_skipF ?_)))
              go_ret
              rw [HV.out]
              exact ⟨rfl, M.new⟩
set_option maxRecDepth 8000 in
set_option maxHeartbeats 4000000 in
theorem empty_any (hg : g < w0.heap.size) (c : Cond) (hS : SlF S w0 14 CondF so sn scap c.subs) :
    Calls Tryd.prog 82 #[.agg (cnd14 c.kind so sn scap c.left c.right).toArray] w0 fun e w' => e = .returned (.bool (noC c)) ∧ Below w0.heap.size w0 w' := by
  have M := Mem.begin hg ⟨0, 0⟩
  have hle := hS.le
  have NL := Lib.hid hS.len
  have HV : Hid (noC c = (c.kind == 0 && decide ((sn : Int) = 0) && opdZ c.left && opdZ c.right)) := by show _ = _; unfold noC; rw [NL.out]; simp
  unfold cnd14
  clear hg hS
  go_enter Tryd.func82, Tryd.ntmps82
  go_wp2_with (first | (with_reducible (first | (refine wB (L := []) M ?_; clear M; intro za w1 M) | refine wl M ?_ | refine wlg M ?_ | (refine ws M ?_; clear M; intro w M) | (refine wsc M ?_; clear M; intro w M) | (refine wV M ?_; clear M; intro z w M) | (refine wR M ?_; clear M; intro q w M) | refine o_skipT ?_ | refine o_skipF ?_)))
  all_goals
    go_ret
    exact ⟨ret_bool' (by rw [HV.out]; simp [opdZ, valZ, emS, *]), M.new⟩
end
end Go.Proofs.YthlnheckaoeooaaDoor
