/-
  Books compared: operands, conditions, patterns. Printed by psb.py.
-/
import Derived.Test.YtobnaokknkmlcaaDoorMj
import Derived.StillTailTactics
namespace Go.Proofs.YtobnaokknkmlcaaDoor
open Go.RowKit
set_option linter.unusedVariables false
set_option linter.unusedSimpArgs false

theorem RowAt.six {w : World} {b o : Nat} {x0 x1 x2 x3 x4 x5 : Value} (h : RowAt w b o 6 [x0, x1, x2, x3, x4, x5]) : w.cell? ⟨b, o, none⟩ = some x0 ∧ w.cell? ⟨b, o + 1, none⟩ = some x1 ∧ w.cell? ⟨b, o + 1 + 1, none⟩ = some x2 ∧ w.cell? ⟨b, o + 1 + 1 + 1, none⟩ = some x3 ∧ w.cell? ⟨b, o + 1 + 1 + 1 + 1, none⟩ = some x4 ∧ w.cell? ⟨b, o + 1 + 1 + 1 + 1 + 1, none⟩ = some x5 :=
  ⟨h.2 0 (by omega), h.2 1 (by omega), h.2 2 (by omega), h.2 3 (by omega), h.2 4 (by omega), h.2 5 (by omega)⟩
theorem RowAt.fourteen {w : World} {b o : Nat} {x0 x1 x2 x3 x4 x5 x6 x7 x8 x9 x10 x11 x12 x13 : Value} (h : RowAt w b o 14 [x0, x1, x2, x3, x4, x5, x6, x7, x8, x9, x10, x11, x12, x13]) : w.cell? ⟨b, o, none⟩ = some x0 ∧ w.cell? ⟨b, o + 1, none⟩ = some x1 ∧ w.cell? ⟨b, o + 1 + 1, none⟩ = some x2 ∧ w.cell? ⟨b, o + 1 + 1 + 1, none⟩ = some x3 ∧ w.cell? ⟨b, o + 1 + 1 + 1 + 1, none⟩ = some x4 ∧ w.cell? ⟨b, o + 1 + 1 + 1 + 1 + 1, none⟩ = some x5 ∧ w.cell? ⟨b, o + 1 + 1 + 1 + 1 + 1 + 1, none⟩ = some x6 ∧ w.cell? ⟨b, o + 1 + 1 + 1 + 1 + 1 + 1 + 1, none⟩ = some x7 ∧ w.cell? ⟨b, o + 1 + 1 + 1 + 1 + 1 + 1 + 1 + 1, none⟩ = some x8 ∧ w.cell? ⟨b, o + 1 + 1 + 1 + 1 + 1 + 1 + 1 + 1 + 1, none⟩ = some x9 ∧ w.cell? ⟨b, o + 1 + 1 + 1 + 1 + 1 + 1 + 1 + 1 + 1 + 1, none⟩ = some x10 ∧ w.cell? ⟨b, o + 1 + 1 + 1 + 1 + 1 + 1 + 1 + 1 + 1 + 1 + 1, none⟩ = some x11 ∧ w.cell? ⟨b, o + 1 + 1 + 1 + 1 + 1 + 1 + 1 + 1 + 1 + 1 + 1 + 1, none⟩ = some x12 ∧ w.cell? ⟨b, o + 1 + 1 + 1 + 1 + 1 + 1 + 1 + 1 + 1 + 1 + 1 + 1 + 1, none⟩ = some x13 :=
  ⟨h.2 0 (by omega), h.2 1 (by omega), h.2 2 (by omega), h.2 3 (by omega), h.2 4 (by omega), h.2 5 (by omega), h.2 6 (by omega), h.2 7 (by omega), h.2 8 (by omega), h.2 9 (by omega), h.2 10 (by omega), h.2 11 (by omega), h.2 12 (by omega), h.2 13 (by omega)⟩
theorem RowAt.eighteen {w : World} {b o : Nat} {x0 x1 x2 x3 x4 x5 x6 x7 x8 x9 x10 x11 x12 x13 x14 x15 x16 x17 : Value} (h : RowAt w b o 18 [x0, x1, x2, x3, x4, x5, x6, x7, x8, x9, x10, x11, x12, x13, x14, x15, x16, x17]) : w.cell? ⟨b, o, none⟩ = some x0 ∧ w.cell? ⟨b, o + 1, none⟩ = some x1 ∧ w.cell? ⟨b, o + 1 + 1, none⟩ = some x2 ∧ w.cell? ⟨b, o + 1 + 1 + 1, none⟩ = some x3 ∧ w.cell? ⟨b, o + 1 + 1 + 1 + 1, none⟩ = some x4 ∧ w.cell? ⟨b, o + 1 + 1 + 1 + 1 + 1, none⟩ = some x5 ∧ w.cell? ⟨b, o + 1 + 1 + 1 + 1 + 1 + 1, none⟩ = some x6 ∧ w.cell? ⟨b, o + 1 + 1 + 1 + 1 + 1 + 1 + 1, none⟩ = some x7 ∧ w.cell? ⟨b, o + 1 + 1 + 1 + 1 + 1 + 1 + 1 + 1, none⟩ = some x8 ∧ w.cell? ⟨b, o + 1 + 1 + 1 + 1 + 1 + 1 + 1 + 1 + 1, none⟩ = some x9 ∧ w.cell? ⟨b, o + 1 + 1 + 1 + 1 + 1 + 1 + 1 + 1 + 1 + 1, none⟩ = some x10 ∧ w.cell? ⟨b, o + 1 + 1 + 1 + 1 + 1 + 1 + 1 + 1 + 1 + 1 + 1, none⟩ = some x11 ∧ w.cell? ⟨b, o + 1 + 1 + 1 + 1 + 1 + 1 + 1 + 1 + 1 + 1 + 1 + 1, none⟩ = some x12 ∧ w.cell? ⟨b, o + 1 + 1 + 1 + 1 + 1 + 1 + 1 + 1 + 1 + 1 + 1 + 1 + 1, none⟩ = some x13 ∧ w.cell? ⟨b, o + 1 + 1 + 1 + 1 + 1 + 1 + 1 + 1 + 1 + 1 + 1 + 1 + 1 + 1, none⟩ = some x14 ∧ w.cell? ⟨b, o + 1 + 1 + 1 + 1 + 1 + 1 + 1 + 1 + 1 + 1 + 1 + 1 + 1 + 1 + 1, none⟩ = some x15 ∧ w.cell? ⟨b, o + 1 + 1 + 1 + 1 + 1 + 1 + 1 + 1 + 1 + 1 + 1 + 1 + 1 + 1 + 1 + 1, none⟩ = some x16 ∧ w.cell? ⟨b, o + 1 + 1 + 1 + 1 + 1 + 1 + 1 + 1 + 1 + 1 + 1 + 1 + 1 + 1 + 1 + 1 + 1, none⟩ = some x17 :=
  ⟨h.2 0 (by omega), h.2 1 (by omega), h.2 2 (by omega), h.2 3 (by omega), h.2 4 (by omega), h.2 5 (by omega), h.2 6 (by omega), h.2 7 (by omega), h.2 8 (by omega), h.2 9 (by omega), h.2 10 (by omega), h.2 11 (by omega), h.2 12 (by omega), h.2 13 (by omega), h.2 14 (by omega), h.2 15 (by omega), h.2 16 (by omega), h.2 17 (by omega)⟩
theorem size_opd : SizeIs Tryd.prog 79 6 := fun w => by kernel_rfl
theorem size_cnd : SizeIs Tryd.prog 81 14 := fun w => by kernel_rfl
theorem size_pat : SizeIs Tryd.prog 83 18 := fun w => by kernel_rfl
set_option maxHeartbeats 2000000 in
theorem sameOperands_yes (F G : Nat → Prop) (ao : Option Addr) (n cap : Nat) (bo : Option Addr) (m bcap : Nat) (xs : List Opd) (w : World) (hX : SlF F w 6 opdF ao n cap xs) (hY : SlF G w 6 opdF bo m bcap xs) :
    Calls Tryd.prog 37 #[.slice ao n cap, .slice bo m bcap] w fun e w' => e = .returned (.bool true) ∧ Below w.heap.size w w' := by
  obtain rfl : m = n := by rw [hX.len, hY.len]
  have NL : Hid (m = xs.length) := hX.len
  have hle := hX.le
  go_enter Tryd.func37, Tryd.ntmps37
  go_wp2_with fail
  go_loopw [5] (fun i wr => ∃ k : Nat, k ≤ m ∧ i = .int .i64 k ∧ Below w.heap.size w wr) (fun i _ => m - (intOf i).toNat)
  case atStart => exact ⟨0, by omega, rfl, Below.refl _ _⟩
  case round =>
    obtain ⟨k, hk, rfl, hbr⟩ := hrel
    by_cases hlt : k < m
    · have hkl : k < xs.length := by have := NL.out; omega
      obtain ⟨b, off, row, hix, hblt, hrow, hrr⟩ := (hX.below opdF_firm hbr).toR.index (P := Tryd.prog) Tryd.underlying54 size_opd (i := k) hkl
      obtain ⟨b2, off2, row2, hix2, hblt2, hrow2, hrr2⟩ := (hY.below opdF_firm hbr).toR.index (P := Tryd.prog) Tryd.underlying54 size_opd (i := k) hkl
      generalize xs[k] = t at hrr hrr2
      have e1 : row = opdC t := hrr
      have e2 : row2 = opdC t := hrr2
      subst e1 e2
      unfold opdC at hrow hrow2
      obtain ⟨c0, c1, c2, c3, c4, c5⟩ := hrow.six
      obtain ⟨d0, d1, d2, d3, d4, d5⟩ := hrow2.six
      go_wp2_with fail
      go_quiet (fail)
      go_wp2
      go_roundw
      case rel => exact ⟨k + 1, by omega, by go_num, (by repeat (first | exact Below.refl _ _ | assumption | refine below_step ?_ (by assumption) | refine below_step ?_ (Joins.below_draws _ _ _) | (refine Below.alloc ?_ (by first | omega | (simp; done) | (simp; omega)) _) | (refine Below.setCell ?_ (by first | omega | (simp; done) | (simp; omega)) _) | refine Below.drew ?_))⟩
      case measure => simp [intOf]; omega
    · go_wp2
      go_ret
      exact ⟨rfl, hbr⟩
def cnd14 (k : Int) (ao : Option Addr) (n cap : Nat) (l r : Opd) : List Value := [.int .i64 k, .slice ao n cap, .int .i64 l.kind, .int .i64 l.vkind, .int .i64 l.vint, .string l.vtext, .string l.var, .string l.field, .int .i64 r.kind, .int .i64 r.vkind, .int .i64 r.vint, .string r.vtext, .string r.var, .string r.field]
theorem CondF.open14 {F : Nat → Prop} {w : World} {row : List Value} {c : Cond} (h : CondF F w row c) : ∃ ao n cap, row = cnd14 c.kind ao n cap c.left c.right ∧ SlF F w 14 CondF ao n cap c.subs := h.open
theorem sub_less {c : Cond} {i : Nat} (h : i < c.subs.length) : SizeOf.sizeOf c.subs[i] < SizeOf.sizeOf c := by
  cases c with
  | mk k subs l r =>
    have h1 := List.sizeOf_lt_of_mem (List.getElem_mem (l := subs) h)
    show SizeOf.sizeOf subs[i] < _
    simp only [Cond.mk.sizeOf_spec]
    omega
set_option maxRecDepth 8000 in
set_option maxHeartbeats 4000000 in
theorem sameCondition_yes (g : Nat) : ∀ (m : Nat) (c : Cond), SizeOf.sizeOf c < m → ∀ (F G : Nat → Prop) (r1 r2 : List Value) (w : World), g < w.heap.size → CondF F w r1 c → CondF G w r2 c →
    Calls Tryd.prog 51 #[.agg r1.toArray, .agg r2.toArray] w fun e w' => e = .returned (.bool true) ∧ Below w.heap.size w w'
  | 0, c, h => absurd h (Nat.not_lt_zero _)
  | m + 1, c, hm => by
    intro F G r1 r2 w hg h1 h2
    have HI : Hid (∀ (i : Nat) (h : i < c.subs.length) (F G : Nat → Prop) (r1 r2 : List Value) (w : World), g < w.heap.size → CondF F w r1 c.subs[i] → CondF G w r2 c.subs[i] → Calls Tryd.prog 51 #[.agg r1.toArray, .agg r2.toArray] w fun e w' => e = .returned (.bool true) ∧ Below w.heap.size w w') := fun i h => sameCondition_yes g m c.subs[i] (by have := sub_less h; omega)
    obtain ⟨ao, n, cap, rfl, hX⟩ := h1.open14
    obtain ⟨bo, n2, bcap, rfl, hY⟩ := h2.open14
    obtain rfl : n2 = n := by rw [hX.len, hY.len]
    have NL : Hid (n2 = c.subs.length) := hX.len
    have hle := hX.le
    have M := Mem.begin hg ⟨0, 0⟩
    have HX := Lib.hid hX
    have HY := Lib.hid hY
    unfold cnd14
    clear h1 h2 hX hY hm
    generalize c.subs = xs at HI NL HX HY
    go_enter Tryd.func51, Tryd.ntmps51
    go_wp2_with (first | ((with_reducible refine o_list rfl fun K hK => ?_); (refine q_box (L := []) M ?_; clear M; intro za w1 hz hw M; clear hz hw); refine hK _ _ ?_; clear hK K) | ((with_reducible refine o_list rfl fun K hK => ?_); (refine q_box M ?_; clear M; intro zb w2 hz hw M; clear hz hw); refine hK _ _ ?_; clear hK K) | (first | ((with_reducible refine o_list rfl fun K hK => ?_); (first | (first | refine q_all M (by rfl) ?_ | refine q_get M (by exact rfl) ?_ | refine q_part M (by rfl) (by simp only [laid, opdC, List.take_succ_cons, List.take_zero, List.drop_succ_cons, List.drop_zero, List.length_cons, List.length_nil, List.cons_append, List.nil_append, Nat.reduceAdd] <;> rfl) ?_ | refine q_ep M ?_ | refine q_ee M ?_ | refine q_et M ?_ | refine q_eo M (by assumption) (by assumption) (by assumption) ?_) | (first | ((first | refine q_setc M (by rfl) (by rfl) ?_ | refine q_set M (by rfl) (by rfl) ?_ | refine q_put M (by rfl) (by rfl) (by rfl) ?_ | refine q_in M (by rfl) (by rfl) (by rfl) ?_); clear M; intro w M; (try simp only [List.set_cons_zero, List.set_cons_succ, laid, opdC, cndC, patC, List.take_succ_cons, List.take_zero, List.drop_succ_cons, List.drop_zero, List.length_cons, List.length_nil, List.cons_append, List.nil_append, Nat.reduceAdd, Nat.zero_add] at M)) | (refine q_eadv M ?_; clear M; intro w M) | (refine q_eset M ?_; clear M; intro w M)) | (refine q_var M ?_; clear M; intro z w M) | (refine q_row M (by rfl) ?_; clear M; intro q w M)); refine hK _ _ ?_; clear hK K) | ((with_reducible refine o_listg fun K hK => ?_); (first | (first | refine q_all M (by rfl) ?_ | refine q_get M (by exact rfl) ?_ | refine q_part M (by rfl) (by simp only [laid, opdC, List.take_succ_cons, List.take_zero, List.drop_succ_cons, List.drop_zero, List.length_cons, List.length_nil, List.cons_append, List.nil_append, Nat.reduceAdd] <;> rfl) ?_ | refine q_ep M ?_ | refine q_ee M ?_ | refine q_et M ?_ | refine q_eo M (by assumption) (by assumption) (by assumption) ?_)); refine hK _ _ ?_; clear hK K) | (with_reducible refine o_skipT ?_) | (with_reducible refine o_skipF ?_)))
    go_loopw [5] (fun i wr => ∃ k : Nat, k ≤ n2 ∧ i = .int .i64 k ∧ Mem (StaysB g w) g w wr ⟨0, 0⟩ (own zb (cnd14 c.kind bo n2 bcap c.left c.right) 81 :: own za (cnd14 c.kind ao n2 cap c.left c.right) 81 :: [])) (fun i _ => n2 - (intOf i).toNat)
    case atStart => exact ⟨0, by omega, rfl, M⟩
    case round =>
      obtain ⟨k, hk, rfl, M⟩ := hrel
      unfold cnd14 at M
      by_cases hlt : k < n2
      · have hkl : k < xs.length := by have := NL.out; omega
        have hbr := M.new
        obtain ⟨b, off, row, hix, hblt, hrow, hrr⟩ := (HX.out.below condF_firm hbr).toR.index (P := Tryd.prog) Tryd.underlying75 size_cnd (i := k) hkl
        obtain ⟨b2, off2, row2, hix2, hblt2, hrow2, hrr2⟩ := (HY.out.below condF_firm hbr).toR.index (P := Tryd.prog) Tryd.underlying75 size_cnd (i := k) hkl
        have HC := Lib.hid (HI.out k hkl F G row row2 wr.drew (Nat.lt_of_lt_of_le hg hbr.size) (condF_firm _ _ _ _ _ _ Same.drew hrr) (condF_firm _ _ _ _ _ _ Same.drew hrr2))
        obtain ⟨a1, n1, c1, rfl, -⟩ := hrr.open14
        obtain ⟨a2, n3, c2, rfl, -⟩ := hrr2.open14
        generalize xs[k] = t at hrow hrow2 HC
        unfold cnd14 at hrow hrow2 HC
        obtain ⟨p0, p1, p2, p3, p4, p5, p6, p7, p8, p9, p10, p11, p12, p13⟩ := hrow.fourteen
        obtain ⟨q0, q1, q2, q3, q4, q5, q6, q7, q8, q9, q10, q11, q12, q13⟩ := hrow2.fourteen
        have za1 : wr.cell? ⟨za, 1, none⟩ = some (.slice ao n2 cap) := (M.own_ (Mem.of_get (i := 1) rfl)).cell 1
        have zb1 : wr.cell? ⟨zb, 1, none⟩ = some (.slice bo n2 bcap) := (M.own_ (Mem.of_get (i := 0) rfl)).cell 1
        clear hrow hrow2 hrr hrr2
        go_wp2_with (first | (first | ((with_reducible refine o_list rfl fun K hK => ?_); (first | (first | refine q_all M (by rfl) ?_ | refine q_get M (by exact rfl) ?_ | refine q_part M (by rfl) (by simp only [laid, opdC, List.take_succ_cons, List.take_zero, List.drop_succ_cons, List.drop_zero, List.length_cons, List.length_nil, List.cons_append, List.nil_append, Nat.reduceAdd] <;> rfl) ?_ | refine q_ep M ?_ | refine q_ee M ?_ | refine q_et M ?_ | refine q_eo M (by assumption) (by assumption) (by assumption) ?_) | (first | ((first | refine q_setc M (by rfl) (by rfl) ?_ | refine q_set M (by rfl) (by rfl) ?_ | refine q_put M (by rfl) (by rfl) (by rfl) ?_ | refine q_in M (by rfl) (by rfl) (by rfl) ?_); clear M; intro w M; (try simp only [List.set_cons_zero, List.set_cons_succ, laid, opdC, cndC, patC, List.take_succ_cons, List.take_zero, List.drop_succ_cons, List.drop_zero, List.length_cons, List.length_nil, List.cons_append, List.nil_append, Nat.reduceAdd, Nat.zero_add] at M)) | (refine q_eadv M ?_; clear M; intro w M) | (refine q_eset M ?_; clear M; intro w M)) | (refine q_var M ?_; clear M; intro z w M) | (refine q_row M (by rfl) ?_; clear M; intro q w M)); refine hK _ _ ?_; clear hK K) | ((with_reducible refine o_listg fun K hK => ?_); (first | (first | refine q_all M (by rfl) ?_ | refine q_get M (by exact rfl) ?_ | refine q_part M (by rfl) (by simp only [laid, opdC, List.take_succ_cons, List.take_zero, List.drop_succ_cons, List.drop_zero, List.length_cons, List.length_nil, List.cons_append, List.nil_append, Nat.reduceAdd] <;> rfl) ?_ | refine q_ep M ?_ | refine q_ee M ?_ | refine q_et M ?_ | refine q_eo M (by assumption) (by assumption) (by assumption) ?_)); refine hK _ _ ?_; clear hK K) | (with_reducible refine o_skipT ?_) | (with_reducible refine o_skipF ?_)))
        go_still_tail 10, (by kernel_rfl)
        change wpList _ _ _ _ _ wr.drew
        go_wp2_with (go_at_call 51; refine HC.out.mono ?_; rintro e w3 ⟨rfl, hb3⟩)
        go_roundw
        case rel => exact ⟨k + 1, by omega, by go_num, (M.drew).below hb3⟩
        case measure => simp [intOf]; omega
      · go_wp2_with (first | (first | ((with_reducible refine o_list rfl fun K hK => ?_); (first | (first | refine q_all M (by rfl) ?_ | refine q_get M (by exact rfl) ?_ | refine q_part M (by rfl) (by simp only [laid, opdC, List.take_succ_cons, List.take_zero, List.drop_succ_cons, List.drop_zero, List.length_cons, List.length_nil, List.cons_append, List.nil_append, Nat.reduceAdd] <;> rfl) ?_ | refine q_ep M ?_ | refine q_ee M ?_ | refine q_et M ?_ | refine q_eo M (by assumption) (by assumption) (by assumption) ?_) | (first | ((first | refine q_setc M (by rfl) (by rfl) ?_ | refine q_set M (by rfl) (by rfl) ?_ | refine q_put M (by rfl) (by rfl) (by rfl) ?_ | refine q_in M (by rfl) (by rfl) (by rfl) ?_); clear M; intro w M; (try simp only [List.set_cons_zero, List.set_cons_succ, laid, opdC, cndC, patC, List.take_succ_cons, List.take_zero, List.drop_succ_cons, List.drop_zero, List.length_cons, List.length_nil, List.cons_append, List.nil_append, Nat.reduceAdd, Nat.zero_add] at M)) | (refine q_eadv M ?_; clear M; intro w M) | (refine q_eset M ?_; clear M; intro w M)) | (refine q_var M ?_; clear M; intro z w M) | (refine q_row M (by rfl) ?_; clear M; intro q w M)); refine hK _ _ ?_; clear hK K) | ((with_reducible refine o_listg fun K hK => ?_); (first | (first | refine q_all M (by rfl) ?_ | refine q_get M (by exact rfl) ?_ | refine q_part M (by rfl) (by simp only [laid, opdC, List.take_succ_cons, List.take_zero, List.drop_succ_cons, List.drop_zero, List.length_cons, List.length_nil, List.cons_append, List.nil_append, Nat.reduceAdd] <;> rfl) ?_ | refine q_ep M ?_ | refine q_ee M ?_ | refine q_et M ?_ | refine q_eo M (by assumption) (by assumption) (by assumption) ?_)); refine hK _ _ ?_; clear hK K) | (with_reducible refine o_skipT ?_) | (with_reducible refine o_skipF ?_)))
        go_ret
        exact ⟨rfl, M.new⟩
def pat18 (p : Pat) (ao : Option Addr) (n cap : Nat) : List Value := [.string p.var, .string p.type, .int .i64 p.wher.kind, .slice ao n cap, .int .i64 p.wher.left.kind, .int .i64 p.wher.left.vkind, .int .i64 p.wher.left.vint, .string p.wher.left.vtext, .string p.wher.left.var, .string p.wher.left.field, .int .i64 p.wher.right.kind, .int .i64 p.wher.right.vkind, .int .i64 p.wher.right.vint, .string p.wher.right.vtext, .string p.wher.right.var, .string p.wher.right.field, .int .i64 p.window, .int .i64 p.n]
theorem patF.open18 {F : Nat → Prop} {w : World} {row : List Value} {p : Pat} (h : patF F w row p) : ∃ ao n cap, row = pat18 p ao n cap ∧ SlF F w 14 CondF ao n cap p.wher.subs := by
  obtain ⟨ao, n, cap, h1, h2⟩ := h
  exact ⟨ao, n, cap, h1, h2⟩
set_option maxRecDepth 8000 in
set_option maxHeartbeats 4000000 in
theorem samePattern_yes (g : Nat) (p : Pat) (F G : Nat → Prop) (r1 r2 : List Value) (w : World) (hg : g < w.heap.size) (h1 : patF F w r1 p) (h2 : patF G w r2 p) :
    Calls Tryd.prog 38 #[.agg r1.toArray, .agg r2.toArray] w fun e w' => e = .returned (.bool true) ∧ Below w.heap.size w w' := by
  obtain ⟨ao, n, cap, rfl, hX⟩ := h1.open18
  obtain ⟨bo, n2, bcap, rfl, hY⟩ := h2.open18
  obtain rfl : n2 = n := by rw [hX.len, hY.len]
  have M := Mem.begin hg ⟨0, 0⟩
  have HC : Hid (∀ wx, Below w.heap.size w wx → Calls Tryd.prog 51 #[.agg (cnd14 p.wher.kind ao n2 cap p.wher.left p.wher.right).toArray, .agg (cnd14 p.wher.kind bo n2 bcap p.wher.left p.wher.right).toArray] wx fun e w' => e = .returned (.bool true) ∧ Below wx.heap.size wx w') := fun wx hb =>
    sameCondition_yes g _ p.wher (Nat.lt_succ_self _) F G _ _ wx (Nat.lt_of_lt_of_le hg hb.size) (cndF_of (hX.below condF_firm hb)) (cndF_of (hY.below condF_firm hb))
  unfold pat18
  unfold cnd14 at HC
  clear h1 h2 hX hY
  go_enter Tryd.func38, Tryd.ntmps38
  go_wp2_with (first | ((with_reducible refine o_list rfl fun K hK => ?_); (refine q_box (L := []) M ?_; clear M; intro za w1 hz hw M; clear hz hw); refine hK _ _ ?_; clear hK K) | ((with_reducible refine o_list rfl fun K hK => ?_); (refine q_box M ?_; clear M; intro zb w2 hz hw M; clear hz hw); refine hK _ _ ?_; clear hK K) | (first | ((with_reducible refine o_list rfl fun K hK => ?_); (first | (first | refine q_all M (by rfl) ?_ | refine q_get M (by exact rfl) ?_ | refine q_part M (by rfl) (by simp only [laid, opdC, List.take_succ_cons, List.take_zero, List.drop_succ_cons, List.drop_zero, List.length_cons, List.length_nil, List.cons_append, List.nil_append, Nat.reduceAdd] <;> rfl) ?_ | refine q_ep M ?_ | refine q_ee M ?_ | refine q_et M ?_ | refine q_eo M (by assumption) (by assumption) (by assumption) ?_) | (first | ((first | refine q_setc M (by rfl) (by rfl) ?_ | refine q_set M (by rfl) (by rfl) ?_ | refine q_put M (by rfl) (by rfl) (by rfl) ?_ | refine q_in M (by rfl) (by rfl) (by rfl) ?_); clear M; intro w M; (try simp only [List.set_cons_zero, List.set_cons_succ, laid, opdC, cndC, patC, List.take_succ_cons, List.take_zero, List.drop_succ_cons, List.drop_zero, List.length_cons, List.length_nil, List.cons_append, List.nil_append, Nat.reduceAdd, Nat.zero_add] at M)) | (refine q_eadv M ?_; clear M; intro w M) | (refine q_eset M ?_; clear M; intro w M)) | (refine q_var M ?_; clear M; intro z w M) | (refine q_row M (by rfl) ?_; clear M; intro q w M)); refine hK _ _ ?_; clear hK K) | ((with_reducible refine o_listg fun K hK => ?_); (first | (first | refine q_all M (by rfl) ?_ | refine q_get M (by exact rfl) ?_ | refine q_part M (by rfl) (by simp only [laid, opdC, List.take_succ_cons, List.take_zero, List.drop_succ_cons, List.drop_zero, List.length_cons, List.length_nil, List.cons_append, List.nil_append, Nat.reduceAdd] <;> rfl) ?_ | refine q_ep M ?_ | refine q_ee M ?_ | refine q_et M ?_ | refine q_eo M (by assumption) (by assumption) (by assumption) ?_)); refine hK _ _ ?_; clear hK K) | (with_reducible refine o_skipT ?_) | (with_reducible refine o_skipF ?_)) | (go_at_call 51; refine (HC.out _ M.new).mono ?_; rintro e w3 ⟨rfl, hb3⟩; replace M := M.below hb3; clear hb3))
  go_ret
  exact ⟨rfl, M.new⟩
end Go.Proofs.YtobnaokknkmlcaaDoor
