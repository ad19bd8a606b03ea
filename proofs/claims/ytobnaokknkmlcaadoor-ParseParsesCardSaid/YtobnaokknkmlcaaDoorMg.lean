/-
  The walk of package parse's reader, seventeenth part: the clauses of a rule: emit, and none. Printed by prk.py.
-/
import Derived.Test.YtobnaokknkmlcaaDoorMf
namespace Go.Proofs.YtobnaokknkmlcaaDoor
open Go.RowKit
set_option linter.unusedVariables false
set_option linter.unusedSimpArgs false

section
variable {T : List Tok} {b : Nat} {ao : Option Addr} {n cap : Nat} {s : PS} {u w : World} {L : List Ent} {At : PS → World → Prop} {x : Rul} {zx : Nat} {v1 v2 v3 v4 v6 : Value}
theorem cla_emit {s : PS} (h : seesB T 1 wWhen s = false) (h2 : seesB T 1 wNot s = false) (h3 : seesB T 1 wMany s = false) (h4 : seesB T 1 wWhere s = false) (h5 : x.etype = ByteArray.empty) (h6 : seesB T 1 wEmit s = true) :
    clauseS T x s = ({ x with etype := (emiS T (adv s)).1.1, evals := (emiS T (adv s)).1.2 }, mustS T 4 mEnd (emiS T (adv s)).2) := by
  unfold clauseS claS; rw [h, h2, h3, h4, if_neg (by simp), if_neg (by simp), if_neg (by simp), if_neg (by simp), if_pos ⟨h5, h6⟩]
theorem cla_none {s : PS} (h : seesB T 1 wWhen s = false) (h2 : seesB T 1 wNot s = false) (h3 : seesB T 1 wMany s = false) (h4 : seesB T 1 wWhere s = false) (h5 : x.etype ≠ ByteArray.empty ∨ seesB T 1 wEmit s = false) :
    clauseS T x s = (x, mustS T 4 mEnd (missS T s)) := by
  unfold clauseS claS; rw [h, h2, h3, h4, if_neg (by simp), if_neg (by simp), if_neg (by simp), if_neg (by simp), if_neg (fun h => by rcases h5 with g | g; exact g h.1; rw [g] at h; cases h.2)]
theorem evals_firm {v : Value} {vs : List Opd} : (dat (fun F w => ∃ ao n cap, v = .slice ao n cap ∧ SlF F w 6 opdF ao n cap vs)).firm := dat_firm fun F F' w w' hs ⟨ao, n, cap, h1, h2⟩ => ⟨ao, n, cap, h1, h2.same opdF_firm hs⟩
theorem must_bad {k : Int} {y : ByteArray} {s : PS} (h : s.e ≠ 0) : (mustS T k y s).e ≠ 0 := by rw [must_stuck h]; exact h
theorem nonempty_list {y : ByteArray} (h : y ≠ ByteArray.empty) : y.toList.isEmpty = false := by
  cases hl : y.toList with
  | nil =>
    rw [ByteArray.toList_eq] at hl
    refine absurd ?_ h
    cases y with
    | mk d =>
      have : d = #[] := Array.toList_eq_nil_iff.1 hl
      rw [this]; rfl
  | cons a l => rfl
theorem emitp {s : PS} {nm : ByteArray} {vs : List Opd} (hp : (emiS T (adv s)).2.e = 0 → (nm, vs) = (emiS T (adv s)).1) (h : (mustS T 4 mEnd (emiS T (adv s)).2).e = 0) :
    ({ x with etype := nm, evals := vs } : Rul) = { x with etype := (emiS T (adv s)).1.1, evals := (emiS T (adv s)).1.2 } := by
  rw [← hp (must_ok (T := T) h)]
theorem Mem.cut (A : List Ent) {e : Ent} {K : List Ent} (M : Mem At b u w s (A ++ e :: K)) : Mem At b u w s (A ++ K) := (M.perm List.perm_middle).drop
set_option maxRecDepth 8000 in
set_option maxHeartbeats 2000000 in
theorem clause_emit (M : Mem (RdAt b ao n cap) b u w s (RulL u zx x v1 v2 v3 v4 v6 L)) (hE : Env T b ao n cap u) (hB : rulN x ≤ 5000) (hW : Dec (seesB T 1 wWhen s = false)) (hN : Dec (seesB T 1 wNot s = false)) (hM : Dec (seesB T 1 wMany s = false)) (hL : Dec (seesB T 1 wWhere s = false)) (hQ : x.etype = ByteArray.empty) (hX : Dec (seesB T 1 wEmit s = true)) :
    Calls Tryd.prog 25 #[.pointer (some ⟨b, 0, none⟩), .pointer (some ⟨zx, 0, none⟩)] w (ClaPost (RdAt b ao n cap) b u L zx x (clauseS T x s)) := by
  rw [cla_emit hW.out hN.out hM.out hL.out hQ hX.out]
  have hq : x.etype.toList = [] := by rw [hQ, ByteArray.toList_eq]; rfl
  have HQ := Lib.hid hQ
  clear hQ
  have HE := Lib.hid hE
  have HB := Lib.hid hB
  clear hE hB
  unfold RulL at M
  go_enter Tryd.func25, Tryd.ntmps25
  go_wp2_with (first | ((with_reducible refine o_list rfl fun K hK => ?_); (first | (first | refine q_all M (by rfl) ?_ | refine q_get M (by exact rfl) ?_ | refine q_part M (by rfl) (by simp only [laid, opdC, List.take_succ_cons, List.take_zero, List.drop_succ_cons, List.drop_zero, List.length_cons, List.length_nil, List.cons_append, List.nil_append, Nat.reduceAdd] <;> rfl) ?_ | refine q_pos M ?_ | refine q_toks M ?_ | refine q_old M (by assumption) (by assumption) (by assumption) ?_) | (first | ((first | refine q_setc M (by rfl) (by rfl) ?_ | refine q_set M (by rfl) (by rfl) ?_ | refine q_put M (by rfl) (by rfl) (by rfl) ?_ | refine q_in M (by rfl) (by rfl) (by rfl) ?_); clear M; intro w M; (try simp only [List.set_cons_zero, List.set_cons_succ, laid, opdC, cndC, patC, optC, lnkC, emiC, fldC, rulC, manC, List.take_succ_cons, List.take_zero, List.drop_succ_cons, List.drop_zero, List.length_cons, List.length_nil, List.cons_append, List.nil_append, Nat.reduceAdd, Nat.zero_add] at M)) | (refine q_adv M O1.out ?_; clear M; intro w M)) | (refine q_var M ?_; clear M; intro z w M) | (refine q_row M (by rfl) ?_; clear M; intro q w M)); refine hK _ _ ?_; clear hK K) | ((go_at_call 21); refine (M.eatF HE.out _ _ (by exact Dec.out (by assumption))).mono ?_; clear M; rintro e w ⟨rfl, M⟩) | ((go_at_call 21); refine (M.eatT HE.out _ _ (by exact Dec.out (by assumption))).mono ?_; clear M; rintro e w ⟨rfl, M⟩) | ((go_at_call 47); refine (emit_any M HE.out).mono ?_; clear M; rintro e w ⟨nm, vs, ao1, n1, cap1, rfl, M, hp⟩; have HP := Lib.hid hp; clear hp) | (go_at_call 21; refine M.eat HE.out _ _ ?_ ?_ <;> (clear M; intro w hs M)) | (go_at_call 22; refine (M.name HE.out).mono ?_; clear M; rintro e w ⟨rfl, M⟩) | (go_at_call 45; refine (M.number HE.out).mono ?_; clear M; rintro e w ⟨rfl, M⟩) | (go_at_call 26; refine (M.miss HE.out).mono ?_; clear M; rintro e w ⟨rfl, M⟩) | (go_at_call 24; refine (M.mark HE.out _).mono ?_; clear M; rintro e w ⟨rfl, M⟩) | (go_at_call 44; refine (M.word HE.out _).mono ?_; clear M; rintro e w ⟨rfl, M⟩) | (go_at_call 55; refine (M.operand HE.out).mono ?_; clear M; rintro e w ⟨rfl, M⟩) | (go_at_call 41; refine M.sees HE.out _ _ ?_ ?_ <;> (clear M; intro w hs M)) | (go_at_call 48; refine (M.fail _ (by decide)).mono ?_; clear M; rintro e w ⟨rfl, M⟩))
  go_end0
  have M2 := M.turn (dat fun F w => ∃ ao n cap, Value.slice ao1 n1 cap1 = .slice ao n cap ∧ SlF F w 6 opdF ao n cap vs) evals_firm (fun z hz => by cases hz) (fun F G h1 _ hF => ⟨ao1, n1, cap1, rfl, SlF.same (show SlF F _ 6 opdF ao1 n1 cap1 vs from hF) opdF_firm (Same.wide fun k hk _ => h1 k hk)⟩)
  have M3 := M2.perm (List.perm_middle (l₁ := [_, _, _, _, _])).symm
  exact ⟨rfl, { x with etype := nm, evals := vs }, v1, v2, v3, v4, _, Mem.cut [_, _, _, _, _, _] M3, by simp [rulN], fun h => emitp HP.out h⟩
set_option maxRecDepth 8000 in
set_option maxHeartbeats 2000000 in
theorem clause_none1 (M : Mem (RdAt b ao n cap) b u w s (RulL u zx x v1 v2 v3 v4 v6 L)) (hE : Env T b ao n cap u) (hB : rulN x ≤ 5000) (hW : Dec (seesB T 1 wWhen s = false)) (hN : Dec (seesB T 1 wNot s = false)) (hM : Dec (seesB T 1 wMany s = false)) (hL : Dec (seesB T 1 wWhere s = false)) (hQ : x.etype = ByteArray.empty) (hX : Dec (seesB T 1 wEmit s = false)) :
    Calls Tryd.prog 25 #[.pointer (some ⟨b, 0, none⟩), .pointer (some ⟨zx, 0, none⟩)] w (ClaPost (RdAt b ao n cap) b u L zx x (clauseS T x s)) := by
  rw [cla_none hW.out hN.out hM.out hL.out (.inr hX.out)]
  have hq : x.etype.toList = [] := by rw [hQ, ByteArray.toList_eq]; rfl
  have HQ := Lib.hid hQ
  clear hQ
  have HE := Lib.hid hE
  have HB := Lib.hid hB
  clear hE hB
  unfold RulL at M
  go_enter Tryd.func25, Tryd.ntmps25
  go_wp2_with (first | ((with_reducible refine o_list rfl fun K hK => ?_); (first | (first | refine q_all M (by rfl) ?_ | refine q_get M (by exact rfl) ?_ | refine q_part M (by rfl) (by simp only [laid, opdC, List.take_succ_cons, List.take_zero, List.drop_succ_cons, List.drop_zero, List.length_cons, List.length_nil, List.cons_append, List.nil_append, Nat.reduceAdd] <;> rfl) ?_ | refine q_pos M ?_ | refine q_toks M ?_ | refine q_old M (by assumption) (by assumption) (by assumption) ?_) | (first | ((first | refine q_setc M (by rfl) (by rfl) ?_ | refine q_set M (by rfl) (by rfl) ?_ | refine q_put M (by rfl) (by rfl) (by rfl) ?_ | refine q_in M (by rfl) (by rfl) (by rfl) ?_); clear M; intro w M; (try simp only [List.set_cons_zero, List.set_cons_succ, laid, opdC, cndC, patC, optC, lnkC, emiC, fldC, rulC, manC, List.take_succ_cons, List.take_zero, List.drop_succ_cons, List.drop_zero, List.length_cons, List.length_nil, List.cons_append, List.nil_append, Nat.reduceAdd, Nat.zero_add] at M)) | (refine q_adv M O1.out ?_; clear M; intro w M)) | (refine q_var M ?_; clear M; intro z w M) | (refine q_row M (by rfl) ?_; clear M; intro q w M)); refine hK _ _ ?_; clear hK K) | ((go_at_call 21); refine (M.eatF HE.out _ _ (by exact Dec.out (by assumption))).mono ?_; clear M; rintro e w ⟨rfl, M⟩) | (go_at_call 21; refine M.eat HE.out _ _ ?_ ?_ <;> (clear M; intro w hs M)) | (go_at_call 22; refine (M.name HE.out).mono ?_; clear M; rintro e w ⟨rfl, M⟩) | (go_at_call 45; refine (M.number HE.out).mono ?_; clear M; rintro e w ⟨rfl, M⟩) | (go_at_call 26; refine (M.miss HE.out).mono ?_; clear M; rintro e w ⟨rfl, M⟩) | (go_at_call 24; refine (M.mark HE.out _).mono ?_; clear M; rintro e w ⟨rfl, M⟩) | (go_at_call 44; refine (M.word HE.out _).mono ?_; clear M; rintro e w ⟨rfl, M⟩) | (go_at_call 55; refine (M.operand HE.out).mono ?_; clear M; rintro e w ⟨rfl, M⟩) | (go_at_call 41; refine M.sees HE.out _ _ ?_ ?_ <;> (clear M; intro w hs M)) | (go_at_call 48; refine (M.fail _ (by decide)).mono ?_; clear M; rintro e w ⟨rfl, M⟩))
  go_end0
  exact ⟨rfl, x, v1, v2, v3, v4, v6, M, by omega, fun h => absurd h (must_bad (miss_bad _))⟩
set_option maxRecDepth 8000 in
set_option maxHeartbeats 2000000 in
theorem clause_none2 (M : Mem (RdAt b ao n cap) b u w s (RulL u zx x v1 v2 v3 v4 v6 L)) (hE : Env T b ao n cap u) (hB : rulN x ≤ 5000) (hW : Dec (seesB T 1 wWhen s = false)) (hN : Dec (seesB T 1 wNot s = false)) (hM : Dec (seesB T 1 wMany s = false)) (hL : Dec (seesB T 1 wWhere s = false)) (hQ : x.etype ≠ ByteArray.empty) :
    Calls Tryd.prog 25 #[.pointer (some ⟨b, 0, none⟩), .pointer (some ⟨zx, 0, none⟩)] w (ClaPost (RdAt b ao n cap) b u L zx x (clauseS T x s)) := by
  rw [cla_none hW.out hN.out hM.out hL.out (.inl hQ)]
  have hq : x.etype.toList.isEmpty = false := nonempty_list hQ
  have HQ := Lib.hid hQ
  clear hQ
  have HE := Lib.hid hE
  have HB := Lib.hid hB
  clear hE hB
  unfold RulL at M
  go_enter Tryd.func25, Tryd.ntmps25
  go_wp2_with (first | ((with_reducible refine o_list rfl fun K hK => ?_); (first | (first | refine q_all M (by rfl) ?_ | refine q_get M (by exact rfl) ?_ | refine q_part M (by rfl) (by simp only [laid, opdC, List.take_succ_cons, List.take_zero, List.drop_succ_cons, List.drop_zero, List.length_cons, List.length_nil, List.cons_append, List.nil_append, Nat.reduceAdd] <;> rfl) ?_ | refine q_pos M ?_ | refine q_toks M ?_ | refine q_old M (by assumption) (by assumption) (by assumption) ?_) | (first | ((first | refine q_setc M (by rfl) (by rfl) ?_ | refine q_set M (by rfl) (by rfl) ?_ | refine q_put M (by rfl) (by rfl) (by rfl) ?_ | refine q_in M (by rfl) (by rfl) (by rfl) ?_); clear M; intro w M; (try simp only [List.set_cons_zero, List.set_cons_succ, laid, opdC, cndC, patC, optC, lnkC, emiC, fldC, rulC, manC, List.take_succ_cons, List.take_zero, List.drop_succ_cons, List.drop_zero, List.length_cons, List.length_nil, List.cons_append, List.nil_append, Nat.reduceAdd, Nat.zero_add] at M)) | (refine q_adv M O1.out ?_; clear M; intro w M)) | (refine q_var M ?_; clear M; intro z w M) | (refine q_row M (by rfl) ?_; clear M; intro q w M)); refine hK _ _ ?_; clear hK K) | ((go_at_call 21); refine (M.eatF HE.out _ _ (by exact Dec.out (by assumption))).mono ?_; clear M; rintro e w ⟨rfl, M⟩) | (go_at_call 21; refine M.eat HE.out _ _ ?_ ?_ <;> (clear M; intro w hs M)) | (go_at_call 22; refine (M.name HE.out).mono ?_; clear M; rintro e w ⟨rfl, M⟩) | (go_at_call 45; refine (M.number HE.out).mono ?_; clear M; rintro e w ⟨rfl, M⟩) | (go_at_call 26; refine (M.miss HE.out).mono ?_; clear M; rintro e w ⟨rfl, M⟩) | (go_at_call 24; refine (M.mark HE.out _).mono ?_; clear M; rintro e w ⟨rfl, M⟩) | (go_at_call 44; refine (M.word HE.out _).mono ?_; clear M; rintro e w ⟨rfl, M⟩) | (go_at_call 55; refine (M.operand HE.out).mono ?_; clear M; rintro e w ⟨rfl, M⟩) | (go_at_call 41; refine M.sees HE.out _ _ ?_ ?_ <;> (clear M; intro w hs M)) | (go_at_call 48; refine (M.fail _ (by decide)).mono ?_; clear M; rintro e w ⟨rfl, M⟩))
  go_end0
  exact ⟨rfl, x, v1, v2, v3, v4, v6, M, by omega, fun h => absurd h (must_bad (miss_bad _))⟩
theorem clause_any (M : Mem (RdAt b ao n cap) b u w s (RulL u zx x v1 v2 v3 v4 v6 L)) (hE : Env T b ao n cap u) (hB : rulN x ≤ 5000) :
    Calls Tryd.prog 25 #[.pointer (some ⟨b, 0, none⟩), .pointer (some ⟨zx, 0, none⟩)] w (ClaPost (RdAt b ao n cap) b u L zx x (clauseS T x s)) := by
  cases hW : seesB T 1 wWhen s with
  | true => exact clause_when M hE hB hW
  | false =>
    cases hN : seesB T 1 wNot s with
    | true => exact clause_not M hE hB hW hN
    | false =>
      cases hM : seesB T 1 wMany s with
      | true => exact clause_many M hE hB hW hN hM
      | false =>
        cases hL : seesB T 1 wWhere s with
        | true => exact clause_where M hE hB hW hN hM hL
        | false =>
          by_cases hQ : x.etype = ByteArray.empty
          · cases hX : seesB T 1 wEmit s with
            | true => exact clause_emit M hE hB hW hN hM hL hQ hX
            | false => exact clause_none1 M hE hB hW hN hM hL hQ hX
          · exact clause_none2 M hE hB hW hN hM hL hQ
end
end Go.Proofs.YtobnaokknkmlcaaDoor
/-
  The parser's data in memory, whole: types, rules, books; what is owned read as data.
-/
namespace Go.Proofs.YtobnaokknkmlcaaDoor
open Go.RowKit
set_option linter.unusedVariables false
set_option linter.unusedSimpArgs false

def typC (t : Typ) (ao : Option Addr) (n cap : Nat) : List Value := [.string t.name, .slice ao n cap]
def typF (F : Nat → Prop) (w : World) (row : List Value) (t : Typ) : Prop := ∃ ao n cap, row = typC t ao n cap ∧ SlF F w 2 (plainF fldC) ao n cap t.fields
theorem typF_firm : Firm typF := fun F G w w' row x hs ⟨ao, n, cap, h1, h2⟩ => ⟨ao, n, cap, h1, h2.same (plainF_firm _) hs⟩
def rulF (F : Nat → Prop) (w : World) (row : List Value) (x : Rul) : Prop :=
  ∃ a1 n1 c1 a2 n2 c2 a3 n3 c3 a4 n4 c4 a6 n6 c6, row = rulC x (.slice a1 n1 c1) (.slice a2 n2 c2) (.slice a3 n3 c3) (.slice a4 n4 c4) (.slice a6 n6 c6) ∧
    SlF F w 18 patF a1 n1 c1 x.whens ∧ SlF F w 18 patF a2 n2 c2 x.nots ∧ SlF F w 20 manF a3 n3 c3 x.manies ∧ SlF F w 3 lnkF a4 n4 c4 x.links ∧ SlF F w 6 opdF a6 n6 c6 x.evals
theorem rulF_firm : Firm rulF := fun F G w w' row x hs ⟨a1, n1, c1, a2, n2, c2, a3, n3, c3, a4, n4, c4, a6, n6, c6, h, h1, h2, h3, h4, h6⟩ =>
  ⟨a1, n1, c1, a2, n2, c2, a3, n3, c3, a4, n4, c4, a6, n6, c6, h, h1.same patF_firm hs, h2.same patF_firm hs, h3.same manF_firm hs, h4.same lnkF_firm hs, h6.same opdF_firm hs⟩
section
variable {At : PS → World → Prop} {b : Nat} {u w : World} {s : PS} {L K : List Ent}
theorem Mem.both {G1 G2 : (Nat → Prop) → World → Prop} (f1 : FirmD G1) (f2 : FirmD G2) (M : Mem At b u w s (dat G1 :: dat G2 :: L)) : Mem At b u w s (dat (fun F w => G1 F w ∧ G2 F w) :: L) := by
  have M2 : Mem At b u w s ([dat (fun F w => G1 F w ∧ G2 F w)] ++ L) := Mem.frame (A := [dat G1, dat G2]) M M.at_ M.but (Nat.le_refl _) (fun _ _ _ _ => rfl)
    (fun f hf => by rw [List.mem_singleton.1 hf]; exact dat_firm fun F F' w w' hs h => ⟨f1 F F' w w' hs h.1, f2 F F' w w' hs h.2⟩)
    (fun f hf z hz => by rw [List.mem_singleton.1 hf] at hz; cases hz) (fun f hf z hz => by rw [List.mem_singleton.1 hf] at hz; cases hz) (List.pairwise_singleton _ _)
    (fun G hG _ _ f hf => by
      rw [List.mem_singleton.1 hf]
      have h1 := M.dat_ (i := 0) rfl
      have h2 := M.dat_ (i := 1) rfl
      exact ⟨f1 _ _ _ _ (Same.wide fun k hk _ => hG k hk) h1, f2 _ _ _ _ (Same.wide fun k hk _ => hG k hk) h2⟩)
  exact M2
theorem Mem.doneA (A : List Ent) {α : Type} {R : (Nat → Prop) → World → List Value → α → Prop} (hR : Firm R) {e k : Nat} (hk : 0 < k) {o : Value} {xs : List α} (M : Mem At b u w s (A ++ slc u.heap.size e k R o xs :: K)) :
    ∃ ao cap, o = .slice ao xs.length cap ∧ Mem At b u w s (A ++ dat (fun F w => SlF F w k R ao xs.length cap xs) :: K) := by
  obtain ⟨ao, cap, e1, M1⟩ := (M.perm List.perm_middle).done hR hk
  exact ⟨ao, cap, e1, M1.perm List.perm_middle.symm⟩
theorem fnd {α : Type} {R : (Nat → Prop) → World → List Value → α → Prop} (hR : Firm R) {k : Nat} {ao : Option Addr} {n cap : Nat} {xs : List α} : FirmD (fun F w => SlF F w k R ao n cap xs) := fun F F' w w' hs h => SlF.same h hR hs
theorem fnd_and {G1 G2 : (Nat → Prop) → World → Prop} (f1 : FirmD G1) (f2 : FirmD G2) : FirmD (fun F w => G1 F w ∧ G2 F w) := fun F F' w w' hs h => ⟨f1 F F' w w' hs h.1, f2 F F' w w' hs h.2⟩
theorem fnd_ev {v : Value} {vs : List Opd} : FirmD (fun F w => ∃ ao n cap, v = .slice ao n cap ∧ SlF F w 6 opdF ao n cap vs) := fun F F' w w' hs ⟨ao, n, cap, h1, h2⟩ => ⟨ao, n, cap, h1, h2.same opdF_firm hs⟩
theorem Mem.turnD {G G' : (Nat → Prop) → World → Prop} (f : FirmD G) (f' : FirmD G') (h : ∀ F, G F w → G' F w) (M : Mem At b u w s (dat G :: L)) : Mem At b u w s (dat G' :: L) :=
  M.turn _ (dat_firm f') (fun z hz => by cases hz) (fun F F' h1 _ hF => f' _ _ _ _ (Same.wide fun k hk _ => h1 k hk) (h F hF))
/-- A rule that was read, as data. -/
theorem rul_done {zx : Nat} {x : Rul} {v1 v2 v3 v4 v6 : Value} (M : Mem At b u w s (RulL u zx x v1 v2 v3 v4 v6 L)) :
    Mem At b u w s (own zx (rulC x v1 v2 v3 v4 v6) 58 :: dat (fun F w => rulF F w (rulC x v1 v2 v3 v4 v6) x) :: L) := by
  unfold RulL at M
  obtain ⟨a1, c1, e1, M⟩ := Mem.doneA [_] patF_firm (by omega) M
  obtain ⟨a2, c2, e2, M⟩ := Mem.doneA [_, _] patF_firm (by omega) M
  obtain ⟨a3, c3, e3, M⟩ := Mem.doneA [_, _, _] manF_firm (by omega) M
  obtain ⟨a4, c4, e4, M⟩ := Mem.doneA [_, _, _, _] lnkF_firm (by omega) M
  subst e1 e2 e3 e4
  have M1 := M.perm (List.perm_middle (a := own zx (rulC x _ _ _ _ v6) 58) (l₁ := [_, _, _, _, _]) (l₂ := L)).symm
  have M2 : Mem At b u w s (dat _ :: dat _ :: dat _ :: dat _ :: dat _ :: own zx _ _ :: L) := M1
  have f1 := fnd (k := 18) (ao := a1) (n := x.whens.length) (cap := c1) (xs := x.whens) patF_firm
  have f2 := fnd (k := 18) (ao := a2) (n := x.nots.length) (cap := c2) (xs := x.nots) patF_firm
  have f3 := fnd (k := 20) (ao := a3) (n := x.manies.length) (cap := c3) (xs := x.manies) manF_firm
  have f4 := fnd (k := 3) (ao := a4) (n := x.links.length) (cap := c4) (xs := x.links) lnkF_firm
  have M3 := Mem.both (fnd_and (fnd_and (fnd_and f1 f2) f3) f4) fnd_ev (Mem.both (fnd_and (fnd_and f1 f2) f3) f4 (Mem.both (fnd_and f1 f2) f3 (Mem.both f1 f2 M2)))
  have M4 := Mem.turnD (G' := fun F w => rulF F w (rulC x (.slice a1 x.whens.length c1) (.slice a2 x.nots.length c2) (.slice a3 x.manies.length c3) (.slice a4 x.links.length c4) v6) x) (fnd_and (fnd_and (fnd_and (fnd_and f1 f2) f3) f4) fnd_ev)
    (fun F F' w w' hs h => rulF_firm _ _ _ _ _ _ hs h) (fun F ⟨⟨⟨⟨h1, h2⟩, h3⟩, h4⟩, a6, n6, c6, h5, h6⟩ => ⟨a1, _, c1, a2, _, c2, a3, _, c3, a4, _, c4, a6, n6, c6, by rw [h5], h1, h2, h3, h4, h6⟩) M3
  exact M4.perm (List.Perm.swap _ _ _)
end
end Go.Proofs.YtobnaokknkmlcaaDoor
/-
  The walk of package parse's reader, eighteenth part: a rule's clauses, one behind the other; books.
-/
namespace Go.Proofs.YtobnaokknkmlcaaDoor
open Go.RowKit
set_option linter.unusedVariables false
set_option linter.unusedSimpArgs false

def RulRel (At : PS → World → Prop) (b : Nat) (T : List Tok) (u : World) (L : List Ent) (zx : Nat) (R : Rul × PS) (f : Nat) (w : World) : Prop :=
  ∃ x' x s v1 v2 v3 v4 v6, Mem At b u w s (RulL u zx x' v1 v2 v3 v4 v6 L) ∧ clausesL T f x s = R ∧ left_ T s < f ∧ rulN x' + f ≤ T.length + 2 ∧ (s.e = 0 → x' = x)
def bokC (v1 v2 : Value) : List Value := [v1, v2]
def BokL (u : World) (zb : Nat) (bk : Bok) (v1 v2 : Value) (L : List Ent) : List Ent :=
  own zb (bokC v1 v2) 26 :: slc u.heap.size 46 2 typF v1 bk.types :: slc u.heap.size 58 7 rulF v2 bk.rules :: L
def BokRel (At : PS → World → Prop) (b : Nat) (T : List Tok) (u : World) (L : List Ent) (zb : Nat) (R : Bok × PS) (f : Nat) (w : World) : Prop :=
  ∃ bk' bk s v1 v2, Mem At b u w s (BokL u zb bk' v1 v2 L) ∧ bookL T f bk s = R ∧ left_ T s < f ∧ bk'.types.length + bk'.rules.length + f ≤ T.length + 2 ∧ (s.e = 0 → bk' = bk)
def BokPost (At : PS → World → Prop) (b : Nat) (u : World) (L : List Ent) (r : Bok × PS) : Ending → World → Prop := fun e w' =>
  ∃ bk a1 n1 c1 a2 n2 c2, e = .returned (.agg (bokC (.slice a1 n1 c1) (.slice a2 n2 c2)).toArray) ∧ Mem At b u w' r.2 (dat (fun F w => SlF F w 2 typF a1 n1 c1 bk.types ∧ SlF F w 7 rulF a2 n2 c2 bk.rules) :: L) ∧ (r.2.e = 0 → bk = r.1)
section
variable {T : List Tok} {b : Nat} {ao : Option Addr} {n cap : Nat} {s : PS} {u w : World} {L : List Ent} {At : PS → World → Prop}
theorem Mem.going (M : Mem (RdAt b ao n cap) b u w s L) (g : Bool) (hg : decide (s.e = 0) = g) : Calls Tryd.prog 20 #[.pointer (some ⟨b, 0, none⟩)] w fun e w' => e = .returned (.bool g) ∧ Mem (RdAt b ao n cap) b u w' s L :=
  (going_is M.at_ g hg 0).mono fun e w' ⟨h1, h2⟩ => ⟨h1, h2 ▸ M⟩
theorem sees_end {k : Int} {x : ByteArray} {s : PS} (h : ¬ s.pos < T.length) : seesB T k x s = false := by
  cases hs : seesB T k x s with
  | false => rfl
  | true => exact absurd (sees_ok hs).2 h
theorem clause_goes2 (x : Rul) (s : PS) : (s.pos < (clauseS T x s).2.pos ∧ s.pos < T.length) ∨ (clauseS T x s).2.e ≠ 0 := by
  by_cases hp : s.pos < T.length
  · rcases clause_goes (T := T) x s with h | h
    · exact .inl ⟨h, hp⟩
    · exact .inr h
  · right
    rw [cla_none (sees_end hp) (sees_end hp) (sees_end hp) (sees_end hp) (.inr (sees_end hp))]
    exact must_bad (miss_bad _)
theorem clausesL_shut {f : Nat} {x : Rul} {s : PS} (h : left_ T s < f) (hs : seesB T 4 mRight s = true) : clausesL T f x s = (x, adv s) := by
  obtain ⟨f', rfl⟩ : ∃ f', f = f' + 1 := ⟨f - 1, by omega⟩
  rw [clausesL, if_pos (sees_ok hs).1, if_pos hs]
theorem clausesL_bad {f : Nat} {x : Rul} {s : PS} (h : s.e ≠ 0) : clausesL T f x s = (x, s) := (clausesL_mono f x s).2 h
theorem clausesL_more {f : Nat} {x : Rul} {s : PS} (h : left_ T s < f) (he : s.e = 0) (hs : seesB T 4 mRight s = false) : ∃ f', f = f' + 1 ∧ left_ T (clauseS T x s).2 < f' ∧ clausesL T f x s = clausesL T f' (clauseS T x s).1 (clauseS T x s).2 := by
  obtain ⟨f', rfl⟩ : ∃ f', f = f' + 1 := ⟨f - 1, by omega⟩
  refine ⟨f', rfl, ?_, ?_⟩
  · have := left_less he ((clauseS_fine (T := T) x).mono s) (clause_goes2 x s)
    omega
  · rw [clausesL, if_pos he, hs]; rfl
theorem bookL_stop {f : Nat} {bk : Bok} {s : PS} (h : ¬ (s.e = 0 ∧ s.pos < T.length)) : bookL T f bk s = (bk, s) := by
  cases f with
  | zero => rfl
  | succ f => rw [bookL, if_neg h]
theorem typ_goes (s : PS) : s.pos ≤ (typS T s).2.pos := (typS_fine (T := T)).mono s
theorem rul_goes (s : PS) : s.pos ≤ (rulS T s).2.pos := (rulS_fine (T := T)).mono s
theorem bookL_type {f : Nat} {bk : Bok} {s : PS} (h : left_ T s < f) (hs : seesB T 1 wType s = true) : ∃ f', f = f' + 1 ∧ left_ T (typS T (adv s)).2 < f' ∧ bookL T f bk s = bookL T f' { bk with types := bk.types ++ [(typS T (adv s)).1] } (typS T (adv s)).2 := by
  obtain ⟨f', rfl⟩ : ∃ f', f = f' + 1 := ⟨f - 1, by omega⟩
  have h1 := typ_goes (T := T) (adv s)
  have h2 := sees_ok hs
  rw [adv_pos] at h1
  refine ⟨f', rfl, ?_, ?_⟩
  · have := left_less (T := T) (s' := (typS T (adv s)).2) h2.1 (by omega) (.inl ⟨by omega, h2.2⟩)
    omega
  · rw [bookL, if_pos h2, if_pos hs]
theorem bookL_rule {f : Nat} {bk : Bok} {s : PS} (h : left_ T s < f) (h0 : seesB T 1 wType s = false) (hs : seesB T 1 wRule s = true) : ∃ f', f = f' + 1 ∧ left_ T (rulS T (adv s)).2 < f' ∧ bookL T f bk s = bookL T f' { bk with rules := bk.rules ++ [(rulS T (adv s)).1] } (rulS T (adv s)).2 := by
  obtain ⟨f', rfl⟩ : ∃ f', f = f' + 1 := ⟨f - 1, by omega⟩
  have h1 := rul_goes (T := T) (adv s)
  have h2 := sees_ok hs
  rw [adv_pos] at h1
  refine ⟨f', rfl, ?_, ?_⟩
  · have := left_less (T := T) (s' := (rulS T (adv s)).2) h2.1 (by omega) (.inl ⟨by omega, h2.2⟩)
    omega
  · rw [bookL, if_pos h2, h0, if_neg (by simp), if_pos hs]
theorem bookL_miss {f : Nat} {bk : Bok} {s : PS} (h : left_ T s < f) (he : s.e = 0) (hp : s.pos < T.length) (h0 : seesB T 1 wType s = false) (hs : seesB T 1 wRule s = false) : ∃ f', f = f' + 1 ∧ left_ T (missS T s) < f' ∧ bookL T f bk s = bookL T f' bk (missS T s) := by
  obtain ⟨f', rfl⟩ : ∃ f', f = f' + 1 := ⟨f - 1, by omega⟩
  refine ⟨f', rfl, ?_, ?_⟩
  · have := left_less (T := T) (s' := missS T s) he (by rw [miss_pos]; omega) (.inr (miss_bad s))
    omega
  · rw [bookL, if_pos ⟨he, hp⟩, h0, if_neg (by simp), hs, if_neg (by simp)]
theorem left_le (s : PS) : left_ T s < T.length + 2 := by unfold left_; split <;> omega
/-- The start of a rule. -/
theorem rul_start {zx : Nat} {nm : ByteArray} (M : Mem At b u w s (own zx [.string nm, .slice none 0 0, .slice none 0 0, .slice none 0 0, .slice none 0 0, .string ByteArray.empty, .slice none 0 0] 58 :: L)) :
    Mem At b u w s (RulL u zx (rul0 nm) (.slice none 0 0) (.slice none 0 0) (.slice none 0 0) (.slice none 0 0) (.slice none 0 0) L) := by
  have M0 := M.plain (G := fun F w => ∃ ao n cap, (Value.slice none 0 0) = .slice ao n cap ∧ SlF F w 6 opdF ao n cap []) fnd_ev (fun F => ⟨none, 0, 0, rfl, SlF.nil⟩)
  have M1 := (((M0.none_ (R := lnkF) lnkF_firm 90 3).none_ (R := manF) manF_firm 87 20).none_ (R := patF) patF_firm 83 18).none_ (R := patF) patF_firm 83 18
  exact M1.perm (List.perm_middle (l₁ := [_, _, _, _, _]) (l₂ := L))
end
end Go.Proofs.YtobnaokknkmlcaaDoor
/-
  The walk of package parse's reader, nineteenth part: a book. Printed by pr3.py.
-/
namespace Go.Proofs.YtobnaokknkmlcaaDoor
open Go.RowKit
set_option linter.unusedVariables false
set_option linter.unusedSimpArgs false

section
variable {T : List Tok} {b : Nat} {ao : Option Addr} {n cap : Nat} {s : PS} {u w : World} {L : List Ent} {At : PS → World → Prop}
theorem typp {s : PS} {bk : Bok} {fs : List Fld} (hp : (fldsS T (nameS T (adv s)).2).2.e = 0 → fs = (fldsS T (nameS T (adv s)).2).1) (h : (typS T (adv s)).2.e = 0) :
    ({ bk with types := bk.types ++ [⟨(nameS T (adv s)).1, fs⟩] } : Bok) = { bk with types := bk.types ++ [(typS T (adv s)).1] } := by
  rw [hp h]
  rfl
theorem rul_vs {F : Nat → Prop} {w : World} {x : Rul} {v1 v2 v3 v4 v6 : Value} (h : rulF F w (rulC x v1 v2 v3 v4 v6) x) : ∃ a1 n1 c1 a2 n2 c2 a3 n3 c3 a4 n4 c4 a6 n6 c6, v1 = .slice a1 n1 c1 ∧ v2 = .slice a2 n2 c2 ∧ v3 = .slice a3 n3 c3 ∧ v4 = .slice a4 n4 c4 ∧ v6 = .slice a6 n6 c6 := by
  obtain ⟨a1, n1, c1, a2, n2, c2, a3, n3, c3, a4, n4, c4, a6, n6, c6, hr, _⟩ := h
  unfold rulC at hr
  simp only [List.cons.injEq, and_true, true_and] at hr
  exact ⟨a1, n1, c1, a2, n2, c2, a3, n3, c3, a4, n4, c4, a6, n6, c6, hr⟩
set_option maxRecDepth 8000 in
set_option maxHeartbeats 4000000 in
theorem book_any (M : Mem (RdAt b ao n cap) b u w ⟨0, 0⟩ L) (hE : Env T b ao n cap u) :
    Calls Tryd.prog 9 #[.pointer (some ⟨b, 0, none⟩)] w (BokPost (RdAt b ao n cap) b u L (bookS T)) := by
  have HE := Lib.hid hE
  obtain ⟨l1, l2, l3, l4⟩ := hE.len
  have HL := Lib.hid (And.intro l1 l4)
  clear hE l1 l4
  generalize hRR : bookS T = RR
  have HRR := Lib.hid hRR
  clear hRR
  go_enter Tryd.func9, Tryd.ntmps9
  go_wp2_with (first | ((with_reducible refine o_list rfl fun K hK => ?_); (first | (first | refine q_all M (by rfl) ?_ | refine q_get M (by exact rfl) ?_ | refine q_part M (by rfl) (by simp only [laid, opdC, List.take_succ_cons, List.take_zero, List.drop_succ_cons, List.drop_zero, List.length_cons, List.length_nil, List.cons_append, List.nil_append, Nat.reduceAdd] <;> rfl) ?_ | refine q_pos M ?_ | refine q_toks M ?_ | refine q_old M (by assumption) (by assumption) (by assumption) ?_) | (first | ((first | refine q_setc M (by rfl) (by rfl) ?_ | refine q_set M (by rfl) (by rfl) ?_ | refine q_put M (by rfl) (by rfl) (by rfl) ?_ | refine q_in M (by rfl) (by rfl) (by rfl) ?_); clear M; intro w M; (try simp only [List.set_cons_zero, List.set_cons_succ, laid, opdC, cndC, patC, optC, lnkC, emiC, fldC, rulC, manC, typC, bokC, List.take_succ_cons, List.take_zero, List.drop_succ_cons, List.drop_zero, List.length_cons, List.length_nil, List.cons_append, List.nil_append, Nat.reduceAdd, Nat.zero_add] at M)) | (refine q_adv M O1.out ?_; clear M; intro w M)) | (refine q_var M ?_; clear M; intro z w M) | (refine q_row M (by rfl) ?_; clear M; intro q w M)); refine hK _ _ ?_; clear hK K))
  generalize hL2 : (_ :: L : List Ent) = L2 at M
  rcases (⟨z, rfl⟩ : ∃ zb, zb = z) with ⟨zb, hzb⟩
  subst hzb
  have M2 := ((M.none_ (R := rulF) rulF_firm 58 7).none_ (R := typF) typF_firm 46 2).perm (List.perm_middle (l₁ := [_, _]) (l₂ := L2))
  have R0 : BokRel (RdAt b ao n cap) b T u L2 zb RR (T.length + 2) w := ⟨⟨[], []⟩, ⟨[], []⟩, ⟨0, 0⟩, _, _, M2, HRR.out, left_le _, by simp, fun _ => rfl⟩
  have HL2 := Lib.hid hL2
  clear M M2 hL2
  go_loopg [19] (T.length + 2) (fun f _ wr => BokRel (RdAt b ao n cap) b T u L2 zb RR f wr)
  case atStart => exact R0
  case round =>
    obtain ⟨bk', bk, s', v1, v2, M, hR, hf, hl, hx⟩ := hrel
    have HR := Lib.hid hR
    have HX := Lib.hid hx
    have HF := Lib.hid (And.intro hf hl)
    clear hR hx hf hl R0
    unfold BokL at M
    by_cases he : s'.e = 0
    · by_cases hp : s'.pos < T.length
      · have hp1 : (s'.pos : Int) < n := by have := HL.out; omega
        have hp7 : (s'.pos : Int) ≤ 700 := by have := HL.out; omega
        have hpd : decide (s'.pos < n) = true := by simp; omega
        have O1 := Lib.hid he
        have HP0 := Lib.hid hp
        clear hp
        have HG : Hid (∀ wx, RdAt b ao n cap s' wx → ∀ m, Calls Tryd.prog 20 #[.pointer (some ⟨b, 0, none⟩)] (wx.drewN m) fun e w' => e = .returned (.bool true) ∧ w' = wx.drewN m) := fun wx hb => going_is hb true (by simpa using he)
        clear he
        go_wp2_with fail
        obtain ⟨c0, c1, c2, c3, fz⟩ := M.at_.open
        have hlt := M.at_.lt
        have HM := Lib.hid M.at_
        go_quiet ((go_at_call 20; with_reducible refine Calls.quiet_of_same (HG.out _ HM.out _)))
        replace M := M.draws nq
        clear c0 c1 c2 c3 fz hlt HM HG
        generalize World.drewN _ nq = w at M ⊢
        go_wp2_with (first | ((with_reducible refine o_list rfl fun K hK => ?_); (first | (first | refine q_all M (by rfl) ?_ | refine q_get M (by exact rfl) ?_ | refine q_part M (by rfl) (by simp only [laid, opdC, List.take_succ_cons, List.take_zero, List.drop_succ_cons, List.drop_zero, List.length_cons, List.length_nil, List.cons_append, List.nil_append, Nat.reduceAdd] <;> rfl) ?_ | refine q_pos M ?_ | refine q_toks M ?_ | refine q_old M (by assumption) (by assumption) (by assumption) ?_) | (first | ((first | refine q_setc M (by rfl) (by rfl) ?_ | refine q_set M (by rfl) (by rfl) ?_ | refine q_put M (by rfl) (by rfl) (by rfl) ?_ | refine q_in M (by rfl) (by rfl) (by rfl) ?_); clear M; intro w M; (try simp only [List.set_cons_zero, List.set_cons_succ, laid, opdC, cndC, patC, optC, lnkC, emiC, fldC, rulC, manC, typC, bokC, List.take_succ_cons, List.take_zero, List.drop_succ_cons, List.drop_zero, List.length_cons, List.length_nil, List.cons_append, List.nil_append, Nat.reduceAdd, Nat.zero_add] at M)) | (refine q_adv M O1.out ?_; clear M; intro w M)) | (refine q_var M ?_; clear M; intro z w M) | (refine q_row M (by rfl) ?_; clear M; intro q w M)); refine hK _ _ ?_; clear hK K) | ((go_at_call 23); refine (fields_any M HE.out).mono ?_; clear M; rintro e w ⟨fs, ao1, n1, cap1, rfl, M, hp⟩; have HP := Lib.hid hp; clear hp) | ((with_reducible refine o_list rfl fun K hK => ?_); (refine q_app (R := typF) typF_firm M 4 rfl ⟨(nameS T (adv s')).1, fs⟩ (by refine ⟨ao1, n1, cap1, ?_, ?_⟩; exact rfl; exact M.dat_ (i := 1) rfl) (by rfl) (by rfl) (by have := HF.out; have := HL.out; omega) ?_; clear M; intro ra2 rc2 w M; (try simp only [List.set_cons_zero, List.set_cons_succ, laid, opdC, cndC, patC, optC, lnkC, emiC, fldC, rulC, manC, typC, bokC, List.take_succ_cons, List.take_zero, List.drop_succ_cons, List.drop_zero, List.length_cons, List.length_nil, List.cons_append, List.nil_append, Nat.reduceAdd, Nat.zero_add] at M)); refine hK _ _ ?_; clear hK K) | (go_at_call 21; refine M.eat HE.out _ _ ?_ ?_ <;> (clear M; intro w hs M)) | (go_at_call 22; refine (M.name HE.out).mono ?_; clear M; rintro e w ⟨rfl, M⟩) | (go_at_call 45; refine (M.number HE.out).mono ?_; clear M; rintro e w ⟨rfl, M⟩) | (go_at_call 26; refine (M.miss HE.out).mono ?_; clear M; rintro e w ⟨rfl, M⟩) | (go_at_call 24; refine (M.mark HE.out _).mono ?_; clear M; rintro e w ⟨rfl, M⟩) | (go_at_call 44; refine (M.word HE.out _).mono ?_; clear M; rintro e w ⟨rfl, M⟩) | (go_at_call 55; refine (M.operand HE.out).mono ?_; clear M; rintro e w ⟨rfl, M⟩) | (go_at_call 41; refine M.sees HE.out _ _ ?_ ?_ <;> (clear M; intro w hs M)) | (go_at_call 48; refine (M.fail _ (by decide)).mono ?_; clear M; rintro e w ⟨rfl, M⟩))
        · obtain ⟨hf, hl⟩ := HF.out
          obtain ⟨f', e1, e2, e3⟩ := bookL_type (T := T) (bk := bk) hf (Dec.out (by assumption))
          have E2 := Lib.hid e2
          have E3 := Lib.hid e3
          clear e2 e3
          replace M := M.drop.drop.drop
          go_roundg f'
          case measure => omega
          case rel => exact ⟨{ bk' with types := bk'.types ++ [⟨(nameS T (adv s')).1, fs⟩] }, { bk with types := bk.types ++ [(typS T (adv s')).1] }, (typS T (adv s')).2, _, v2, M, by rw [← E3.out]; exact HR.out, E2.out, by simp; omega, fun h => by rw [HX.out O1.out]; exact typp HP.out h⟩
        · obtain ⟨hf, hl⟩ := HF.out
          obtain ⟨f', e1, e2, e3⟩ := bookL_rule (T := T) (bk := bk) hf (Dec.out (by assumption)) (Dec.out (by assumption))
          have hg1 : f' < gk := by omega
          have hl1 : bk'.types.length + bk'.rules.length + f' + 1 ≤ T.length + 2 := by omega
          have HB := Lib.hid (And.intro hg1 (And.intro hl1 (And.intro e2 e3)))
          clear hg1 hl1 e1 e2 e3 hf hl
          have M3 := rul_start M
          have R1 : RulRel (RdAt b ao n cap) b T u (own zb (bokC v1 v2) 26 :: slc u.heap.size 46 2 typF v1 bk'.types :: slc u.heap.size 58 7 rulF v2 bk'.rules :: L2) z (rulS T (adv s')) (T.length + 2) w :=
            ⟨rul0 _, rul0 _, _, _, _, _, _, _, M3, rfl, left_le _, by simp [rulN, rul0], fun _ => rfl⟩
          generalize hR5 : rulS T (adv s') = R5 at R1
          have H5 := Lib.hid hR5
          clear M M3 hR5
          go_loopg [51] (T.length + 2) (fun f _ wr => RulRel (RdAt b ao n cap) b T u (own zb (bokC v1 v2) 26 :: slc u.heap.size 46 2 typF v1 bk'.types :: slc u.heap.size 58 7 rulF v2 bk'.rules :: L2) z R5 f wr)
          case atStart => exact R1
          case round =>
            obtain ⟨x', x, s5, w1, w2, w3, w4, w6, M, hR5, hf5, hl5, hx5⟩ := hrel
            have HR5 := Lib.hid hR5
            have HX5 := Lib.hid hx5
            have HF5 := Lib.hid (And.intro hf5 hl5)
            clear hR5 hx5 hf5 hl5 R1
            by_cases he5 : s5.e = 0
            · have HE5 := Lib.hid he5
              clear he5
              go_wp2_with (((go_at_call 20); refine (M.going true (by simpa using HE5.out)).mono ?_; clear M; rintro e w ⟨rfl, M⟩))
              refine M.eat HE.out _ _ ?_ ?_ <;> (clear M; intro w hs5 M)
              · have HS5 := Lib.hid (HR5.out.symm.trans (clausesL_shut HF5.out.1 hs5.out))
                replace HX5 : Hid ((adv s5).e = 0 → x' = x) := HX5.out
                replace M := rul_done M
                obtain ⟨a1, n1, c1, a2, n2, c2, a3, n3, c3, a4, n4, c4, a6, n6, c6, rfl, rfl, rfl, rfl, rfl⟩ := rul_vs (show rulF _ _ _ _ from M.dat_ (i := 1) rfl)
                go_wp2_with (first | ((with_reducible refine o_list rfl fun K hK => ?_); (first | (first | refine q_all M (by rfl) ?_ | refine q_get M (by exact rfl) ?_ | refine q_part M (by rfl) (by simp only [laid, opdC, List.take_succ_cons, List.take_zero, List.drop_succ_cons, List.drop_zero, List.length_cons, List.length_nil, List.cons_append, List.nil_append, Nat.reduceAdd] <;> rfl) ?_ | refine q_pos M ?_ | refine q_toks M ?_ | refine q_old M (by assumption) (by assumption) (by assumption) ?_) | (first | ((first | refine q_setc M (by rfl) (by rfl) ?_ | refine q_set M (by rfl) (by rfl) ?_ | refine q_put M (by rfl) (by rfl) (by rfl) ?_ | refine q_in M (by rfl) (by rfl) (by rfl) ?_); clear M; intro w M; (try simp only [List.set_cons_zero, List.set_cons_succ, laid, opdC, cndC, patC, optC, lnkC, emiC, fldC, rulC, manC, typC, bokC, List.take_succ_cons, List.take_zero, List.drop_succ_cons, List.drop_zero, List.length_cons, List.length_nil, List.cons_append, List.nil_append, Nat.reduceAdd, Nat.zero_add] at M)) | (refine q_adv M O1.out ?_; clear M; intro w M)) | (refine q_var M ?_; clear M; intro z w M) | (refine q_row M (by rfl) ?_; clear M; intro q w M)); refine hK _ _ ?_; clear hK K) | ((with_reducible refine o_list rfl fun K hK => ?_); (refine q_app (R := rulF) rulF_firm M 5 rfl x' (by exact M.dat_ (i := 2) rfl) (by rfl) (by rfl) (by have := HF.out; have := HL.out; omega) ?_; clear M; intro ra2 rc2 w M; (try simp only [List.set_cons_zero, List.set_cons_succ, laid, opdC, cndC, patC, optC, lnkC, emiC, fldC, rulC, manC, typC, bokC, List.take_succ_cons, List.take_zero, List.drop_succ_cons, List.drop_zero, List.length_cons, List.length_nil, List.cons_append, List.nil_append, Nat.reduceAdd, Nat.zero_add] at M)); refine hK _ _ ?_; clear hK K))
                obtain ⟨hg1, hl1, e2, e3⟩ := HB.out
                replace M := M.drop.drop.drop
                go_roundg f'
                case measure => exact hg1
                case rel =>
                  refine ⟨{ bk' with rules := bk'.rules ++ [x'] }, { bk with rules := bk.rules ++ [(rulS T (adv s')).1] }, (rulS T (adv s')).2, v1, .slice ra2 (bk'.rules.length + 1) rc2, ?_, by rw [← e3]; exact HR.out, e2, by simp; omega, fun h => ?_⟩
                  · rw [H5.out, HS5.out]; exact M
                  · rw [H5.out, HS5.out] at h ⊢
                    rw [HX.out O1.out, HX5.out h]
              · obtain rfl : x' = x := HX5.out HE5.out
                go_wp2_with ((go_at_call 25); refine (clause_any M HE.out (by have := HF5.out; have := HL.out; omega)).mono ?_; clear M; rintro e w ⟨rfl, x2, y1, y2, y3, y4, y6, M, hn2, hx2⟩; have HC2 := Lib.hid hx2; clear hx2)
                obtain ⟨hf5, hl5⟩ := HF5.out
                obtain ⟨f5, a1, a2, a3⟩ := clausesL_more (x := x') hf5 HE5.out hs5.out
                have A2 := Lib.hid a2
                have A3 := Lib.hid a3
                clear a2 a3
                go_roundg f5
                case measure => omega
                case rel => exact ⟨x2, (clauseS T x' s5).1, (clauseS T x' s5).2, y1, y2, y3, y4, y6, M, by rw [← A3.out]; exact HR5.out, A2.out, by omega, HC2.out⟩
            · have HS5 := Lib.hid (HR5.out.symm.trans (clausesL_bad (T := T) (f := gk) (x := x) he5))
              have HE5 := Lib.hid he5
              clear he5
              replace M := rul_done M
              obtain ⟨a1, n1, c1, a2, n2, c2, a3, n3, c3, a4, n4, c4, a6, n6, c6, rfl, rfl, rfl, rfl, rfl⟩ := rul_vs (show rulF _ _ _ _ from M.dat_ (i := 1) rfl)
              go_wp2_with (first | ((go_at_call 20); refine (M.going false (by simpa using HE5.out)).mono ?_; clear M; rintro e w ⟨rfl, M⟩) | ((with_reducible refine o_list rfl fun K hK => ?_); (first | (first | refine q_all M (by rfl) ?_ | refine q_get M (by exact rfl) ?_ | refine q_part M (by rfl) (by simp only [laid, opdC, List.take_succ_cons, List.take_zero, List.drop_succ_cons, List.drop_zero, List.length_cons, List.length_nil, List.cons_append, List.nil_append, Nat.reduceAdd] <;> rfl) ?_ | refine q_pos M ?_ | refine q_toks M ?_ | refine q_old M (by assumption) (by assumption) (by assumption) ?_) | (first | ((first | refine q_setc M (by rfl) (by rfl) ?_ | refine q_set M (by rfl) (by rfl) ?_ | refine q_put M (by rfl) (by rfl) (by rfl) ?_ | refine q_in M (by rfl) (by rfl) (by rfl) ?_); clear M; intro w M; (try simp only [List.set_cons_zero, List.set_cons_succ, laid, opdC, cndC, patC, optC, lnkC, emiC, fldC, rulC, manC, typC, bokC, List.take_succ_cons, List.take_zero, List.drop_succ_cons, List.drop_zero, List.length_cons, List.length_nil, List.cons_append, List.nil_append, Nat.reduceAdd, Nat.zero_add] at M)) | (refine q_adv M O1.out ?_; clear M; intro w M)) | (refine q_var M ?_; clear M; intro z w M) | (refine q_row M (by rfl) ?_; clear M; intro q w M)); refine hK _ _ ?_; clear hK K) | ((with_reducible refine o_list rfl fun K hK => ?_); (refine q_app (R := rulF) rulF_firm M 5 rfl x' (by exact M.dat_ (i := 2) rfl) (by rfl) (by rfl) (by have := HF.out; have := HL.out; omega) ?_; clear M; intro ra2 rc2 w M; (try simp only [List.set_cons_zero, List.set_cons_succ, laid, opdC, cndC, patC, optC, lnkC, emiC, fldC, rulC, manC, typC, bokC, List.take_succ_cons, List.take_zero, List.drop_succ_cons, List.drop_zero, List.length_cons, List.length_nil, List.cons_append, List.nil_append, Nat.reduceAdd, Nat.zero_add] at M)); refine hK _ _ ?_; clear hK K))
              obtain ⟨hg1, hl1, e2, e3⟩ := HB.out
              replace M := M.drop.drop.drop
              go_roundg f'
              case measure => exact hg1
              case rel =>
                refine ⟨{ bk' with rules := bk'.rules ++ [x'] }, { bk with rules := bk.rules ++ [(rulS T (adv s')).1] }, (rulS T (adv s')).2, v1, .slice ra2 (bk'.rules.length + 1) rc2, ?_, by rw [← e3]; exact HR.out, e2, by simp; omega, fun h => ?_⟩
                · rw [H5.out, HS5.out]; exact M
                · rw [H5.out, HS5.out] at h ⊢
                  rw [HX.out O1.out, HX5.out h]
        · obtain ⟨hf, hl⟩ := HF.out
          obtain ⟨f', e1, e2, e3⟩ := bookL_miss (T := T) (bk := bk) hf O1.out HP0.out (Dec.out (by assumption)) (Dec.out (by assumption))
          have E2 := Lib.hid e2
          have E3 := Lib.hid e3
          clear e2 e3
          go_roundg f'
          case measure => omega
          case rel => exact ⟨bk', bk, missS T s', v1, v2, M, by rw [← E3.out]; exact HR.out, E2.out, by omega, fun h => HX.out O1.out⟩
      · have hpn : (n : Int) ≤ s'.pos := by have := HL.out; omega
        have hpd : decide (s'.pos < n) = false := by simp; omega
        have HE2 := Lib.hid (HR.out.symm.trans (bookL_stop (T := T) (f := gk) (bk := bk) (s := s') (fun h => hp h.2)))
        clear hp
        obtain rfl := HL2.out
        clear HL2 HR HF
        have HG : Hid (∀ wx, RdAt b ao n cap s' wx → ∀ m, Calls Tryd.prog 20 #[.pointer (some ⟨b, 0, none⟩)] (wx.drewN m) fun e w' => e = .returned (.bool true) ∧ w' = wx.drewN m) := fun wx hb => going_is hb true (by simpa using he)
        clear he
        go_wp2_with fail
        obtain ⟨c0, c1, c2, c3, fz⟩ := M.at_.open
        have hlt := M.at_.lt
        have HM := Lib.hid M.at_
        go_quiet ((go_at_call 20; with_reducible refine Calls.quiet_of_same (HG.out _ HM.out _)))
        replace M := M.draws nq
        clear c0 c1 c2 c3 fz hlt HM HG
        generalize World.drewN _ nq = w at M ⊢
        obtain ⟨a1, k1, e1, M⟩ := Mem.doneA [_] typF_firm (by omega) M
        obtain ⟨a2, k2, e2, M⟩ := Mem.doneA [_, _] rulF_firm (by omega) M
        subst e1 e2
        simp only [List.cons_append, List.nil_append] at M
        go_wp2_with (first | ((try show bodyPost _ _ _ _ _ _); (refine q_ret M Tryd.results9 (by rfl) ?_)) | ((with_reducible refine o_list rfl fun K hK => ?_); (first | (first | refine q_all M (by rfl) ?_ | refine q_get M (by exact rfl) ?_ | refine q_part M (by rfl) (by simp only [laid, opdC, List.take_succ_cons, List.take_zero, List.drop_succ_cons, List.drop_zero, List.length_cons, List.length_nil, List.cons_append, List.nil_append, Nat.reduceAdd] <;> rfl) ?_ | refine q_pos M ?_ | refine q_toks M ?_ | refine q_old M (by assumption) (by assumption) (by assumption) ?_) | (first | ((first | refine q_setc M (by rfl) (by rfl) ?_ | refine q_set M (by rfl) (by rfl) ?_ | refine q_put M (by rfl) (by rfl) (by rfl) ?_ | refine q_in M (by rfl) (by rfl) (by rfl) ?_); clear M; intro w M; (try simp only [List.set_cons_zero, List.set_cons_succ, laid, opdC, cndC, patC, optC, lnkC, emiC, fldC, rulC, manC, typC, bokC, List.take_succ_cons, List.take_zero, List.drop_succ_cons, List.drop_zero, List.length_cons, List.length_nil, List.cons_append, List.nil_append, Nat.reduceAdd, Nat.zero_add] at M)) | (refine q_adv M O1.out ?_; clear M; intro w M)) | (refine q_var M ?_; clear M; intro z w M) | (refine q_row M (by rfl) ?_; clear M; intro q w M)); refine hK _ _ ?_; clear hK K))
        rw [HE2.out]
        exact ⟨bk', a1, _, k1, a2, _, k2, rfl, (Mem.both (fnd typF_firm) (fnd rulF_firm) M.drop).skip, HX.out⟩
    · have HE2 := Lib.hid (HR.out.symm.trans (bookL_stop (T := T) (f := gk) (bk := bk) (s := s') (fun h => he h.1)))
      obtain rfl := HL2.out
      clear HL2 HR HF
      have HG : Hid (∀ wx, RdAt b ao n cap s' wx → ∀ m, Calls Tryd.prog 20 #[.pointer (some ⟨b, 0, none⟩)] (wx.drewN m) fun e w' => e = .returned (.bool false) ∧ w' = wx.drewN m) := fun wx hb => going_is hb false (by simpa using he)
      clear he
      go_wp2_with fail
      obtain ⟨c0, c1, c2, c3, fz⟩ := M.at_.open
      have hlt := M.at_.lt
      have HM := Lib.hid M.at_
      go_quiet ((go_at_call 20; with_reducible refine Calls.quiet_of_same (HG.out _ HM.out _)))
      replace M := M.draws nq
      clear c0 c1 c2 c3 fz hlt HM HG
      generalize World.drewN _ nq = w at M ⊢
      obtain ⟨a1, k1, e1, M⟩ := Mem.doneA [_] typF_firm (by omega) M
      obtain ⟨a2, k2, e2, M⟩ := Mem.doneA [_, _] rulF_firm (by omega) M
      subst e1 e2
      simp only [List.cons_append, List.nil_append] at M
      go_wp2_with (first | ((try show bodyPost _ _ _ _ _ _); (refine q_ret M Tryd.results9 (by rfl) ?_)) | ((with_reducible refine o_list rfl fun K hK => ?_); (first | (first | refine q_all M (by rfl) ?_ | refine q_get M (by exact rfl) ?_ | refine q_part M (by rfl) (by simp only [laid, opdC, List.take_succ_cons, List.take_zero, List.drop_succ_cons, List.drop_zero, List.length_cons, List.length_nil, List.cons_append, List.nil_append, Nat.reduceAdd] <;> rfl) ?_ | refine q_pos M ?_ | refine q_toks M ?_ | refine q_old M (by assumption) (by assumption) (by assumption) ?_) | (first | ((first | refine q_setc M (by rfl) (by rfl) ?_ | refine q_set M (by rfl) (by rfl) ?_ | refine q_put M (by rfl) (by rfl) (by rfl) ?_ | refine q_in M (by rfl) (by rfl) (by rfl) ?_); clear M; intro w M; (try simp only [List.set_cons_zero, List.set_cons_succ, laid, opdC, cndC, patC, optC, lnkC, emiC, fldC, rulC, manC, typC, bokC, List.take_succ_cons, List.take_zero, List.drop_succ_cons, List.drop_zero, List.length_cons, List.length_nil, List.cons_append, List.nil_append, Nat.reduceAdd, Nat.zero_add] at M)) | (refine q_adv M O1.out ?_; clear M; intro w M)) | (refine q_var M ?_; clear M; intro z w M) | (refine q_row M (by rfl) ?_; clear M; intro q w M)); refine hK _ _ ?_; clear hK K))
      rw [HE2.out]
      exact ⟨bk', a1, _, k1, a2, _, k2, rfl, (Mem.both (fnd typF_firm) (fnd rulF_firm) M.drop).skip, HX.out⟩
end
end Go.Proofs.YtobnaokknkmlcaaDoor
/-
  The walk of parse.Parse: each token is checked, then the book is read.
-/
namespace Go.Proofs.YtobnaokknkmlcaaDoor
open Go.RowKit
set_option linter.unusedVariables false
set_option linter.unusedSimpArgs false

/-- What the first bad token is refused for; its place, from 1. -/
def badE (T : List Tok) (j : Nat) : Int := match T[j]? with | some t => tokE t.kind t.text t.int | none => 0
def badI (T : List Tok) (j : Nat) : Int := if badE T j = 0 then 0 else (j : Int) + 1
/-- Where Parse refuses, and what for (0: it does not). -/
def parE (T : List Tok) : Int × Int :=
  if 700 < T.length then (0, 8)
  else if firstN (badE T) T.length ≠ 0 then (firstN (badI T) T.length - 1, firstN (badE T) T.length)
  else if (bookS T).2.e ≠ 0 then ((bookS T).2.pos, (bookS T).2.e) else (0, 0)
def parB (T : List Tok) : Bok := if (parE T).2 = 0 then (bookS T).1 else ⟨[], []⟩
theorem badI_at {T : List Tok} {k : Nat} (h : AllZ (badE T) k) (hk : k < T.length) (hn : badE T k ≠ 0) : firstN (badE T) T.length = badE T k ∧ firstN (badI T) T.length = k + 1 := by
  refine ⟨firstN_at h hk hn, ?_⟩
  rw [firstN_at (k := k) (fun j hj => by unfold badI; rw [if_pos (h j hj)]) hk (by unfold badI; rw [if_neg hn]; omega)]
  unfold badI; rw [if_neg hn]
/-- A book is returned with a place and an error, all its data new. -/
def ParPost (w : World) (r : Bok × (Int × Int)) : Ending → World → Prop := fun e w' =>
  ∃ a1 n1 c1 a2 n2 c2, e = .returned (.tuple #[.agg (bokC (.slice a1 n1 c1) (.slice a2 n2 c2)).toArray, .int .i64 r.2.1, .int .i64 r.2.2]) ∧ Below w.heap.size w w' ∧ SlF (from_ w.heap.size) w' 2 typF a1 n1 c1 r.1.types ∧ SlF (from_ w.heap.size) w' 7 rulF a2 n2 c2 r.1.rules
/-- The block b stays as it was. -/
def StaysB (b : Nat) (u : World) : PS → World → Prop := fun _ w' => w'.heap[b]? = u.heap[b]?
section
variable {At : PS → World → Prop} {b z : Nat} {u w w' : World} {s : PS} {L : List Ent} {cs cs' : List Value} {t : TypeId}
theorem Mem.begin (h : b < u.heap.size) (s : PS) : Mem (StaysB b u) b u u s [] := Mem.empty rfl (fun s w w' h h' => h.trans h') h
theorem Mem.new (M : Mem (StaysB b u) b u w s L) : Below u.heap.size u w := M.but.new M.at_
/-- A block of one's own turned by a call, and nothing else that there was. -/
theorem Mem.turned (M : Mem At b u w s (own z cs t :: L)) (hb : But z w w') (ho : Own z cs' t w') : Mem At b u w' s (own z cs' t :: L) := by
  have h1 := M.ne (List.mem_cons_self ..)
  have hbl : b < w.heap.size := Nat.lt_of_lt_of_le M.lt M.size
  refine M.setAt (i := 0) (e := own z cs t) (e' := own z cs' t) rfl (M.stay s w w' (hb.rest b hbl (Ne.symm h1.2.1)) M.at_) ?_ hb.size (fun k hk hkb hkz => hb.rest k hk (fun e => hkz (by rw [e]; rfl))) (own_firm _ _ _) (fun y hy => ?_) (fun y hy => .inr hy) (fun G _ _ => ho)
  · exact ⟨M.but.below.trans (hb.below.mono (by have := M.lt; omega)), fun k hk hkb => (hb.rest k (Nat.lt_of_lt_of_le hk M.size) (by omega)).trans (M.but.rest k hk hkb)⟩
  · have e : z = y := by injection hy
    subst e
    exact ⟨h1.1, Nat.lt_of_lt_of_le h1.2.2 hb.size⟩
/-- Data that lie in blocks that nobody owns. -/
theorem Mem.adopt (M : Mem At b u w s L) {G : (Nat → Prop) → World → Prop} (f : FirmD G) {F : Nat → Prop} (h : G F w) (hF : ∀ k, F k → k < w.heap.size → free_ u w L k) : Mem At b u w s (dat G :: L) := by
  have M2 : Mem At b u w s ([dat G] ++ L) := Mem.frame (A := []) (by simpa using M) M.at_ M.but (Nat.le_refl _) (fun _ _ _ _ => rfl)
    (fun f' hf => by rw [List.mem_singleton.1 hf]; exact dat_firm f) (fun f hf z hz => by rw [List.mem_singleton.1 hf] at hz; cases hz) (fun f hf z hz => by rw [List.mem_singleton.1 hf] at hz; cases hz) (List.pairwise_singleton _ _)
    (fun G' hG _ _ e he => by
      rw [List.mem_singleton.1 he]
      exact f _ _ _ _ (Same.wide fun k hk hlt => hG k (by simpa using hF k hk hlt)) h)
  exact M2
end
section
variable {P : Program} {dst : Option Tmp} {oty : TypeId} {pos : String} {after : Array Edge} {g : Option (Nat × Bool)} {l : List Value} {ds : List Deferred} {Q : Exit → Act → World → Prop} {K : Act → World → Prop}
variable {At : PS → World → Prop} {b : Nat} {u w : World} {s : PS} {L : List Ent} {ty : TypeId} {j : Nat} {vs : List Value}
/-- A struct laid into a block of its own. -/
theorem q_box (M : Mem At b u w s L) [hy : Nth l j (.agg vs.toArray)] {F : Nat → List Value} [hd : ∀ z, PutI l dst (.pointer (some ⟨z, 0, none⟩)) (F z)] (h : ∀ z w', z = w.heap.size → w' = w.alloc (.cells vs.toArray ty) → Mem At b u w' s (own z vs ty :: L) → K ⟨(F z).toArray, ds⟩ w') :
    OWP P ⟨dst, .box ty (.tmp j), oty, pos, after, g⟩ ⟨l.toArray, ds⟩ w K Q := by
  refine owp_of ?_
  have hy' := eval_tmp (ds := ds) hy.nth
  unfold Oper.wp execOp
  simp only [Instr.box, hy', Sem.run_bind, newVar, newRow, newObj, Value.cells]
  have hlow : ∀ y, (own w.heap.size vs ty).blk = some y → w.heap.size ≤ y ∧ y < (w.alloc (.cells vs.toArray ty)).heap.size := fun y hy => by
    have e : w.heap.size = y := by injection hy
    subst e
    simp
  have key := h w.heap.size (w.alloc (.cells vs.toArray ty)) rfl rfl (M.push (Joins.below_alloc1 w _) (own_firm _ _ _) hlow (fun G _ => heap_alloc_new w _))
  rw [← (hd w.heap.size).put] at key
  exact key
theorem q_ret3 {fn : Func} {R : Ending → World → Prop} {j t1 t2 : Tmp} {ty : TypeId} {z : Nat} {cs : List Value} {t : TypeId} {i m : Nat} {r1 r2 : Value} (M : Mem At b u w s L) (hres : fn.results = #[.cell j ty, .tmp t1, .tmp t2]) [hp : Nth l j (.pointer (some ⟨z, 0, none⟩))] [h1 : Nth l t1 r1] [h2 : Nth l t2 r2]
    [hz : Has L z i cs t] [hT : StI P ty m] (hl : Nat.beq cs.length m = true) (hk : ∃ d, P.underlying ty = some d ∧ (match d with | .struct _ | .array _ _ => true | _ => false) = true) (hR : R (.returned (.tuple #[.agg cs.toArray, r1, r2])) w) : bodyPost P fn R .ret ⟨l.toArray, []⟩ w := by
  obtain ⟨d, hu, hd⟩ := hk
  have hO := M.own_ (Mem.of_get hz.at_)
  have hp' : (l.toArray)[j]?.getD undef = .pointer (some ⟨z, 0, none⟩) := by simp [hp.nth]
  have h1' : (l.toArray)[t1]?.getD undef = r1 := by simp [h1.nth]
  have h2' : (l.toArray)[t2]?.getD undef = r2 := by simp [h2.nth]
  refine bodyPost_ret ?_ rfl hR
  have hi : (P.info? ty).map (·.size) = some cs.toArray.size := by rw [List.size_toArray, Nat.eq_of_beq_eq_true hl]; exact hT.st.1
  have hL := run_loadVar_row w z t ty cs.toArray (0, 0) d hO hu (by cases d <;> simp_all) hi
  simp only [List.getElem?_toArray] at hp' h1' h2'
  simp [results, hres, hp', h1', h2', asAddr, hL]
end
end Go.Proofs.YtobnaokknkmlcaaDoor
/-
  The walk of parse.Parse, whole.
-/
namespace Go.Proofs.YtobnaokknkmlcaaDoor
open Go.RowKit
set_option linter.unusedVariables false
set_option linter.unusedSimpArgs false

theorem RowAt.range {w : World} {b o k : Nat} {row : List Value} (h : RowAt w b o k row) : w.rangeAt b o row := fun j v hj => by
  have hjl : j < row.length := (List.getElem?_eq_some_iff.1 hj).1
  rw [h.2 j (by rw [← h.1]; exact hjl), List.getD_eq_getElem?_getD, hj]; rfl
theorem parE_long {T : List Tok} (h : 700 < T.length) : parE T = (0, 8) := by unfold parE; rw [if_pos h]
theorem parE_bad {T : List Tok} {k : Nat} (h : T.length ≤ 700) (ha : AllZ (badE T) k) (hk : k < T.length) (hn : badE T k ≠ 0) : parE T = ((k : Int), badE T k) := by
  obtain ⟨h1, h2⟩ := badI_at ha hk hn
  unfold parE
  rw [if_neg (by omega), h1, if_pos hn, h2]
  congr 1
  omega
theorem parE_wrong {T : List Tok} (h : T.length ≤ 700) (ha : AllZ (badE T) T.length) (he : (bookS T).2.e ≠ 0) : parE T = (((bookS T).2.pos : Int), (bookS T).2.e) := by
  unfold parE
  rw [if_neg (by omega), firstN_zero ha, if_neg (by simp), if_pos he]
theorem parE_good {T : List Tok} (h : T.length ≤ 700) (ha : AllZ (badE T) T.length) (he : (bookS T).2.e = 0) : parE T = (0, 0) := by
  unfold parE
  rw [if_neg (by omega), firstN_zero ha, if_neg (by simp), he, if_neg (by simp)]
theorem parB_bad {T : List Tok} {i e : Int} (h : parE T = (i, e)) (he : e ≠ 0) : parB T = ⟨[], []⟩ := by unfold parB; rw [h]; exact if_neg he
theorem parB_good {T : List Tok} {i : Int} (h : parE T = (i, 0)) : parB T = (bookS T).1 := by unfold parB; rw [h]; exact if_pos rfl
theorem par_bad {T : List Tok} {w w' : World} {i e : Int} (h : parE T = (i, e)) (he : e ≠ 0) (hb : Below w.heap.size w w') :
    ParPost w (parB T, parE T) (.returned (.tuple #[.agg (bokC (.slice none 0 0) (.slice none 0 0)).toArray, .int .i64 i, .int .i64 e])) w' := by
  rw [parB_bad h he, h]
  exact ⟨none, 0, 0, none, 0, 0, rfl, hb, SlF.nil, SlF.nil⟩
set_option maxRecDepth 8000 in
set_option maxHeartbeats 4000000 in
theorem parse_any (T : List Tok) (F F' : Nat → Prop) (ao : Option Addr) (n cap : Nat) (W : World) (hT : SlF F W 3 tokF ao n cap T) (hM : SlF F' W 1 wordF (some ⟨0, 0, none⟩) 17 17 marksL)
    (hK : SlF F' W 1 wordF (some ⟨1, 0, none⟩) 17 17 keptL) (hR : SlF F' W 1 wordF (some ⟨2, 0, none⟩) 14 14 relsL) :
    Calls Tryd.prog 4 #[.slice ao n cap] W (ParPost W (parB T, parE T)) := by
  have hg : 0 < W.heap.size := by
    obtain ⟨b, off, row, e, hF, hlt, _⟩ := hM.2.2.2.2 0 (by decide)
    injection e with e; injection e with e1 e2
    rw [e1]; exact hlt
  have M := Mem.begin hg ⟨0, 0⟩
  have NL := Lib.hid hT.len
  have hle := hT.le
  have HT := Lib.hid hT
  by_cases h7 : 700 < T.length
  · have h7n : (700 : Int) < n := by have := NL.out; omega
    have HE := Lib.hid (parE_long h7)
    clear h7 hT hM hK hR hg
    go_enter Tryd.func4, Tryd.ntmps4
    go_wp2_with (first | ((try show bodyPost _ _ _ _ _ _); (refine q_ret3 M Tryd.results4 (by rfl) ⟨_, Tryd.underlying26, rfl⟩ ?_)) | ((with_reducible refine o_list rfl fun K hK => ?_); (first | (first | refine q_all M (by rfl) ?_ | refine q_get M (by exact rfl) ?_ | refine q_part M (by rfl) (by simp only [laid, opdC, List.take_succ_cons, List.take_zero, List.drop_succ_cons, List.drop_zero, List.length_cons, List.length_nil, List.cons_append, List.nil_append, Nat.reduceAdd] <;> rfl) ?_ | refine q_pos M ?_ | refine q_toks M ?_ | refine q_old M (by assumption) (by assumption) (by assumption) ?_) | (first | ((first | refine q_setc M (by rfl) (by rfl) ?_ | refine q_set M (by rfl) (by rfl) ?_ | refine q_put M (by rfl) (by rfl) (by rfl) ?_ | refine q_in M (by rfl) (by rfl) (by rfl) ?_); clear M; intro w M; (try simp only [List.set_cons_zero, List.set_cons_succ, laid, opdC, cndC, patC, optC, lnkC, emiC, fldC, rulC, manC, typC, bokC, List.take_succ_cons, List.take_zero, List.drop_succ_cons, List.drop_zero, List.length_cons, List.length_nil, List.cons_append, List.nil_append, Nat.reduceAdd, Nat.zero_add] at M)) | (refine q_adv M O1.out ?_; clear M; intro w M)) | (refine q_var M ?_; clear M; intro z w M) | (refine q_row M (by rfl) ?_; clear M; intro q w M)); refine hK _ _ ?_; clear hK K))
    exact par_bad HE.out (by decide) M.new
  · have h7n : (n : Int) ≤ 700 := by have := NL.out; omega
    have H7 : Hid (T.length ≤ 700) := Nat.le_of_not_lt h7
    have HM := Lib.hid hM
    have HKR := Lib.hid (And.intro hK hR)
    clear h7 hT hM hK hR hg
    go_enter Tryd.func4, Tryd.ntmps4
    go_wp2_with (first | ((with_reducible refine o_list rfl fun K hK => ?_); (first | (first | refine q_all M (by rfl) ?_ | refine q_get M (by exact rfl) ?_ | refine q_part M (by rfl) (by simp only [laid, opdC, List.take_succ_cons, List.take_zero, List.drop_succ_cons, List.drop_zero, List.length_cons, List.length_nil, List.cons_append, List.nil_append, Nat.reduceAdd] <;> rfl) ?_ | refine q_pos M ?_ | refine q_toks M ?_ | refine q_old M (by assumption) (by assumption) (by assumption) ?_) | (first | ((first | refine q_setc M (by rfl) (by rfl) ?_ | refine q_set M (by rfl) (by rfl) ?_ | refine q_put M (by rfl) (by rfl) (by rfl) ?_ | refine q_in M (by rfl) (by rfl) (by rfl) ?_); clear M; intro w M; (try simp only [List.set_cons_zero, List.set_cons_succ, laid, opdC, cndC, patC, optC, lnkC, emiC, fldC, rulC, manC, typC, bokC, List.take_succ_cons, List.take_zero, List.drop_succ_cons, List.drop_zero, List.length_cons, List.length_nil, List.cons_append, List.nil_append, Nat.reduceAdd, Nat.zero_add] at M)) | (refine q_adv M O1.out ?_; clear M; intro w M)) | (refine q_var M ?_; clear M; intro z w M) | (refine q_row M (by rfl) ?_; clear M; intro q w M)); refine hK _ _ ?_; clear hK K))
    go_loopw [16] (fun i wr => ∃ k : Nat, k ≤ n ∧ i = .int .i64 k ∧ Mem (StaysB 0 W) 0 W wr ⟨0, 0⟩ (own z [.slice none 0 0, .slice none 0 0] 26 :: []) ∧ Hid (AllZ (badE T) k)) (fun i _ => n - (intOf i).toNat)
    case atStart => exact ⟨0, Nat.zero_le _, rfl, M, allZ_zero _⟩
    case round =>
      obtain ⟨k, hkn, rfl, M, HA⟩ := hrel
      by_cases hlt : k < n
      · have hkl : k < T.length := by have := NL.out; omega
        have hb := M.new
        obtain ⟨c, off, row, hix, hclt, hrow, hrr⟩ := (HT.out.below tokF_firm hb).toR.index (P := Tryd.prog) Tryd.underlying22 size_tok (i := k) hkl
        have HBk : Hid (badE T k = tokE T[k].kind T[k].text T[k].int) := by show _ = _; unfold badE; rw [List.getElem?_eq_getElem hkl]
        generalize T[k] = t at hrr HBk
        have e1 : row = [.int .i64 t.kind, .string t.text, .int .i64 t.int] := hrr.1
        subst e1
        have hts := hrr.2
        have hr := hrow.range
        have HK : Hid (∀ wx, Below W.heap.size W wx → Calls Tryd.prog 8 #[.agg #[.int .i64 t.kind, .string t.text, .int .i64 t.int]] wx fun e w' => e = .returned (.int .i64 (badE T k)) ∧ Below wx.heap.size wx w') := fun wx hbx => by
          rw [HBk.out]
          exact tokCheck_any _ _ _ _ wx (by unfold maxLen; omega) (HM.out.below wordF_firm hbx)
        have HKL := Lib.hid hkl
        clear hrow hrr hts hb hkl HBk hclt
        generalize hq : badE T k = q at HK
        have HQ := Lib.hid hq
        clear hq
        by_cases hke : q = 0
        · subst hke
          go_wp2_with (first | ((with_reducible refine o_list rfl fun K hK => ?_); (first | (first | refine q_all M (by rfl) ?_ | refine q_get M (by exact rfl) ?_ | refine q_part M (by rfl) (by simp only [laid, opdC, List.take_succ_cons, List.take_zero, List.drop_succ_cons, List.drop_zero, List.length_cons, List.length_nil, List.cons_append, List.nil_append, Nat.reduceAdd] <;> rfl) ?_ | refine q_pos M ?_ | refine q_toks M ?_ | refine q_old M (by assumption) (by assumption) (by assumption) ?_) | (first | ((first | refine q_setc M (by rfl) (by rfl) ?_ | refine q_set M (by rfl) (by rfl) ?_ | refine q_put M (by rfl) (by rfl) (by rfl) ?_ | refine q_in M (by rfl) (by rfl) (by rfl) ?_); clear M; intro w M; (try simp only [List.set_cons_zero, List.set_cons_succ, laid, opdC, cndC, patC, optC, lnkC, emiC, fldC, rulC, manC, typC, bokC, List.take_succ_cons, List.take_zero, List.drop_succ_cons, List.drop_zero, List.length_cons, List.length_nil, List.cons_append, List.nil_append, Nat.reduceAdd, Nat.zero_add] at M)) | (refine q_adv M O1.out ?_; clear M; intro w M)) | (refine q_var M ?_; clear M; intro z w M) | (refine q_row M (by rfl) ?_; clear M; intro q w M)); refine hK _ _ ?_; clear hK K) | ((with_reducible refine o_list rfl fun K hK => ?_); refine q_at hr (by rfl) ?_; refine hK _ _ ?_; clear hK K) | ((go_at_call 8); refine (HK.out _ M.new).mono ?_; rintro e w1 ⟨rfl, hb1⟩; replace M := M.below hb1; clear hb1))
          replace M := M.drop
          go_roundw
          case rel => exact ⟨k + 1, by omega, by go_num, M, allZ_succ HA.out HQ.out⟩
          case measure => simp [intOf]; omega
        · have HE := Lib.hid (parE_bad H7.out HA.out HKL.out (by rw [HQ.out]; exact hke))
          go_wp2_with (first | ((try show bodyPost _ _ _ _ _ _); (refine q_ret3 M Tryd.results4 (by rfl) ⟨_, Tryd.underlying26, rfl⟩ ?_)) | ((with_reducible refine o_list rfl fun K hK => ?_); (first | (first | refine q_all M (by rfl) ?_ | refine q_get M (by exact rfl) ?_ | refine q_part M (by rfl) (by simp only [laid, opdC, List.take_succ_cons, List.take_zero, List.drop_succ_cons, List.drop_zero, List.length_cons, List.length_nil, List.cons_append, List.nil_append, Nat.reduceAdd] <;> rfl) ?_ | refine q_pos M ?_ | refine q_toks M ?_ | refine q_old M (by assumption) (by assumption) (by assumption) ?_) | (first | ((first | refine q_setc M (by rfl) (by rfl) ?_ | refine q_set M (by rfl) (by rfl) ?_ | refine q_put M (by rfl) (by rfl) (by rfl) ?_ | refine q_in M (by rfl) (by rfl) (by rfl) ?_); clear M; intro w M; (try simp only [List.set_cons_zero, List.set_cons_succ, laid, opdC, cndC, patC, optC, lnkC, emiC, fldC, rulC, manC, typC, bokC, List.take_succ_cons, List.take_zero, List.drop_succ_cons, List.drop_zero, List.length_cons, List.length_nil, List.cons_append, List.nil_append, Nat.reduceAdd, Nat.zero_add] at M)) | (refine q_adv M O1.out ?_; clear M; intro w M)) | (refine q_var M ?_; clear M; intro z w M) | (refine q_row M (by rfl) ?_; clear M; intro q w M)); refine hK _ _ ?_; clear hK K) | ((with_reducible refine o_list rfl fun K hK => ?_); refine q_at hr (by rfl) ?_; refine hK _ _ ?_; clear hK K) | ((go_at_call 8); refine (HK.out _ M.new).mono ?_; rintro e w1 ⟨rfl, hb1⟩; replace M := M.below hb1; clear hb1))
          rw [HQ.out] at HE
          exact par_bad HE.out hke M.new
      · have HA2 : Hid (AllZ (badE T) T.length) := by
          have e : k = T.length := by have := NL.out; omega
          exact e ▸ HA.out
        clear HA
        go_wp2_with (first | ((with_reducible refine o_list rfl fun K hK => ?_); (first | (first | refine q_all M (by rfl) ?_ | refine q_get M (by exact rfl) ?_ | refine q_part M (by rfl) (by simp only [laid, opdC, List.take_succ_cons, List.take_zero, List.drop_succ_cons, List.drop_zero, List.length_cons, List.length_nil, List.cons_append, List.nil_append, Nat.reduceAdd] <;> rfl) ?_ | refine q_pos M ?_ | refine q_toks M ?_ | refine q_old M (by assumption) (by assumption) (by assumption) ?_) | (first | ((first | refine q_setc M (by rfl) (by rfl) ?_ | refine q_set M (by rfl) (by rfl) ?_ | refine q_put M (by rfl) (by rfl) (by rfl) ?_ | refine q_in M (by rfl) (by rfl) (by rfl) ?_); clear M; intro w M; (try simp only [List.set_cons_zero, List.set_cons_succ, laid, opdC, cndC, patC, optC, lnkC, emiC, fldC, rulC, manC, typC, bokC, List.take_succ_cons, List.take_zero, List.drop_succ_cons, List.drop_zero, List.length_cons, List.length_nil, List.cons_append, List.nil_append, Nat.reduceAdd, Nat.zero_add] at M)) | (refine q_adv M O1.out ?_; clear M; intro w M)) | (refine q_var M ?_; clear M; intro z w M) | (refine q_row M (by rfl) ?_; clear M; intro q w M)); refine hK _ _ ?_; clear hK K))
        have hbW := M.new
        have M1 := M.alloc [.slice ao n cap, .int .i64 0, .int .i64 0, .int .i64 0] 38
        have hb2 := M1.new
        have hsz := hbW.size
        obtain ⟨u2, hu2⟩ : ∃ u2, u2 = wr.alloc (.cells #[.slice ao n cap, .int .i64 0, .int .i64 0, .int .i64 0] 38) := ⟨_, rfl⟩
        have hR0 : RdAt wr.heap.size ao n cap ⟨0, 0⟩ u2 := by rw [hu2]; exact heap_alloc_new wr _
        have hus : wr.heap.size < u2.heap.size := by rw [hu2]; simp
        have M1' : Mem (StaysB 0 W) 0 W u2 ⟨0, 0⟩ (own wr.heap.size [.slice ao n cap, .int .i64 0, .int .i64 0, .int .i64 0] 38 :: own z [.slice none 0 0, .slice none 0 0] 26 :: []) := hu2 ▸ M1
        have hb3 : Below W.heap.size W u2 := hu2 ▸ hb2
        have hEnv : Env T wr.heap.size ao n cap u2 := ⟨(HT.out.wide tokF_firm (G := ne_ wr.heap.size) (fun k _ hlt => by show k ≠ _; omega)).below tokF_firm hb3, by omega,
          (HKR.out.1.wide wordF_firm (G := ne_ wr.heap.size) (fun k _ hlt => by show k ≠ _; omega)).below wordF_firm hb3, (HKR.out.2.wide wordF_firm (G := ne_ wr.heap.size) (fun k _ hlt => by show k ≠ _; omega)).below wordF_firm hb3⟩
        have HB := Lib.hid (book_any (Mem.start hR0) hEnv)
        rw [← hu2]
        clear hR0 hEnv hb2 hb3 hbW M M1 hu2
        generalize hb2 : wr.heap.size = b2 at *
        refine HB.out.mono ?_
        rintro e w3 ⟨bk, a1, n1, c1, a2, n2, c2, rfl, M2, hx⟩
        have HX := Lib.hid hx
        have hown : Own b2 [.slice ao n cap, .int .i64 (bookS T).2.pos, .int .i64 (bookS T).2.e, .int .i64 (if (bookS T).2.e = 0 then 0 else (bookS T).2.pos)] 38 w3 := M2.at_
        have M3 := M1'.turned M2.but hown
        have hz := M3.ne (z := z) (List.mem_cons_of_mem _ (List.mem_cons_self ..))
        have hzl := M1'.ne (z := z) (List.mem_cons_of_mem _ (List.mem_cons_self ..))
        have M := M3.adopt (fnd_and (fnd typF_firm) (fnd rulF_firm)) (M2.dat_ (i := 0) rfl) (fun k hk hlt => ⟨by have := hk.1; omega, hlt, fun e he => by
          have h1 := hk.1
          simp only [List.mem_cons, List.not_mem_nil, or_false] at he
          rcases he with rfl | rfl
          · intro h; injection h with h; omega
          · intro h; injection h with h; omega⟩)
        clear M1' M2 M3 HB hx hown hz hzl hus hsz hb2
        by_cases he : (bookS T).2.e = 0
        · have HE := Lib.hid (parE_good H7.out HA2.out he)
          rw [he] at M
          have HX2 := Lib.hid (HX.out he)
          clear he HX
          go_wp2_with (first | ((try show bodyPost _ _ _ _ _ _); (refine q_ret3 M Tryd.results4 (by rfl) ⟨_, Tryd.underlying26, rfl⟩ ?_)) | ((with_reducible refine o_list rfl fun K hK => ?_); (first | (first | refine q_all M (by rfl) ?_ | refine q_get M (by exact rfl) ?_ | refine q_part M (by rfl) (by simp only [laid, opdC, List.take_succ_cons, List.take_zero, List.drop_succ_cons, List.drop_zero, List.length_cons, List.length_nil, List.cons_append, List.nil_append, Nat.reduceAdd] <;> rfl) ?_ | refine q_pos M ?_ | refine q_toks M ?_ | refine q_old M (by assumption) (by assumption) (by assumption) ?_) | (first | ((first | refine q_setc M (by rfl) (by rfl) ?_ | refine q_set M (by rfl) (by rfl) ?_ | refine q_put M (by rfl) (by rfl) (by rfl) ?_ | refine q_in M (by rfl) (by rfl) (by rfl) ?_); clear M; intro w M; (try simp only [List.set_cons_zero, List.set_cons_succ, laid, opdC, cndC, patC, optC, lnkC, emiC, fldC, rulC, manC, typC, bokC, List.take_succ_cons, List.take_zero, List.drop_succ_cons, List.drop_zero, List.length_cons, List.length_nil, List.cons_append, List.nil_append, Nat.reduceAdd, Nat.zero_add] at M)) | (refine q_adv M O1.out ?_; clear M; intro w M)) | (refine q_var M ?_; clear M; intro z w M) | (refine q_row M (by rfl) ?_; clear M; intro q w M)); refine hK _ _ ?_; clear hK K))
          rw [parB_good HE.out, HE.out]
          obtain ⟨d1, d2⟩ := (M.dat_ (i := 1) rfl : _ ∧ _)
          rw [HX2.out] at d1 d2
          exact ⟨a1, n1, c1, a2, n2, c2, rfl, M.new, d1.wide typF_firm (fun k hk _ => hk.1), d2.wide rulF_firm (fun k hk _ => hk.1)⟩
        · have HE := Lib.hid (parE_wrong H7.out HA2.out he)
          rw [if_neg he] at M
          have HQ := Lib.hid he
          generalize (bookS T).2.e = q at *
          generalize (bookS T).2.pos = pp at *
          clear HX
          go_wp2_with (first | ((with_reducible refine o_list rfl fun K hK => ?_); (first | (first | refine q_all M (by rfl) ?_ | refine q_get M (by exact rfl) ?_ | refine q_part M (by rfl) (by simp only [laid, opdC, List.take_succ_cons, List.take_zero, List.drop_succ_cons, List.drop_zero, List.length_cons, List.length_nil, List.cons_append, List.nil_append, Nat.reduceAdd] <;> rfl) ?_ | refine q_pos M ?_ | refine q_toks M ?_ | refine q_old M (by assumption) (by assumption) (by assumption) ?_) | (first | ((first | refine q_setc M (by rfl) (by rfl) ?_ | refine q_set M (by rfl) (by rfl) ?_ | refine q_put M (by rfl) (by rfl) (by rfl) ?_ | refine q_in M (by rfl) (by rfl) (by rfl) ?_); clear M; intro w M; (try simp only [List.set_cons_zero, List.set_cons_succ, laid, opdC, cndC, patC, optC, lnkC, emiC, fldC, rulC, manC, typC, bokC, List.take_succ_cons, List.take_zero, List.drop_succ_cons, List.drop_zero, List.length_cons, List.length_nil, List.cons_append, List.nil_append, Nat.reduceAdd, Nat.zero_add] at M)) | (refine q_adv M O1.out ?_; clear M; intro w M)) | (refine q_var M ?_; clear M; intro z w M) | (refine q_row M (by rfl) ?_; clear M; intro q w M)); refine hK _ _ ?_; clear hK K))
          (refine wp_region_any (by kernel_rfl) ?_; (try (change wpAny _ _ _ _ _ _ _ (World.drew _))); replace M := M.drew; generalize World.drew _ = w at M ⊢; (refine wpAny_take (i := 0) (v := ?_) (get_l rfl) (by kernel_rfl) (by kernel_rfl) (by kernel_rfl) (fun _ _ _ h => h) (Or.inl ⟨(by first | exact wanted_none rfl | rfl), ?_⟩) ?_; (rotate_left 1); focus (intro w; go_simp; try with_reducible rfl)); (try go_simp); (refine wpAny_take (i := 1) (v := ?_) (get_l rfl) (by kernel_rfl) (by kernel_rfl) (by kernel_rfl) (fun _ _ _ h => h) (Or.inl ⟨(by first | exact wanted_none rfl | rfl), ?_⟩) ?_; (rotate_left 1); focus (intro w; go_simp; try with_reducible rfl)); (try go_simp); (refine wpAny_take (i := 2) (v := ?_) (get_l rfl) (by kernel_rfl) (by kernel_rfl) (by kernel_rfl) (fun _ _ _ h => h) (Or.inl ⟨(by first | exact wanted_none rfl | rfl), ?_⟩) ?_; (rotate_left 1); focus (intro w; go_simp; try with_reducible rfl)); (try go_simp); (refine wpAny_take (i := 3) (v := ?_) (get_l rfl) (by kernel_rfl) (by kernel_rfl) (by kernel_rfl) (fun _ _ _ h => h) (Or.inl ⟨(by first | exact wanted_none rfl | rfl), ?_⟩) ?_; (rotate_left 1); focus (intro w; go_simp; try with_reducible rfl)); (try go_simp); (refine wpAny_take (i := 5) (v := ?_) (get_l rfl) (by kernel_rfl) (by kernel_rfl) (by kernel_rfl) (fun _ _ _ h => h) (Or.inl ⟨(by first | exact wanted_none rfl | rfl), ?_⟩) ?_; (rotate_left 1); focus (intro w; go_simp; try with_reducible rfl)); (try go_simp); (refine wpAny_take (i := 6) (v := ?_) (get_l rfl) (by kernel_rfl) (by kernel_rfl) (by kernel_rfl) (fun _ _ _ h => h) (Or.inl ⟨(by first | exact wanted_none rfl | rfl), ?_⟩) ?_; (rotate_left 1); focus (intro w; go_simp; try with_reducible rfl)); (try go_simp); (refine wpAny_take (i := 7) (v := ?_) (get_l rfl) (by kernel_rfl) (by kernel_rfl) (by kernel_rfl) (fun _ _ _ h => h) (Or.inl ⟨(by first | exact wanted_none rfl | rfl), ?_⟩) ?_; (rotate_left 1); focus (intro w; go_simp; try with_reducible rfl)); (try go_simp); (refine wpAny_ready (rs := [4, 8, 9]) (by kernel_rfl) (by simp) ?_; refine (ready_cons (get_l rfl) rfl (fun K hK => ?_) (ready_cons (get_l rfl) rfl (fun K hK => ?_) (ready_cons (get_l rfl) rfl (fun K hK => ?_) AllReady.nil)))); (all_goals (first | (refine o_dst (some 43) ?_; (first | refine q_all M (by rfl) ?_ | refine q_get M (by exact rfl) ?_ | refine q_part M (by rfl) (by simp only [laid, opdC, List.take_succ_cons, List.take_zero, List.drop_succ_cons, List.drop_zero, List.length_cons, List.length_nil, List.cons_append, List.nil_append, Nat.reduceAdd] <;> rfl) ?_ | refine q_pos M ?_ | refine q_toks M ?_ | refine q_old M (by assumption) (by assumption) (by assumption) ?_); (all_goals ((refine hK _ _ ?_); clear hK K)); (all_goals ((refine wpAny_ready (rs := [8, 9]) (by kernel_rfl) (by simp) ?_; refine (ready_cons (get_l rfl) rfl (fun K hK => ?_) (ready_cons (get_l rfl) rfl (fun K hK => ?_) AllReady.nil))); (all_goals (first | (refine o_dst (some 47) ?_; (first | refine q_all M (by rfl) ?_ | refine q_get M (by exact rfl) ?_ | refine q_part M (by rfl) (by simp only [laid, opdC, List.take_succ_cons, List.take_zero, List.drop_succ_cons, List.drop_zero, List.length_cons, List.length_nil, List.cons_append, List.nil_append, Nat.reduceAdd] <;> rfl) ?_ | refine q_pos M ?_ | refine q_toks M ?_ | refine q_old M (by assumption) (by assumption) (by assumption) ?_); (all_goals ((refine hK _ _ ?_); clear hK K)); (all_goals ((refine wpAny_ready (rs := [9]) (by kernel_rfl) (by simp) ?_; refine (ready_cons (get_l rfl) rfl (fun K hK => ?_) AllReady.nil)); (all_goals ((refine o_dst none ?_; (first | ((first | refine q_setc M (by rfl) (by rfl) ?_ | refine q_set M (by rfl) (by rfl) ?_ | refine q_put M (by rfl) (by rfl) (by rfl) ?_ | refine q_in M (by rfl) (by rfl) (by rfl) ?_); clear M; intro w M; (try simp only [List.set_cons_zero, List.set_cons_succ, laid, opdC, cndC, patC, optC, lnkC, emiC, fldC, rulC, manC, typC, bokC, List.take_succ_cons, List.take_zero, List.drop_succ_cons, List.drop_zero, List.length_cons, List.length_nil, List.cons_append, List.nil_append, Nat.reduceAdd, Nat.zero_add] at M)) | (refine q_adv M O1.out ?_; clear M; intro w M)); (all_goals ((refine hK _ _ ?_); clear hK K)); (all_goals ((refine wpAny_take (i := 10) (v := ?_) (get_l rfl) (by kernel_rfl) (by kernel_rfl) (by kernel_rfl) (fun _ _ _ h => h) (Or.inl ⟨(by first | exact wanted_none rfl | rfl), ?_⟩) ?_; (rotate_left 1); focus (intro w; go_simp; try with_reducible rfl)); (try go_simp); (refine wpAny_take (i := 11) (v := ?_) (get_l rfl) (by kernel_rfl) (by kernel_rfl) (by kernel_rfl) (fun _ _ _ h => h) (Or.inl ⟨(by first | exact wanted_none rfl | rfl), ?_⟩) ?_; (rotate_left 1); focus (intro w; go_simp; try with_reducible rfl)); (try go_simp); (refine wpAny_done (by kernel_rfl) ?_ _))))))))) | (refine o_dst none ?_; (first | ((first | refine q_setc M (by rfl) (by rfl) ?_ | refine q_set M (by rfl) (by rfl) ?_ | refine q_put M (by rfl) (by rfl) (by rfl) ?_ | refine q_in M (by rfl) (by rfl) (by rfl) ?_); clear M; intro w M; (try simp only [List.set_cons_zero, List.set_cons_succ, laid, opdC, cndC, patC, optC, lnkC, emiC, fldC, rulC, manC, typC, bokC, List.take_succ_cons, List.take_zero, List.drop_succ_cons, List.drop_zero, List.length_cons, List.length_nil, List.cons_append, List.nil_append, Nat.reduceAdd, Nat.zero_add] at M)) | (refine q_adv M O1.out ?_; clear M; intro w M)); (all_goals ((refine hK _ _ ?_); clear hK K)); (all_goals ((refine wpAny_take (i := 10) (v := ?_) (get_l rfl) (by kernel_rfl) (by kernel_rfl) (by kernel_rfl) (fun _ _ _ h => h) (Or.inl ⟨(by first | exact wanted_none rfl | rfl), ?_⟩) ?_; (rotate_left 1); focus (intro w; go_simp; try with_reducible rfl)); (try go_simp); (refine wpAny_ready (rs := [8]) (by kernel_rfl) (by simp) ?_; refine (ready_cons (get_l rfl) rfl (fun K hK => ?_) AllReady.nil)); (all_goals ((refine o_dst (some 47) ?_; (first | refine q_all M (by rfl) ?_ | refine q_get M (by exact rfl) ?_ | refine q_part M (by rfl) (by simp only [laid, opdC, List.take_succ_cons, List.take_zero, List.drop_succ_cons, List.drop_zero, List.length_cons, List.length_nil, List.cons_append, List.nil_append, Nat.reduceAdd] <;> rfl) ?_ | refine q_pos M ?_ | refine q_toks M ?_ | refine q_old M (by assumption) (by assumption) (by assumption) ?_); (all_goals ((refine hK _ _ ?_); clear hK K)); (all_goals ((refine wpAny_take (i := 11) (v := ?_) (get_l rfl) (by kernel_rfl) (by kernel_rfl) (by kernel_rfl) (fun _ _ _ h => h) (Or.inl ⟨(by first | exact wanted_none rfl | rfl), ?_⟩) ?_; (rotate_left 1); focus (intro w; go_simp; try with_reducible rfl)); (try go_simp); (refine wpAny_done (by kernel_rfl) ?_ _)))))))))))))) | (refine o_dst (some 47) ?_; (first | refine q_all M (by rfl) ?_ | refine q_get M (by exact rfl) ?_ | refine q_part M (by rfl) (by simp only [laid, opdC, List.take_succ_cons, List.take_zero, List.drop_succ_cons, List.drop_zero, List.length_cons, List.length_nil, List.cons_append, List.nil_append, Nat.reduceAdd] <;> rfl) ?_ | refine q_pos M ?_ | refine q_toks M ?_ | refine q_old M (by assumption) (by assumption) (by assumption) ?_); (all_goals ((refine hK _ _ ?_); clear hK K)); (all_goals ((refine wpAny_ready (rs := [4, 9]) (by kernel_rfl) (by simp) ?_; refine (ready_cons (get_l rfl) rfl (fun K hK => ?_) (ready_cons (get_l rfl) rfl (fun K hK => ?_) AllReady.nil))); (all_goals (first | (refine o_dst (some 43) ?_; (first | refine q_all M (by rfl) ?_ | refine q_get M (by exact rfl) ?_ | refine q_part M (by rfl) (by simp only [laid, opdC, List.take_succ_cons, List.take_zero, List.drop_succ_cons, List.drop_zero, List.length_cons, List.length_nil, List.cons_append, List.nil_append, Nat.reduceAdd] <;> rfl) ?_ | refine q_pos M ?_ | refine q_toks M ?_ | refine q_old M (by assumption) (by assumption) (by assumption) ?_); (all_goals ((refine hK _ _ ?_); clear hK K)); (all_goals ((refine wpAny_ready (rs := [9]) (by kernel_rfl) (by simp) ?_; refine (ready_cons (get_l rfl) rfl (fun K hK => ?_) AllReady.nil)); (all_goals ((refine o_dst none ?_; (first | ((first | refine q_setc M (by rfl) (by rfl) ?_ | refine q_set M (by rfl) (by rfl) ?_ | refine q_put M (by rfl) (by rfl) (by rfl) ?_ | refine q_in M (by rfl) (by rfl) (by rfl) ?_); clear M; intro w M; (try simp only [List.set_cons_zero, List.set_cons_succ, laid, opdC, cndC, patC, optC, lnkC, emiC, fldC, rulC, manC, typC, bokC, List.take_succ_cons, List.take_zero, List.drop_succ_cons, List.drop_zero, List.length_cons, List.length_nil, List.cons_append, List.nil_append, Nat.reduceAdd, Nat.zero_add] at M)) | (refine q_adv M O1.out ?_; clear M; intro w M)); (all_goals ((refine hK _ _ ?_); clear hK K)); (all_goals ((refine wpAny_take (i := 10) (v := ?_) (get_l rfl) (by kernel_rfl) (by kernel_rfl) (by kernel_rfl) (fun _ _ _ h => h) (Or.inl ⟨(by first | exact wanted_none rfl | rfl), ?_⟩) ?_; (rotate_left 1); focus (intro w; go_simp; try with_reducible rfl)); (try go_simp); (refine wpAny_take (i := 11) (v := ?_) (get_l rfl) (by kernel_rfl) (by kernel_rfl) (by kernel_rfl) (fun _ _ _ h => h) (Or.inl ⟨(by first | exact wanted_none rfl | rfl), ?_⟩) ?_; (rotate_left 1); focus (intro w; go_simp; try with_reducible rfl)); (try go_simp); (refine wpAny_done (by kernel_rfl) ?_ _))))))))) | (refine o_dst none ?_; (first | ((first | refine q_setc M (by rfl) (by rfl) ?_ | refine q_set M (by rfl) (by rfl) ?_ | refine q_put M (by rfl) (by rfl) (by rfl) ?_ | refine q_in M (by rfl) (by rfl) (by rfl) ?_); clear M; intro w M; (try simp only [List.set_cons_zero, List.set_cons_succ, laid, opdC, cndC, patC, optC, lnkC, emiC, fldC, rulC, manC, typC, bokC, List.take_succ_cons, List.take_zero, List.drop_succ_cons, List.drop_zero, List.length_cons, List.length_nil, List.cons_append, List.nil_append, Nat.reduceAdd, Nat.zero_add] at M)) | (refine q_adv M O1.out ?_; clear M; intro w M)); (all_goals ((refine hK _ _ ?_); clear hK K)); (all_goals ((refine wpAny_ready (rs := [4]) (by kernel_rfl) (by simp) ?_; refine (ready_cons (get_l rfl) rfl (fun K hK => ?_) AllReady.nil)); (all_goals ((refine o_dst (some 43) ?_; (first | refine q_all M (by rfl) ?_ | refine q_get M (by exact rfl) ?_ | refine q_part M (by rfl) (by simp only [laid, opdC, List.take_succ_cons, List.take_zero, List.drop_succ_cons, List.drop_zero, List.length_cons, List.length_nil, List.cons_append, List.nil_append, Nat.reduceAdd] <;> rfl) ?_ | refine q_pos M ?_ | refine q_toks M ?_ | refine q_old M (by assumption) (by assumption) (by assumption) ?_); (all_goals ((refine hK _ _ ?_); clear hK K)); (all_goals ((refine wpAny_take (i := 10) (v := ?_) (get_l rfl) (by kernel_rfl) (by kernel_rfl) (by kernel_rfl) (fun _ _ _ h => h) (Or.inl ⟨(by first | exact wanted_none rfl | rfl), ?_⟩) ?_; (rotate_left 1); focus (intro w; go_simp; try with_reducible rfl)); (try go_simp); (refine wpAny_take (i := 11) (v := ?_) (get_l rfl) (by kernel_rfl) (by kernel_rfl) (by kernel_rfl) (fun _ _ _ h => h) (Or.inl ⟨(by first | exact wanted_none rfl | rfl), ?_⟩) ?_; (rotate_left 1); focus (intro w; go_simp; try with_reducible rfl)); (try go_simp); (refine wpAny_done (by kernel_rfl) ?_ _)))))))))))))) | (refine o_dst none ?_; (first | ((first | refine q_setc M (by rfl) (by rfl) ?_ | refine q_set M (by rfl) (by rfl) ?_ | refine q_put M (by rfl) (by rfl) (by rfl) ?_ | refine q_in M (by rfl) (by rfl) (by rfl) ?_); clear M; intro w M; (try simp only [List.set_cons_zero, List.set_cons_succ, laid, opdC, cndC, patC, optC, lnkC, emiC, fldC, rulC, manC, typC, bokC, List.take_succ_cons, List.take_zero, List.drop_succ_cons, List.drop_zero, List.length_cons, List.length_nil, List.cons_append, List.nil_append, Nat.reduceAdd, Nat.zero_add] at M)) | (refine q_adv M O1.out ?_; clear M; intro w M)); (all_goals ((refine hK _ _ ?_); clear hK K)); (all_goals ((refine wpAny_ready (rs := [4, 8]) (by kernel_rfl) (by simp) ?_; refine (ready_cons (get_l rfl) rfl (fun K hK => ?_) (ready_cons (get_l rfl) rfl (fun K hK => ?_) AllReady.nil))); (all_goals (first | (refine o_dst (some 43) ?_; (first | refine q_all M (by rfl) ?_ | refine q_get M (by exact rfl) ?_ | refine q_part M (by rfl) (by simp only [laid, opdC, List.take_succ_cons, List.take_zero, List.drop_succ_cons, List.drop_zero, List.length_cons, List.length_nil, List.cons_append, List.nil_append, Nat.reduceAdd] <;> rfl) ?_ | refine q_pos M ?_ | refine q_toks M ?_ | refine q_old M (by assumption) (by assumption) (by assumption) ?_); (all_goals ((refine hK _ _ ?_); clear hK K)); (all_goals ((refine wpAny_take (i := 10) (v := ?_) (get_l rfl) (by kernel_rfl) (by kernel_rfl) (by kernel_rfl) (fun _ _ _ h => h) (Or.inl ⟨(by first | exact wanted_none rfl | rfl), ?_⟩) ?_; (rotate_left 1); focus (intro w; go_simp; try with_reducible rfl)); (try go_simp); (refine wpAny_ready (rs := [8]) (by kernel_rfl) (by simp) ?_; refine (ready_cons (get_l rfl) rfl (fun K hK => ?_) AllReady.nil)); (all_goals ((refine o_dst (some 47) ?_; (first | refine q_all M (by rfl) ?_ | refine q_get M (by exact rfl) ?_ | refine q_part M (by rfl) (by simp only [laid, opdC, List.take_succ_cons, List.take_zero, List.drop_succ_cons, List.drop_zero, List.length_cons, List.length_nil, List.cons_append, List.nil_append, Nat.reduceAdd] <;> rfl) ?_ | refine q_pos M ?_ | refine q_toks M ?_ | refine q_old M (by assumption) (by assumption) (by assumption) ?_); (all_goals ((refine hK _ _ ?_); clear hK K)); (all_goals ((refine wpAny_take (i := 11) (v := ?_) (get_l rfl) (by kernel_rfl) (by kernel_rfl) (by kernel_rfl) (fun _ _ _ h => h) (Or.inl ⟨(by first | exact wanted_none rfl | rfl), ?_⟩) ?_; (rotate_left 1); focus (intro w; go_simp; try with_reducible rfl)); (try go_simp); (refine wpAny_done (by kernel_rfl) ?_ _))))))))) | (refine o_dst (some 47) ?_; (first | refine q_all M (by rfl) ?_ | refine q_get M (by exact rfl) ?_ | refine q_part M (by rfl) (by simp only [laid, opdC, List.take_succ_cons, List.take_zero, List.drop_succ_cons, List.drop_zero, List.length_cons, List.length_nil, List.cons_append, List.nil_append, Nat.reduceAdd] <;> rfl) ?_ | refine q_pos M ?_ | refine q_toks M ?_ | refine q_old M (by assumption) (by assumption) (by assumption) ?_); (all_goals ((refine hK _ _ ?_); clear hK K)); (all_goals ((refine wpAny_ready (rs := [4]) (by kernel_rfl) (by simp) ?_; refine (ready_cons (get_l rfl) rfl (fun K hK => ?_) AllReady.nil)); (all_goals ((refine o_dst (some 43) ?_; (first | refine q_all M (by rfl) ?_ | refine q_get M (by exact rfl) ?_ | refine q_part M (by rfl) (by simp only [laid, opdC, List.take_succ_cons, List.take_zero, List.drop_succ_cons, List.drop_zero, List.length_cons, List.length_nil, List.cons_append, List.nil_append, Nat.reduceAdd] <;> rfl) ?_ | refine q_pos M ?_ | refine q_toks M ?_ | refine q_old M (by assumption) (by assumption) (by assumption) ?_); (all_goals ((refine hK _ _ ?_); clear hK K)); (all_goals ((refine wpAny_take (i := 10) (v := ?_) (get_l rfl) (by kernel_rfl) (by kernel_rfl) (by kernel_rfl) (fun _ _ _ h => h) (Or.inl ⟨(by first | exact wanted_none rfl | rfl), ?_⟩) ?_; (rotate_left 1); focus (intro w; go_simp; try with_reducible rfl)); (try go_simp); (refine wpAny_take (i := 11) (v := ?_) (get_l rfl) (by kernel_rfl) (by kernel_rfl) (by kernel_rfl) (fun _ _ _ h => h) (Or.inl ⟨(by first | exact wanted_none rfl | rfl), ?_⟩) ?_; (rotate_left 1); focus (intro w; go_simp; try with_reducible rfl)); (try go_simp); (refine wpAny_done (by kernel_rfl) ?_ _)))))))))))))))))
          all_goals go_wp2_with (first | ((try show bodyPost _ _ _ _ _ _); (refine q_ret3 M Tryd.results4 (by rfl) ⟨_, Tryd.underlying26, rfl⟩ ?_)) | ((with_reducible refine o_list rfl fun K hK => ?_); (first | (first | refine q_all M (by rfl) ?_ | refine q_get M (by exact rfl) ?_ | refine q_part M (by rfl) (by simp only [laid, opdC, List.take_succ_cons, List.take_zero, List.drop_succ_cons, List.drop_zero, List.length_cons, List.length_nil, List.cons_append, List.nil_append, Nat.reduceAdd] <;> rfl) ?_ | refine q_pos M ?_ | refine q_toks M ?_ | refine q_old M (by assumption) (by assumption) (by assumption) ?_) | (first | ((first | refine q_setc M (by rfl) (by rfl) ?_ | refine q_set M (by rfl) (by rfl) ?_ | refine q_put M (by rfl) (by rfl) (by rfl) ?_ | refine q_in M (by rfl) (by rfl) (by rfl) ?_); clear M; intro w M; (try simp only [List.set_cons_zero, List.set_cons_succ, laid, opdC, cndC, patC, optC, lnkC, emiC, fldC, rulC, manC, typC, bokC, List.take_succ_cons, List.take_zero, List.drop_succ_cons, List.drop_zero, List.length_cons, List.length_nil, List.cons_append, List.nil_append, Nat.reduceAdd, Nat.zero_add] at M)) | (refine q_adv M O1.out ?_; clear M; intro w M)) | (refine q_var M ?_; clear M; intro z w M) | (refine q_row M (by rfl) ?_; clear M; intro q w M)); refine hK _ _ ?_; clear hK K))
          all_goals exact par_bad HE.out HQ.out M.new
end Go.Proofs.YtobnaokknkmlcaaDoor
