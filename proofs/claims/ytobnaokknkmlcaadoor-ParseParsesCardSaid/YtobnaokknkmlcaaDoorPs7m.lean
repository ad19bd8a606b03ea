/-
  The walk of the reference's eye, seventh part: a clause, its links. Printed by ps7.py.
-/
import Derived.Test.YtobnaokknkmlcaaDoorMi
import Derived.Deep.LoopGhost
namespace Go.Proofs.YtobnaokknkmlcaaDoor
open Go.RowKit
set_option linter.unusedVariables false
set_option linter.unusedSimpArgs false

/-- Ahead of a round, where a flag says whether there is one. -/
def MorRel {α : Type} (At : PS → World → Prop) (b : Nat) (T : List Tok) (u : World) (L : List Ent) (z : Nat) (cells : Value → List Value) (ty e k : Nat) (R : (Nat → Prop) → World → List Value → α → Prop) (kd : Int) (x : ByteArray) (next : PS → α × PS) (RR : List α × PS) (f : Nat) (v : Value) (w : World) : Prop :=
  ∃ (m : Bool) (xs' xs : List α) (s : PS) (ra : Option Addr) (rc : Nat), v = .bool m ∧ Mem At b u w s (slc u.heap.size e k R (.slice ra xs'.length rc) xs' :: own z (cells (.slice ra xs'.length rc)) ty :: L) ∧
    (m = true → ∃ g, f = g + 1 ∧ manyL T kd x next g (xs ++ [(next s).1]) (next s).2 = RR ∧ T.length + 1 ≤ g + (next s).2.pos) ∧ (m = false → RR = (xs, s)) ∧ xs'.length = xs.length ∧ xs.length + f ≤ T.length + 2 ∧ (s.e = 0 → xs' = xs)
section
variable {T : List Tok} {b : Nat} {ao : Option Addr} {n cap : Nat} {s : PS} {u w : World} {L : List Ent} {At : PS → World → Prop} {x : Rul} {v1 v2 v3 v4 v6 : Value}
theorem Mem.tailed {e : Ent} (M : Mem At b u w s (e :: L)) : ∃ L2, Hid (L2 = L) ∧ Mem At b u w s (e :: L2) := ⟨L, Lib.hid rfl, M⟩
theorem Fine.ok {α : Type} {f : PS → α × PS} (h : Fine f) {s : PS} (he : (f s).2.e = 0) : s.e = 0 := Classical.byContradiction fun hn => hn (by rw [h.stuck s hn] at he; exact he)
/-- Behind a round: the sign came, or not. -/
theorem more_yes {α : Type} {next : PS → α × PS} (hn : Fine next) {kd : Int} {x : ByteArray} {g : Nat} {l : List α} {s : PS} {RR : List α × PS} (h : manyL T kd x next g l s = RR) (hg : T.length + 1 ≤ g + s.pos) (hs : seesB T kd x s = true) :
    ∃ g', g = g' + 1 ∧ manyL T kd x next g' (l ++ [(next (adv s)).1]) (next (adv s)).2 = RR ∧ T.length + 1 ≤ g' + (next (adv s)).2.pos := by
  obtain ⟨f', e1, e2, e3⟩ := manyL_more hn kd x g l s hg hs
  exact ⟨f', e1, by rw [← e3]; exact h, e2⟩
theorem more_no {α : Type} {next : PS → α × PS} {kd : Int} {x : ByteArray} {g : Nat} {l : List α} {s : PS} {RR : List α × PS} (h : manyL T kd x next g l s = RR) (hs : seesB T kd x s = false) : RR = (l, s) := by
  rw [← h, manyL_end kd x g l s hs]
theorem lnk_of {s : PS} {xs : List Opt} {s' : PS} (h : manyS T 1 wOr (optS T) (nameS T s).2 = (xs, s')) : lnkS T s = (⟨(nameS T s).1, xs, (nameS T s').1⟩, (nameS T s').2) := by
  unfold lnkS
  rw [h]
set_option maxRecDepth 8000 in
set_option maxHeartbeats 4000000 in
theorem part_where (M : Mem (EyAt b ao n cap) b u w s (VulL u x v1 v2 v3 v4 v6 L)) (hE : Env T b ao n cap u) (hB : rulN x ≤ 5000) (hW : Dec (seesB T 1 wWhen s = false)) (hN : Dec (seesB T 1 wNot s = false)) (hM : Dec (seesB T 1 wMany s = false)) (hL : Dec (seesB T 1 wWhere s = true)) :
    Calls Tryd.prog 14 #[.pointer (some ⟨b, 0, none⟩), .agg (rulC x v1 v2 v3 v4 v6).toArray] w (ParPostV (EyAt b ao n cap) b u L x (clauseS T x s)) := by
  have HE := Lib.hid hE
  have HB := Lib.hid hB
  have HT := Lib.hid hE.len.2.2.2
  clear hE hB
  unfold VulL at M
  obtain ⟨a1, k1, rfl⟩ := slc_slice (M := M) (i := 0) rfl
  obtain ⟨a2, k2, rfl⟩ := slc_slice (M := M) (i := 1) rfl
  obtain ⟨a3, k3, rfl⟩ := slc_slice (M := M) (i := 2) rfl
  obtain ⟨a4, k4, rfl⟩ := slc_slice (M := M) (i := 3) rfl
  obtain ⟨a6, k6, rfl⟩ := slc_slice (M := M) (i := 4) rfl
  rw [cla_where hW.out hN.out hM.out hL.out]
  go_enter Tryd.func14, Tryd.ntmps14
  go_wp2_with (first | ((with_reducible refine o_list rfl fun K hK => ?_); (refine q_box M ?_; clear M; intro z w hz hw M; clear hz hw); refine hK _ _ ?_; clear hK K) | (first | ((with_reducible refine o_list rfl fun K hK => ?_); (first | (first | refine q_all M (by rfl) ?_ | refine q_get M (by exact rfl) ?_ | refine q_part M (by rfl) (by simp only [laid, opdC, List.take_succ_cons, List.take_zero, List.drop_succ_cons, List.drop_zero, List.length_cons, List.length_nil, List.cons_append, List.nil_append, Nat.reduceAdd] <;> rfl) ?_ | refine q_ep M ?_ | refine q_ee M ?_ | refine q_et M ?_ | refine q_eo M (by assumption) (by assumption) (by assumption) ?_) | (first | ((first | refine q_setc M (by rfl) (by rfl) ?_ | refine q_set M (by rfl) (by rfl) ?_ | refine q_put M (by rfl) (by rfl) (by rfl) ?_ | refine q_in M (by rfl) (by rfl) (by rfl) ?_); clear M; intro w M; (try simp only [List.set_cons_zero, List.set_cons_succ, laid, opdC, cndC, patC, optC, lnkC, emiC, fldC, rulC, manC, List.take_succ_cons, List.take_zero, List.drop_succ_cons, List.drop_zero, List.length_cons, List.length_nil, List.cons_append, List.nil_append, Nat.reduceAdd, Nat.zero_add] at M)) | (refine q_eadv M ?_; clear M; intro w M) | (refine q_eset M ?_; clear M; intro w M)) | (refine q_var M ?_; clear M; intro z w M) | (refine q_row M (by rfl) ?_; clear M; intro q w M)); refine hK _ _ ?_; clear hK K) | ((with_reducible refine o_listg fun K hK => ?_); (first | (first | refine q_all M (by rfl) ?_ | refine q_get M (by exact rfl) ?_ | refine q_part M (by rfl) (by simp only [laid, opdC, List.take_succ_cons, List.take_zero, List.drop_succ_cons, List.drop_zero, List.length_cons, List.length_nil, List.cons_append, List.nil_append, Nat.reduceAdd] <;> rfl) ?_ | refine q_ep M ?_ | refine q_ee M ?_ | refine q_et M ?_ | refine q_eo M (by assumption) (by assumption) (by assumption) ?_)); refine hK _ _ ?_; clear hK K) | (with_reducible refine o_skipT ?_) | (with_reducible refine o_skipF ?_)) | ((go_at_call 11); refine (M.isT HE.out _ (by decide) _ (by exact Dec.out (by assumption))).mono ?_; clear M; rintro e w ⟨rfl, M⟩) | ((go_at_call 11); refine (M.isF HE.out _ (by decide) _ (by exact Dec.out (by assumption))).mono ?_; clear M; rintro e w ⟨rfl, M⟩) | (go_at_call 12; refine (M.ident HE.out).mono ?_; clear M; rintro e w ⟨rfl, M⟩))
  obtain ⟨L2, HL2, M⟩ := M.tailed
  replace M := M.none_ (R := plainF optC) (plainF_firm _) 92 3
  generalize hRR : manyS T 1 wOr (optS T) (nameS T (adv s)).2 = RR
  have R0 : MorRel (EyAt b ao n cap) b T u L2 z (fun v => [.string (nameS T (adv s)).1, v, .string ByteArray.empty]) 90 92 3 (plainF optC) 1 wOr (optS T) RR (T.length + 2) (.bool true) w :=
    ⟨true, [], [], _, none, 0, rfl, M, fun _ => ⟨T.length + 1, rfl, hRR, by omega⟩, fun h => (by cases h), rfl, by simp, fun _ => rfl⟩
  have HRR := Lib.hid hRR
  clear M hRR
  go_loopg [11] (T.length + 2) (fun f v wr => MorRel (EyAt b ao n cap) b T u L2 z (fun v => [.string (nameS T (adv s)).1, v, .string ByteArray.empty]) 90 92 3 (plainF optC) 1 wOr (optS T) RR f v wr)
  case atStart => exact R0
  case round =>
    obtain ⟨m, xs', xs, s', ra, rc, rfl, M, hT, hF, hl, hm, hx⟩ := hrel
    have HX := Lib.hid hx
    clear hx R0
    cases m
    · have HR := Lib.hid (HRR.out.trans (hF rfl))
      obtain rfl := HL2.out
      obtain ⟨ao2, cap2, e2, M⟩ := M.done (plainF_firm _) (by omega)
      injection e2 with e2 e3 e4
      subst e2 e4
      clear hT hF hl hm HRR HL2
      go_wp2_with (first | ((with_reducible refine body_id ?_); (refine q_ret M Tryd.results14 (by rfl) ?_)) | (first | ((with_reducible refine o_list rfl fun K hK => ?_); (first | (first | refine q_all M (by rfl) ?_ | refine q_get M (by exact rfl) ?_ | refine q_part M (by rfl) (by simp only [laid, opdC, List.take_succ_cons, List.take_zero, List.drop_succ_cons, List.drop_zero, List.length_cons, List.length_nil, List.cons_append, List.nil_append, Nat.reduceAdd] <;> rfl) ?_ | refine q_ep M ?_ | refine q_ee M ?_ | refine q_et M ?_ | refine q_eo M (by assumption) (by assumption) (by assumption) ?_) | (first | ((first | refine q_setc M (by rfl) (by rfl) ?_ | refine q_set M (by rfl) (by rfl) ?_ | refine q_put M (by rfl) (by rfl) (by rfl) ?_ | refine q_in M (by rfl) (by rfl) (by rfl) ?_); clear M; intro w M; (try simp only [List.set_cons_zero, List.set_cons_succ, laid, opdC, cndC, patC, optC, lnkC, emiC, fldC, rulC, manC, List.take_succ_cons, List.take_zero, List.drop_succ_cons, List.drop_zero, List.length_cons, List.length_nil, List.cons_append, List.nil_append, Nat.reduceAdd, Nat.zero_add] at M)) | (refine q_eadv M ?_; clear M; intro w M) | (refine q_eset M ?_; clear M; intro w M)) | (refine q_var M ?_; clear M; intro z w M) | (refine q_row M (by rfl) ?_; clear M; intro q w M)); refine hK _ _ ?_; clear hK K) | ((with_reducible refine o_listg fun K hK => ?_); (first | (first | refine q_all M (by rfl) ?_ | refine q_get M (by exact rfl) ?_ | refine q_part M (by rfl) (by simp only [laid, opdC, List.take_succ_cons, List.take_zero, List.drop_succ_cons, List.drop_zero, List.length_cons, List.length_nil, List.cons_append, List.nil_append, Nat.reduceAdd] <;> rfl) ?_ | refine q_ep M ?_ | refine q_ee M ?_ | refine q_et M ?_ | refine q_eo M (by assumption) (by assumption) (by assumption) ?_)); refine hK _ _ ?_; clear hK K) | (with_reducible refine o_skipT ?_) | (with_reducible refine o_skipF ?_)) | (go_at_call 12; refine (M.ident HE.out).mono ?_; clear M; rintro e w ⟨rfl, M⟩) | (go_at_call 13; refine (M.want HE.out _ (by decide) _).mono ?_; clear M; rintro e w ⟨rfl, M⟩) | ((with_reducible refine o_list rfl fun K hK => ?_); (refine q_app (R := lnkF) lnkF_firm M 8 rfl ⟨(nameS T (adv s)).1, xs', (nameS T s').1⟩ (by refine ⟨ra, xs'.length, rc, ?_, ?_⟩; exact rfl; exact M.dat_ (i := 1) rfl) (by rfl) (by rfl) (by have := HB.out; unfold rulN at this; omega) ?_; clear M; intro ra2 rc2 w M; (try simp only [List.set_cons_zero, List.set_cons_succ, laid, opdC, cndC, patC, optC, lnkC, emiC, fldC, rulC, manC, List.take_succ_cons, List.take_zero, List.drop_succ_cons, List.drop_zero, List.length_cons, List.length_nil, List.cons_append, List.nil_append, Nat.reduceAdd, Nat.zero_add] at M)); refine hK _ _ ?_; clear hK K))
      rw [lnk_of HR.out]
      exact ⟨{ x with links := x.links ++ [⟨(nameS T (adv s)).1, xs', (nameS T s').1⟩] }, _, _, _, _, _, rfl, M.drop.drop.drop.drop.drop, by have := HB.out; simp [rulN]; omega, fun h => by rw [HX.out (name_ok (must_ok h))]⟩
    · obtain ⟨g, rfl, hg1, hg2⟩ := hT rfl
      have HG := Lib.hid (And.intro hg1 hg2)
      have HM := Lib.hid (And.intro hl hm)
      clear hT hF hl hm hg1 hg2
      go_wp2_with (first | (first | ((with_reducible refine o_list rfl fun K hK => ?_); (first | (first | refine q_all M (by rfl) ?_ | refine q_get M (by exact rfl) ?_ | refine q_part M (by rfl) (by simp only [laid, opdC, List.take_succ_cons, List.take_zero, List.drop_succ_cons, List.drop_zero, List.length_cons, List.length_nil, List.cons_append, List.nil_append, Nat.reduceAdd] <;> rfl) ?_ | refine q_ep M ?_ | refine q_ee M ?_ | refine q_et M ?_ | refine q_eo M (by assumption) (by assumption) (by assumption) ?_) | (first | ((first | refine q_setc M (by rfl) (by rfl) ?_ | refine q_set M (by rfl) (by rfl) ?_ | refine q_put M (by rfl) (by rfl) (by rfl) ?_ | refine q_in M (by rfl) (by rfl) (by rfl) ?_); clear M; intro w M; (try simp only [List.set_cons_zero, List.set_cons_succ, laid, opdC, cndC, patC, optC, lnkC, emiC, fldC, rulC, manC, List.take_succ_cons, List.take_zero, List.drop_succ_cons, List.drop_zero, List.length_cons, List.length_nil, List.cons_append, List.nil_append, Nat.reduceAdd, Nat.zero_add] at M)) | (refine q_eadv M ?_; clear M; intro w M) | (refine q_eset M ?_; clear M; intro w M)) | (refine q_var M ?_; clear M; intro z w M) | (refine q_row M (by rfl) ?_; clear M; intro q w M)); refine hK _ _ ?_; clear hK K) | ((with_reducible refine o_listg fun K hK => ?_); (first | (first | refine q_all M (by rfl) ?_ | refine q_get M (by exact rfl) ?_ | refine q_part M (by rfl) (by simp only [laid, opdC, List.take_succ_cons, List.take_zero, List.drop_succ_cons, List.drop_zero, List.length_cons, List.length_nil, List.cons_append, List.nil_append, Nat.reduceAdd] <;> rfl) ?_ | refine q_ep M ?_ | refine q_ee M ?_ | refine q_et M ?_ | refine q_eo M (by assumption) (by assumption) (by assumption) ?_)); refine hK _ _ ?_; clear hK K) | (with_reducible refine o_skipT ?_) | (with_reducible refine o_skipF ?_)) | ((go_at_call 34); refine (way_any M HE.out).mono ?_; clear M; rintro e w ⟨o, rfl, M, ho⟩; have HO := Lib.hid ho; clear ho) | ((go_at_call 11); refine M.is HE.out _ (by decide) _ ?_ ?_ <;> (clear M; intro w hs M)) | ((with_reducible refine o_list rfl fun K hK => ?_); (refine q_app (R := plainF optC) (plainF_firm _) M 2 rfl o rfl (by rfl) (by rfl) (by have := HM.out; have := HT.out; omega) ?_; clear M; intro ra2 rc2 w M; (try simp only [List.set_cons_zero, List.set_cons_succ, laid, opdC, cndC, patC, optC, lnkC, emiC, fldC, rulC, manC, List.take_succ_cons, List.take_zero, List.drop_succ_cons, List.drop_zero, List.length_cons, List.length_nil, List.cons_append, List.nil_append, Nat.reduceAdd, Nat.zero_add] at M)); refine hK _ _ ?_; clear hK K))
      all_goals
        replace M := M.drop.drop
      · obtain ⟨hl, hm⟩ := HM.out
        obtain ⟨g', e1, e2, e3⟩ := more_yes (optS_fine (T := T)) HG.out.1 HG.out.2 hs.out
        go_roundg (g' + 1)
        case measure => omega
        case rel => exact ⟨true, xs' ++ [o], xs ++ [(optS T s').1], _, ra2, rc2, rfl, by simpa using M, fun _ => ⟨g', rfl, e2, e3⟩, fun h => (by cases h), by simp [hl], by simp; omega, fun h => by rw [HX.out ((optS_fine (T := T)).ok h), HO.out h]⟩
      · obtain ⟨hl, hm⟩ := HM.out
        go_roundg g
        case measure => omega
        case rel => exact ⟨false, xs' ++ [o], xs ++ [(optS T s').1], _, ra2, rc2, rfl, by simpa using M, fun h => (by cases h), fun _ => more_no HG.out.1 hs.out, by simp [hl], by simp; omega, fun h => by rw [HX.out ((optS_fine (T := T)).ok h), HO.out h]⟩
end
end Go.Proofs.YtobnaokknkmlcaaDoor
