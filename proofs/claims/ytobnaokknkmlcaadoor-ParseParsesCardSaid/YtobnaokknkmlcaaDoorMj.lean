/-
  The walk of the reference's eye, eighth part: a clause, what is emitted; a clause. Printed by ps8.py.
-/
import Derived.Test.YtobnaokknkmlcaaDoorPs7m
import Derived.Test.YtobnaokknkmlcaaDoorMg
namespace Go.Proofs.YtobnaokknkmlcaaDoor
open Go.RowKit
set_option linter.unusedVariables false
set_option linter.unusedSimpArgs false

section
variable {T : List Tok} {b : Nat} {ao : Option Addr} {n cap : Nat} {s : PS} {u w : World} {L : List Ent} {At : PS → World → Prop} {x : Rul} {v1 v2 v3 v4 v6 : Value}
theorem emi_of {s : PS} {xs : List Opd} {s' : PS} (h0 : seesB T 4 mShut (mustS T 4 mOpen (nameS T s).2) = false) (h : manyS T 4 mComma (opdS T) (mustS T 4 mOpen (nameS T s).2) = (xs, s')) : emiS T s = (((nameS T s).1, xs), mustS T 4 mShut s') := by
  unfold emiS
  rw [h0, h]
  rfl
theorem ev_none {nm : ByteArray} (h : x.evals = []) : ({ x with etype := nm } : Rul) = { x with etype := nm, evals := [] } := by
  cases x; simp only at h; subst h; rfl
theorem Mem.emi_perm {a a2 c d e f g : Ent} (M : Mem At b u w s (a :: a2 :: c :: d :: e :: f :: g :: L)) : Mem At b u w s (g :: a2 :: a :: c :: d :: e :: f :: L) :=
  M.perm ((List.perm_middle (l₁ := [a, a2, c, d, e, f])).trans ((List.Perm.swap a2 a _).cons g))
theorem Mem.emi_back {a a2 c d e f g : Ent} (M : Mem At b u w s (g :: a2 :: a :: c :: d :: e :: f :: L)) : Mem At b u w s (c :: d :: e :: f :: g :: L) :=
  (M.skip.skip).perm (List.perm_middle (l₁ := [c, d, e, f])).symm
set_option maxRecDepth 8000 in
set_option maxHeartbeats 4000000 in
theorem part_emit (M : Mem (EyAt b ao n cap) b u w s (VulL u x v1 v2 v3 v4 v6 L)) (hE : Env T b ao n cap u) (hB : rulN x ≤ 5000) (hW : Dec (seesB T 1 wWhen s = false)) (hN : Dec (seesB T 1 wNot s = false)) (hM : Dec (seesB T 1 wMany s = false)) (hL : Dec (seesB T 1 wWhere s = false)) (hQ : Hid (x.etype = ByteArray.empty)) (hq : x.etype.toList = []) (hV : Hid (x.evals = [])) (hX : Dec (seesB T 1 wEmit s = true)) :
    Calls Tryd.prog 14 #[.pointer (some ⟨b, 0, none⟩), .agg (rulC x v1 v2 v3 v4 v6).toArray] w (ParPostV (EyAt b ao n cap) b u L x (clauseS T x s)) := by
  have HE := Lib.hid hE
  have HB := Lib.hid hB
  have HT := Lib.hid hE.len.2.2.2
  clear hE hB
  unfold VulL at M
  obtain ⟨a1, k1, rfl⟩ := slc_slice (M := M) (i := 0) rfl
  obtain ⟨a2, k2, rfl⟩ := slc_slice (M := M) (i := 1) rfl
  obtain ⟨a3, k3, rfl⟩ := slc_slice (M := M) (i := 2) rfl
  obtain ⟨a4, k4, rfl⟩ := slc_slice (M := M) (i := 3) rfl
  obtain ⟨a6, k6, rfl⟩ := slc_slice (M := M) (i := 4) rfl
  rw [cla_emit hW.out hN.out hM.out hL.out hQ.out hX.out]
  go_enter Tryd.func14, Tryd.ntmps14
  go_wp2_with (first | ((with_reducible refine body_id ?_); (refine q_ret M Tryd.results14 (by rfl) ?_)) | ((with_reducible refine o_list rfl fun K hK => ?_); (refine q_box M ?_; clear M; intro zx w hz hw M; clear hz hw); refine hK _ _ ?_; clear hK K) | (first | ((with_reducible refine o_list rfl fun K hK => ?_); (first | (first | refine q_all M (by rfl) ?_ | refine q_get M (by exact rfl) ?_ | refine q_part M (by rfl) (by simp only [laid, opdC, List.take_succ_cons, List.take_zero, List.drop_succ_cons, List.drop_zero, List.length_cons, List.length_nil, List.cons_append, List.nil_append, Nat.reduceAdd] <;> rfl) ?_ | refine q_ep M ?_ | refine q_ee M ?_ | refine q_et M ?_ | refine q_eo M (by assumption) (by assumption) (by assumption) ?_) | (first | ((first | refine q_setc M (by rfl) (by rfl) ?_ | refine q_set M (by rfl) (by rfl) ?_ | refine q_put M (by rfl) (by rfl) (by rfl) ?_ | refine q_in M (by rfl) (by rfl) (by rfl) ?_); clear M; intro w M; (try simp only [List.set_cons_zero, List.set_cons_succ, laid, opdC, cndC, patC, optC, lnkC, emiC, fldC, rulC, manC, List.take_succ_cons, List.take_zero, List.drop_succ_cons, List.drop_zero, List.length_cons, List.length_nil, List.cons_append, List.nil_append, Nat.reduceAdd, Nat.zero_add] at M)) | (refine q_eadv M ?_; clear M; intro w M) | (refine q_eset M ?_; clear M; intro w M)) | (refine q_var M ?_; clear M; intro z w M) | (refine q_row M (by rfl) ?_; clear M; intro q w M)); refine hK _ _ ?_; clear hK K) | ((with_reducible refine o_listg fun K hK => ?_); (first | (first | refine q_all M (by rfl) ?_ | refine q_get M (by exact rfl) ?_ | refine q_part M (by rfl) (by simp only [laid, opdC, List.take_succ_cons, List.take_zero, List.drop_succ_cons, List.drop_zero, List.length_cons, List.length_nil, List.cons_append, List.nil_append, Nat.reduceAdd] <;> rfl) ?_ | refine q_ep M ?_ | refine q_ee M ?_ | refine q_et M ?_ | refine q_eo M (by assumption) (by assumption) (by assumption) ?_)); refine hK _ _ ?_; clear hK K) | (with_reducible refine o_skipT ?_) | (with_reducible refine o_skipF ?_)) | ((go_at_call 11); refine (M.isT HE.out _ (by decide) _ (by exact Dec.out (by assumption))).mono ?_; clear M; rintro e w ⟨rfl, M⟩) | ((go_at_call 11); refine (M.isF HE.out _ (by decide) _ (by exact Dec.out (by assumption))).mono ?_; clear M; rintro e w ⟨rfl, M⟩) | (go_at_call 12; refine (M.ident HE.out).mono ?_; clear M; rintro e w ⟨rfl, M⟩) | (go_at_call 13; refine (M.want HE.out _ (by decide) _).mono ?_; clear M; rintro e w ⟨rfl, M⟩) | ((go_at_call 11); refine M.is HE.out _ (by decide) _ ?_ ?_ <;> (clear M; intro w hs M)))
  · rw [emiS_none hs.out]
    exact ⟨{ x with etype := (nameS T (adv s)).1 }, _, _, _, _, _, rfl, M.drop.drop, by show rulN x ≤ _; omega, fun h => ev_none hV.out⟩
  have H0 := hs
  clear hs
  replace M := M.emi_perm
  rw [hV.out] at M
  obtain ⟨L2, HL2, M⟩ : ∃ L2, Hid (L2 = _) ∧ Mem _ _ _ _ _ (_ :: _ :: L2) := ⟨_, Lib.hid rfl, M⟩
  generalize hRR : manyS T 4 mComma (opdS T) (mustS T 4 mOpen (nameS T (adv s)).2) = RR
  have R0 : MorRel (EyAt b ao n cap) b T u L2 zx (fun v => [.string x.name, .slice a1 x.whens.length k1, .slice a2 x.nots.length k2, .slice a3 x.manies.length k3, .slice a4 x.links.length k4, .string (nameS T (adv s)).1, v]) 58 79 6 opdF 4 mComma (opdS T) RR (T.length + 2) (.bool true) w :=
    ⟨true, [], [], _, a6, k6, rfl, M, fun _ => ⟨T.length + 1, rfl, hRR, by omega⟩, fun h => (by cases h), rfl, by simp, fun _ => rfl⟩
  have HRR := Lib.hid hRR
  clear M hRR
  go_loopg [13] (T.length + 2) (fun f v wr => MorRel (EyAt b ao n cap) b T u L2 zx (fun v => [.string x.name, .slice a1 x.whens.length k1, .slice a2 x.nots.length k2, .slice a3 x.manies.length k3, .slice a4 x.links.length k4, .string (nameS T (adv s)).1, v]) 58 79 6 opdF 4 mComma (opdS T) RR f v wr)
  case atStart => exact R0
  case round =>
    obtain ⟨m, xs', xs, s', ra, rc, rfl, M, hT, hF, hl, hm, hx⟩ := hrel
    have HX := Lib.hid hx
    clear hx R0
    cases m
    · have HR := Lib.hid (HRR.out.trans (hF rfl))
      obtain rfl := HL2.out
      clear hT hF hl hm HRR HL2
      go_wp2_with (first | ((with_reducible refine body_id ?_); (refine q_ret M Tryd.results14 (by rfl) ?_)) | (first | ((with_reducible refine o_list rfl fun K hK => ?_); (first | (first | refine q_all M (by rfl) ?_ | refine q_get M (by exact rfl) ?_ | refine q_part M (by rfl) (by simp only [laid, opdC, List.take_succ_cons, List.take_zero, List.drop_succ_cons, List.drop_zero, List.length_cons, List.length_nil, List.cons_append, List.nil_append, Nat.reduceAdd] <;> rfl) ?_ | refine q_ep M ?_ | refine q_ee M ?_ | refine q_et M ?_ | refine q_eo M (by assumption) (by assumption) (by assumption) ?_) | (first | ((first | refine q_setc M (by rfl) (by rfl) ?_ | refine q_set M (by rfl) (by rfl) ?_ | refine q_put M (by rfl) (by rfl) (by rfl) ?_ | refine q_in M (by rfl) (by rfl) (by rfl) ?_); clear M; intro w M; (try simp only [List.set_cons_zero, List.set_cons_succ, laid, opdC, cndC, patC, optC, lnkC, emiC, fldC, rulC, manC, List.take_succ_cons, List.take_zero, List.drop_succ_cons, List.drop_zero, List.length_cons, List.length_nil, List.cons_append, List.nil_append, Nat.reduceAdd, Nat.zero_add] at M)) | (refine q_eadv M ?_; clear M; intro w M) | (refine q_eset M ?_; clear M; intro w M)) | (refine q_var M ?_; clear M; intro z w M) | (refine q_row M (by rfl) ?_; clear M; intro q w M)); refine hK _ _ ?_; clear hK K) | ((with_reducible refine o_listg fun K hK => ?_); (first | (first | refine q_all M (by rfl) ?_ | refine q_get M (by exact rfl) ?_ | refine q_part M (by rfl) (by simp only [laid, opdC, List.take_succ_cons, List.take_zero, List.drop_succ_cons, List.drop_zero, List.length_cons, List.length_nil, List.cons_append, List.nil_append, Nat.reduceAdd] <;> rfl) ?_ | refine q_ep M ?_ | refine q_ee M ?_ | refine q_et M ?_ | refine q_eo M (by assumption) (by assumption) (by assumption) ?_)); refine hK _ _ ?_; clear hK K) | (with_reducible refine o_skipT ?_) | (with_reducible refine o_skipF ?_)) | (go_at_call 13; refine (M.want HE.out _ (by decide) _).mono ?_; clear M; rintro e w ⟨rfl, M⟩))
      rw [emi_of H0.out HR.out]
      exact ⟨{ x with etype := (nameS T (adv s)).1, evals := xs' }, _, _, _, _, _, rfl, M.emi_back, by show rulN x ≤ _; omega, fun h => by rw [HX.out (must_ok (must_ok h))]⟩
    · obtain ⟨g, rfl, hg1, hg2⟩ := hT rfl
      have HG := Lib.hid (And.intro hg1 hg2)
      have HM := Lib.hid (And.intro hl hm)
      clear hT hF hl hm hg1 hg2
      go_wp2_with (first | (first | ((with_reducible refine o_list rfl fun K hK => ?_); (first | (first | refine q_all M (by rfl) ?_ | refine q_get M (by exact rfl) ?_ | refine q_part M (by rfl) (by simp only [laid, opdC, List.take_succ_cons, List.take_zero, List.drop_succ_cons, List.drop_zero, List.length_cons, List.length_nil, List.cons_append, List.nil_append, Nat.reduceAdd] <;> rfl) ?_ | refine q_ep M ?_ | refine q_ee M ?_ | refine q_et M ?_ | refine q_eo M (by assumption) (by assumption) (by assumption) ?_) | (first | ((first | refine q_setc M (by rfl) (by rfl) ?_ | refine q_set M (by rfl) (by rfl) ?_ | refine q_put M (by rfl) (by rfl) (by rfl) ?_ | refine q_in M (by rfl) (by rfl) (by rfl) ?_); clear M; intro w M; (try simp only [List.set_cons_zero, List.set_cons_succ, laid, opdC, cndC, patC, optC, lnkC, emiC, fldC, rulC, manC, List.take_succ_cons, List.take_zero, List.drop_succ_cons, List.drop_zero, List.length_cons, List.length_nil, List.cons_append, List.nil_append, Nat.reduceAdd, Nat.zero_add] at M)) | (refine q_eadv M ?_; clear M; intro w M) | (refine q_eset M ?_; clear M; intro w M)) | (refine q_var M ?_; clear M; intro z w M) | (refine q_row M (by rfl) ?_; clear M; intro q w M)); refine hK _ _ ?_; clear hK K) | ((with_reducible refine o_listg fun K hK => ?_); (first | (first | refine q_all M (by rfl) ?_ | refine q_get M (by exact rfl) ?_ | refine q_part M (by rfl) (by simp only [laid, opdC, List.take_succ_cons, List.take_zero, List.drop_succ_cons, List.drop_zero, List.length_cons, List.length_nil, List.cons_append, List.nil_append, Nat.reduceAdd] <;> rfl) ?_ | refine q_ep M ?_ | refine q_ee M ?_ | refine q_et M ?_ | refine q_eo M (by assumption) (by assumption) (by assumption) ?_)); refine hK _ _ ?_; clear hK K) | (with_reducible refine o_skipT ?_) | (with_reducible refine o_skipF ?_)) | (go_at_call 35; refine (M.side HE.out).mono ?_; clear M; rintro e w ⟨rfl, M⟩) | ((go_at_call 11); refine M.is HE.out _ (by decide) _ ?_ ?_ <;> (clear M; intro w hs M)) | ((with_reducible refine o_list rfl fun K hK => ?_); (refine q_app (R := opdF) opdF_firm M 2 rfl (opdS T s').1 rfl (by rfl) (by rfl) (by have := HM.out; have := HT.out; omega) ?_; clear M; intro ra2 rc2 w M; (try simp only [List.set_cons_zero, List.set_cons_succ, laid, opdC, cndC, patC, optC, lnkC, emiC, fldC, rulC, manC, List.take_succ_cons, List.take_zero, List.drop_succ_cons, List.drop_zero, List.length_cons, List.length_nil, List.cons_append, List.nil_append, Nat.reduceAdd, Nat.zero_add] at M)); refine hK _ _ ?_; clear hK K))
      all_goals
        replace M := M.drop.drop
      · obtain ⟨hl, hm⟩ := HM.out
        obtain ⟨g', e1, e2, e3⟩ := more_yes (opdS_fine (T := T)) HG.out.1 HG.out.2 hs.out
        go_roundg (g' + 1)
        case measure => omega
        case rel => exact ⟨true, xs' ++ [(opdS T s').1], xs ++ [(opdS T s').1], _, ra2, rc2, rfl, by simpa using M, fun _ => ⟨g', rfl, e2, e3⟩, fun h => (by cases h), by simp [hl], by simp; omega, fun h => by rw [HX.out ((opdS_fine (T := T)).ok h)]⟩
      · obtain ⟨hl, hm⟩ := HM.out
        go_roundg g
        case measure => omega
        case rel => exact ⟨false, xs' ++ [(opdS T s').1], xs ++ [(opdS T s').1], _, ra2, rc2, rfl, by simpa using M, fun h => (by cases h), fun _ => more_no HG.out.1 hs.out, by simp [hl], by simp; omega, fun h => by rw [HX.out ((opdS_fine (T := T)).ok h)]⟩
/-- A clause, whichever it is. -/
theorem part_any (M : Mem (EyAt b ao n cap) b u w s (VulL u x v1 v2 v3 v4 v6 L)) (hE : Env T b ao n cap u) (hB : rulN x ≤ 5000) (hV : x.etype = ByteArray.empty → x.evals = []) :
    Calls Tryd.prog 14 #[.pointer (some ⟨b, 0, none⟩), .agg (rulC x v1 v2 v3 v4 v6).toArray] w (ParPostV (EyAt b ao n cap) b u L x (clauseS T x s)) := by
  cases h1 : seesB T 1 wWhen s with
  | true =>
    cases h2 : seesB T 1 wOver (patS T (adv s)).2 with
    | true =>
      cases h3 : seesB T 1 wLast (adv (patS T (adv s)).2) with
      | true => exact part_last M hE hB h1 h2 h3
      | false => exact part_time M hE hB h1 h2 h3
    | false => exact part_bare M hE hB h1 h2
  | false =>
    cases h2 : seesB T 1 wNot s with
    | true => exact part_not M hE hB h1 h2
    | false =>
      cases h3 : seesB T 1 wMany s with
      | true =>
        cases h4 : seesB T 1 wOf (numS T (adv s)).2 with
        | true => exact part_of M hE hB h1 h2 h3 h4
        | false => exact part_many M hE hB h1 h2 h3 h4
      | false =>
        cases h4 : seesB T 1 wWhere s with
        | true => exact part_where M hE hB h1 h2 h3 h4
        | false =>
          by_cases hq : x.etype = ByteArray.empty
          · cases h6 : seesB T 1 wEmit s with
            | true => exact part_emit M hE hB h1 h2 h3 h4 (Lib.hid hq) (by rw [hq, ByteArray.toList_eq]; rfl) (Lib.hid (hV hq)) h6
            | false => exact part_none1 M hE hB h1 h2 h3 h4 (Lib.hid hq) (by rw [hq, ByteArray.toList_eq]; rfl) h6
          · exact part_none2 M hE hB h1 h2 h3 h4 (Lib.hid hq) (nonempty_list hq)
end
end Go.Proofs.YtobnaokknkmlcaaDoor
/-
  The reference's book: what is older than the eye turned behind it; names of checked tokens are not empty.
-/
namespace Go.Proofs.YtobnaokknkmlcaaDoor
open Go.RowKit
set_option linter.unusedVariables false
set_option linter.unusedSimpArgs false

section
variable {T : List Tok} {b : Nat} {ao : Option Addr} {n cap : Nat} {s : PS} {u w : World} {L : List Ent} {At : PS → World → Prop} {x : Rul}
theorem badE_names (h : AllZ (badE T) T.length) : ∀ t ∈ T, t.kind = 1 → t.text ≠ ByteArray.empty := by
  intro t ht hk he
  obtain ⟨j, hj, rfl⟩ := List.mem_iff_getElem.1 ht
  have h1 := h j hj
  unfold badE at h1
  rw [List.getElem?_eq_getElem hj] at h1
  have h2 : tokE T[j].kind T[j].text T[j].int = 0 := h1
  unfold tokE at h2
  rw [if_pos hk] at h2
  split at h2
  · rw [he] at h2
    simp [nameE] at h2
  · omega
theorem name_full (hG : ∀ t ∈ T, t.kind = 1 → t.text ≠ ByteArray.empty) {s : PS} (he : (nameS T s).2.e = 0) : (nameS T s).1 ≠ ByteArray.empty := by
  unfold nameS at he ⊢
  cases hn : nxt T s with
  | none =>
    rw [hn] at he
    exact absurd he (miss_bad s)
  | some t =>
    rw [hn] at he
    simp only at he ⊢
    by_cases hk : t.kind = 1 ∧ keptB t.text = false
    · rw [if_pos hk]
      unfold nxt at hn
      split at hn
      · exact hG t (List.mem_of_getElem? hn) hk.1
      · cases hn
    · rw [if_neg hk] at he
      exact absurd he (miss_bad s)
theorem emi_name (s : PS) : (emiS T s).1.1 = (nameS T s).1 := by unfold emiS; split <;> rfl
theorem emi_ok {s : PS} (h : (emiS T s).2.e = 0) : (nameS T s).2.e = 0 := by
  unfold emiS at h
  split at h
  · rename_i hs
    exact must_ok (sees_ok hs).1
  · exact must_ok ((manyS_fine (T := T) (opdS_fine (T := T)) 4 mComma).ok (must_ok h))
/-- As long as no type is emitted there are no values. -/
theorem cla_inv (hG : ∀ t ∈ T, t.kind = 1 → t.text ≠ ByteArray.empty) {x : Rul} {s : PS} (hV : x.etype = ByteArray.empty → x.evals = []) (he : (clauseS T x s).2.e = 0) :
    (clauseS T x s).1.etype = ByteArray.empty → (clauseS T x s).1.evals = [] := by
  have he2 : (claS T x s).2.e = 0 := must_ok he
  show (claS T x s).1.etype = ByteArray.empty → (claS T x s).1.evals = []
  unfold claS at he2 ⊢
  split
  · exact hV
  split
  · exact hV
  split
  · exact hV
  split
  · exact hV
  split
  · rename_i h1 h2 h3 h4 h5
    rw [if_neg h1, if_neg h2, if_neg h3, if_neg h4, if_pos h5] at he2
    intro h
    exact absurd (by rw [← emi_name]; exact h) (name_full hG (emi_ok he2))
  · exact hV

/-- A block that is older than the eye, turned there and here. -/
theorem Mem.under {u' w' : World} {z : Nat} (M : Mem At b u w s L) (hz : z < u.heap.size) (hzb : z ≠ b) (hu : Put z u u') (hw : Put z w w') (hzz : w'.heap[z]? = u'.heap[z]?) : Mem At b u' w' s L := by
  have hne : ∀ k, u.heap.size ≤ k → w'.heap[k]? = w.heap[k]? := fun k hk => hw.rest k (by omega)
  have hf : ∀ k, free_ u w L k → free_ u' w' L k := fun k ⟨h1, h2, h3⟩ => ⟨by rw [hu.size]; exact h1, by rw [hw.size]; exact h2, h3⟩
  refine ⟨M.stay s w w' (hw.rest b (Ne.symm hzb)) M.at_, M.stay, ⟨?_, fun k hk hkb => ?_⟩, by rw [hu.size]; exact M.lt, fun e he => ?_, M.firm, fun e he y hy => ?_, M.apart⟩
  · exact ⟨by rw [hw.os, hu.os]; exact M.but.below.os, by rw [hw.tape, hu.tape]; exact M.but.below.tape, by rw [hw.output, hu.output]; exact M.but.below.output, by rw [hw.size, hu.size]; exact M.but.size, fun k hk => (by
      by_cases hkz : k = z
      · subst hkz; exact hzz
      · rw [hw.rest k hkz, hu.rest k hkz]
        exact M.but.below.block k hk)⟩
  · by_cases hkz : k = z
    · subst hkz; exact hzz
    · rw [hw.rest k hkz, hu.rest k hkz]
      exact M.but.rest k (by rw [← hu.size]; exact hk) hkb
  · refine M.firm e he _ _ _ _ (Nat.le_of_eq hw.size.symm) (fun k _ hk => ⟨hf k hk, hne k hk.1⟩) (fun y hy _ => hne y (M.low e he y hy).1) (fun y hy => (M.low e he y hy).2) (M.say e he)
  · rw [hu.size, hw.size]; exact M.low e he y hy
/-- What lies ahead of the eye: the book that is read, what is returned; the eye's own block as it began. -/
def Base (G : Nat) (W : World) (b : Nat) (ao : Option Addr) (n cap z2 z7 : Nat) (v1 v2 : Value) (u : World) : Prop :=
  Mem (StaysB G W) G W u ⟨0, 0⟩ (own b [.slice ao n cap, .int .i64 0, .int .i64 0] 42 :: own z7 [v1, v2] 26 :: own z2 [.slice none 0 0, .slice none 0 0] 26 :: [])
section
variable {G z2 z7 : Nat} {W : World} {v1 v2 : Value}
theorem Base.open_ (h : Base G W b ao n cap z2 z7 v1 v2 u) : z7 < u.heap.size ∧ z7 ≠ b ∧ u.cell? ⟨z7, 0, none⟩ = some v1 ∧ u.cell? ⟨z7, 1, none⟩ = some v2 := by
  have M : Mem _ _ _ _ _ _ := h
  have h1 := M.ne (z := z7) (List.mem_cons_of_mem _ (List.mem_cons_self ..))
  have hO := M.own_ (z := z7) (List.mem_cons_of_mem _ (List.mem_cons_self ..))
  have ha := (List.pairwise_cons.1 M.apart).1 _ (List.mem_cons_self ..)
  refine ⟨h1.2.2, fun e => ha b rfl (by rw [← e]; rfl), hO.cell 0, hO.cell 1⟩
theorem Base.eye (h : Base G W b ao n cap z2 z7 v1 v2 u) : Mem (EyAt b ao n cap) b u u ⟨0, 0⟩ [] := by
  have M : Mem _ _ _ _ _ _ := h
  have hO : EyAt b ao n cap ⟨0, 0⟩ u := M.own_ (z := b) (List.mem_cons_self ..)
  exact Mem.empty hO (fun s w w' hb h => hb.trans h) (M.ne (z := b) (List.mem_cons_self ..)).2.2
/-- A cell of the book that is read turned. -/
theorem Base.turn (h : Base G W b ao n cap z2 z7 v1 v2 u) (M : Mem (EyAt b ao n cap) b u w s L) (p : Nat) (hp : p < 2) (v : Value) :
    ∃ u', u'.heap.size = u.heap.size ∧ Base G W b ao n cap z2 z7 (([v1, v2].set p v).getD 0 undef) (([v1, v2].set p v).getD 1 undef) u' ∧ Mem (EyAt b ao n cap) b u' (w.setCells z7 p [v]) s L := by
  have MB : Mem _ _ _ _ _ _ := h
  have h1 := h.open_
  have hO := MB.own_ (z := z7) (List.mem_cons_of_mem _ (List.mem_cons_self ..))
  have hOw : Own z7 [v1, v2] 26 w := (M.but.rest z7 h1.1 h1.2.1).trans hO
  have hu := Put.setCells (z := z7) [v] p u
  have hw := Put.setCells (z := z7) [v] p w
  have hO' := Own.setCells [v] p _ u hO (by simp; omega)
  have hOw' := Own.setCells [v] p _ w hOw (by simp; omega)
  have hl : laid [v1, v2] p [v] = [([v1, v2].set p v).getD 0 undef, ([v1, v2].set p v).getD 1 undef] := by
    rcases (by omega : p = 0 ∨ p = 1) with rfl | rfl <;> rfl
  rw [hl] at hO' hOw'
  exact ⟨u.setCells z7 p [v], hu.size, MB.put (i := 1) rfl hu hO', M.under h1.1 h1.2.1 hu hw (hOw'.trans hO'.symm)⟩
end
section
variable {P : Program} {dst : Option Tmp} {oty : TypeId} {pos : String} {after : Array Edge} {g : Option (Nat × Bool)} {l l' : List Value} {ds : List Deferred} {Q : Exit → Act → World → Prop} {K : Act → World → Prop}
variable {j j' p : Nat} {ty : TypeId} {v : Value} {G z2 z7 : Nat} {W : World} {v1 v2 : Value}
theorem q_bk (hB : Base G W b ao n cap z2 z7 v1 v2 u) (M : Mem (EyAt b ao n cap) b u w s L) (p : Nat) (hp : p < 2) [hx : Nth l j (.pointer (some ⟨z7, p, none⟩))] [hy : Nth l j' v] [hT : OneI P ty] [hd : PutI l dst undef l'] (h1 : v.oneCell' = true)
    (h : ∀ u' w', u'.heap.size = u.heap.size → Base G W b ao n cap z2 z7 (([v1, v2].set p v).getD 0 undef) (([v1, v2].set p v).getD 1 undef) u' → Mem (EyAt b ao n cap) b u' w' s L → K ⟨l'.toArray, ds⟩ w') :
    OWP P ⟨dst, .store ty (.tmp j) (.tmp j'), oty, pos, after, g⟩ ⟨l.toArray, ds⟩ w K Q := by
  refine owp_of ?_
  have MB : Mem _ _ _ _ _ _ := hB
  have h2 := hB.open_
  have hO := MB.own_ (z := z7) (List.mem_cons_of_mem _ (List.mem_cons_self ..))
  have hOw : Own z7 [v1, v2] 26 w := (M.but.rest z7 h2.1 h2.2.1).trans hO
  have ht := hOw.there p 1 (by simp; omega) 0 (by omega)
  have hc := run_store_one (P := P) (ty := ty) (p := p) (v := v) hT.one (by simpa using ht.1) (by simpa using ht.2) h1
  unfold Oper.wp execOp
  simp only [eval_tmp hx.nth, eval_tmp hy.nth, Instr.storeAt, Instr.sureAddr, Sem.run_bind, Sem.run_pure, Result.andThen_ok, hc]
  show K _ _
  rw [hd.put]
  obtain ⟨u', e1, e2, e3⟩ := hB.turn M p hp v
  exact h u' _ e1 e2 e3
end
end
end Go.Proofs.YtobnaokknkmlcaaDoor
/-
  The reference's ParseOf, walked whole. Printed by psa.py.
-/
namespace Go.Proofs.YtobnaokknkmlcaaDoor
open Go.RowKit
set_option linter.unusedVariables false
set_option linter.unusedSimpArgs false

def RefRel (G : Nat) (W : World) (b : Nat) (ao : Option Addr) (n cap z2 z7 : Nat) (T : List Tok) (R : Bok × PS) (f : Nat) (w : World) : Prop :=
  ∃ u bk' bk s v1 v2, Base G W b ao n cap z2 z7 v1 v2 u ∧ Mem (EyAt b ao n cap) b u w s (slc u.heap.size 46 2 typF v1 bk'.types :: slc u.heap.size 58 7 rulF v2 bk'.rules :: []) ∧
    bookL T f bk s = R ∧ left_ T s < f ∧ bk'.types.length + bk'.rules.length + f ≤ T.length + 2 ∧ (s.e = 0 → bk' = bk)
def RulRelV (At : PS → World → Prop) (b : Nat) (T : List Tok) (u : World) (L : List Ent) (zx : Nat) (R : Rul × PS) (f : Nat) (w : World) : Prop :=
  ∃ x' x s v1 v2 v3 v4 v6, Mem At b u w s (VulL u x' v1 v2 v3 v4 v6 (own zx (rulC x' v1 v2 v3 v4 v6) 58 :: L)) ∧ clausesL T f x s = R ∧ left_ T s < f ∧ rulN x' + f ≤ T.length + 2 ∧ (s.e = 0 → x' = x) ∧ (s.e = 0 → x'.etype = ByteArray.empty → x'.evals = [])
section
variable {T : List Tok} {b : Nat} {ao : Option Addr} {n cap : Nat} {s : PS} {u w : World} {L : List Ent} {At : PS → World → Prop} {G z2 z7 : Nat} {W : World} {v1 v2 : Value}
theorem snoc_mem {α : Type} {e k z ty : Nat} {R : (Nat → Prop) → World → List Value → α → Prop} {xs : List α} {y : α} {ra : Option Addr} {rc : Nat} {cells : Value → List Value} {K : List Ent} (M : Mem At b u w s (slc u.heap.size e k R (.slice ra (xs.length + 1) rc) (xs ++ [y]) :: own z (cells (.slice ra (xs.length + 1) rc)) ty :: K)) :
    Mem At b u w s (slc u.heap.size e k R (.slice ra (xs ++ [y]).length rc) (xs ++ [y]) :: own z (cells (.slice ra (xs ++ [y]).length rc)) ty :: K) := by
  have e : (xs ++ [y]).length = xs.length + 1 := by simp
  rw [e]; exact M
theorem typS_none {s : PS} (h : seesB T 4 mRight (mustS T 4 mLeft (nameS T s).2) = true) : typS T s = (⟨(nameS T s).1, []⟩, adv (mustS T 4 mLeft (nameS T s).2)) := by
  unfold typS; rw [fldsS_none h]
theorem typS_end {s s' : PS} {xs : List Fld} (h0 : seesB T 4 mRight (mustS T 4 mLeft (nameS T s).2) = false) (h : manyS T 4 mComma (fldS T) (mustS T 4 mLeft (nameS T s).2) = (xs, s')) : typS T s = (⟨(nameS T s).1, xs⟩, mustS T 4 mRight s') := by
  unfold typS; rw [fldsS_end h0 h]
theorem fldS_else {s : PS} (h : seesB T 1 wInt (mustS T 4 mColon (nameS T s).2) = false) : fldS T s = (⟨(nameS T s).1, 2⟩, mustS T 1 wText (mustS T 4 mColon (nameS T s).2)) := by
  unfold fldS kindS; rw [h]; rfl
theorem rul_startV {zx : Nat} {nm : ByteArray} (M : Mem At b u w s (own zx [.string nm, .slice none 0 0, .slice none 0 0, .slice none 0 0, .slice none 0 0, .string ByteArray.empty, .slice none 0 0] 58 :: L)) :
    Mem At b u w s (VulL u (rul0 nm) (.slice none 0 0) (.slice none 0 0) (.slice none 0 0) (.slice none 0 0) (.slice none 0 0) (own zx (rulC (rul0 nm) (.slice none 0 0) (.slice none 0 0) (.slice none 0 0) (.slice none 0 0) (.slice none 0 0)) 58 :: L)) :=
  ((((M.none_ (R := opdF) opdF_firm 79 6).none_ (R := lnkF) lnkF_firm 90 3).none_ (R := manF) manF_firm 87 20).none_ (R := patF) patF_firm 83 18).none_ (R := patF) patF_firm 83 18
/-- A rule that was read, as data. -/
theorem rul_doneV {zx : Nat} {x : Rul} {v1 v2 v3 v4 v6 : Value} (M : Mem At b u w s (VulL u x v1 v2 v3 v4 v6 (own zx (rulC x v1 v2 v3 v4 v6) 58 :: L))) :
    Mem At b u w s (own zx (rulC x v1 v2 v3 v4 v6) 58 :: dat (fun F w => rulF F w (rulC x v1 v2 v3 v4 v6) x) :: L) := by
  unfold VulL at M
  obtain ⟨a1, c1, e1, M⟩ := Mem.doneA [] patF_firm (by omega) M
  obtain ⟨a2, c2, e2, M⟩ := Mem.doneA [_] patF_firm (by omega) M
  obtain ⟨a3, c3, e3, M⟩ := Mem.doneA [_, _] manF_firm (by omega) M
  obtain ⟨a4, c4, e4, M⟩ := Mem.doneA [_, _, _] lnkF_firm (by omega) M
  obtain ⟨a6, c6, e6, M⟩ := Mem.doneA [_, _, _, _] opdF_firm (by omega) M
  subst e1 e2 e3 e4 e6
  have M2 : Mem At b u w s (dat _ :: dat _ :: dat _ :: dat _ :: dat _ :: own zx _ _ :: L) := M
  have f1 := fnd (k := 18) (ao := a1) (n := x.whens.length) (cap := c1) (xs := x.whens) patF_firm
  have f2 := fnd (k := 18) (ao := a2) (n := x.nots.length) (cap := c2) (xs := x.nots) patF_firm
  have f3 := fnd (k := 20) (ao := a3) (n := x.manies.length) (cap := c3) (xs := x.manies) manF_firm
  have f4 := fnd (k := 3) (ao := a4) (n := x.links.length) (cap := c4) (xs := x.links) lnkF_firm
  have f6 := fnd (k := 6) (ao := a6) (n := x.evals.length) (cap := c6) (xs := x.evals) opdF_firm
  have M3 := Mem.both (fnd_and (fnd_and (fnd_and f1 f2) f3) f4) f6 (Mem.both (fnd_and (fnd_and f1 f2) f3) f4 (Mem.both (fnd_and f1 f2) f3 (Mem.both f1 f2 M2)))
  have M4 := Mem.turnD (G' := fun F w => rulF F w (rulC x (.slice a1 x.whens.length c1) (.slice a2 x.nots.length c2) (.slice a3 x.manies.length c3) (.slice a4 x.links.length c4) (.slice a6 x.evals.length c6)) x) (fnd_and (fnd_and (fnd_and (fnd_and f1 f2) f3) f4) f6)
    (fun F F' w w' hs h => rulF_firm _ _ _ _ _ _ hs h) (fun F ⟨⟨⟨⟨h1, h2⟩, h3⟩, h4⟩, h6⟩ => ⟨a1, _, c1, a2, _, c2, a3, _, c3, a4, _, c4, a6, _, c6, rfl, h1, h2, h3, h4, h6⟩) M3
  exact M4.perm (List.Perm.swap _ _ _)
/-- The eye put away. -/
theorem base_end {ts : List Typ} {rs : List Rul} (hB : Base G W b ao n cap z2 z7 v1 v2 u) (M : Mem (EyAt b ao n cap) b u w s (slc u.heap.size 46 2 typF v1 ts :: slc u.heap.size 58 7 rulF v2 rs :: [])) :
    ∃ a1 c1 a2 c2, v1 = .slice a1 ts.length c1 ∧ v2 = .slice a2 rs.length c2 ∧ Mem (StaysB G W) G W w ⟨0, 0⟩ (dat (fun F w => SlF F w 2 typF a1 ts.length c1 ts ∧ SlF F w 7 rulF a2 rs.length c2 rs) :: own b [.slice ao n cap, .int .i64 s.pos, .int .i64 s.e] 42 :: own z7 [v1, v2] 26 :: own z2 [.slice none 0 0, .slice none 0 0] 26 :: []) := by
  have MB : Mem _ _ _ _ _ _ := hB
  obtain ⟨a1, c1, e1, M⟩ := Mem.doneA [] typF_firm (by omega) M
  obtain ⟨a2, c2, e2, M⟩ := Mem.doneA [_] rulF_firm (by omega) M
  have M2 : Mem (EyAt b ao n cap) b u w s (dat (fun F w => SlF F w 2 typF a1 ts.length c1 ts) :: dat (fun F w => SlF F w 7 rulF a2 rs.length c2 rs) :: []) := M
  replace M2 := Mem.both (fnd typF_firm) (fnd rulF_firm) M2
  have hown : Own b [.slice ao n cap, .int .i64 s.pos, .int .i64 s.e] 42 w := M2.at_
  have M3 := MB.turned M2.but hown
  refine ⟨a1, c1, a2, c2, e1, e2, M3.adopt (fnd_and (fnd typF_firm) (fnd rulF_firm)) (M2.dat_ (i := 0) rfl) (fun k hk hlt => ⟨?_, hlt, fun e he => ?_⟩)⟩
  · have := hk.1; have := MB.size; omega
  · have h1 := hk.1
    intro hek
    have h2 : ∀ z cs t, own z cs t ∈ (own b [.slice ao n cap, .int .i64 0, .int .i64 0] 42 :: own z7 [v1, v2] 26 :: own z2 [.slice none 0 0, .slice none 0 0] 26 :: []) → z < u.heap.size := fun z cs t h => (MB.ne h).2.2
    simp only [List.mem_cons, List.not_mem_nil, or_false] at he
    rcases he with rfl | rfl | rfl
    · have := h2 b _ _ (List.mem_cons_self ..); injection hek with hek; omega
    · have := h2 z7 _ _ (List.mem_cons_of_mem _ (List.mem_cons_self ..)); injection hek with hek; omega
    · have := h2 z2 _ _ (List.mem_cons_of_mem _ (List.mem_cons_of_mem _ (List.mem_cons_self ..))); injection hek with hek; omega
end
set_option maxRecDepth 8000 in
set_option maxHeartbeats 8000000 in
theorem parseOf_any (T : List Tok) (F F' : Nat → Prop) (ao : Option Addr) (n cap : Nat) (W : World) (hT : SlF F W 3 tokF ao n cap T) (hM : SlF F' W 1 wordF (some ⟨0, 0, none⟩) 17 17 marksL)
    (hK : SlF F' W 1 wordF (some ⟨1, 0, none⟩) 17 17 keptL) (hR : SlF F' W 1 wordF (some ⟨2, 0, none⟩) 14 14 relsL) :
    Calls Tryd.prog 5 #[.slice ao n cap] W (ParPost W (parB T, parE T)) := by
  have hg : 0 < W.heap.size := by
    obtain ⟨b, off, row, e, hF, hlt, _⟩ := hM.2.2.2.2 0 (by decide)
    injection e with e; injection e with e1 e2
    rw [e1]; exact hlt
  have M := Mem.begin hg ⟨0, 0⟩
  have NL := Lib.hid hT.len
  have hle := hT.le
  have HT := Lib.hid hT
  by_cases h7 : 700 < T.length
  · have h7n : (700 : Int) < n := by have := NL.out; omega
    have HE := Lib.hid (parE_long h7)
    clear h7 hT hM hK hR hg
    go_enter Tryd.func5, Tryd.ntmps5
    go_wp2_with (first | ((try show bodyPost _ _ _ _ _ _); (refine q_ret3 M Tryd.results5 (by rfl) ⟨_, Tryd.underlying26, rfl⟩ ?_)) | (first | ((with_reducible refine o_list rfl fun K hK => ?_); (first | (first | refine q_all M (by rfl) ?_ | refine q_get M (by exact rfl) ?_ | refine q_part M (by rfl) (by simp only [laid, opdC, List.take_succ_cons, List.take_zero, List.drop_succ_cons, List.drop_zero, List.length_cons, List.length_nil, List.cons_append, List.nil_append, Nat.reduceAdd] <;> rfl) ?_ | refine q_ep M ?_ | refine q_ee M ?_ | refine q_et M ?_ | refine q_eo M (by assumption) (by assumption) (by assumption) ?_) | (first | ((first | refine q_setc M (by rfl) (by rfl) ?_ | refine q_set M (by rfl) (by rfl) ?_ | refine q_put M (by rfl) (by rfl) (by rfl) ?_ | refine q_in M (by rfl) (by rfl) (by rfl) ?_); clear M; intro w M; (try simp only [List.set_cons_zero, List.set_cons_succ, laid, opdC, cndC, patC, optC, lnkC, emiC, fldC, rulC, manC, typC, bokC, List.take_succ_cons, List.take_zero, List.drop_succ_cons, List.drop_zero, List.length_cons, List.length_nil, List.cons_append, List.nil_append, Nat.reduceAdd, Nat.zero_add] at M)) | (refine q_eadv M ?_; clear M; intro w M) | (refine q_eset M ?_; clear M; intro w M)) | (refine q_var M ?_; clear M; intro z w M) | (refine q_row M (by rfl) ?_; clear M; intro q w M)); refine hK _ _ ?_; clear hK K) | ((with_reducible refine o_listg fun K hK => ?_); (first | (first | refine q_all M (by rfl) ?_ | refine q_get M (by exact rfl) ?_ | refine q_part M (by rfl) (by simp only [laid, opdC, List.take_succ_cons, List.take_zero, List.drop_succ_cons, List.drop_zero, List.length_cons, List.length_nil, List.cons_append, List.nil_append, Nat.reduceAdd] <;> rfl) ?_ | refine q_ep M ?_ | refine q_ee M ?_ | refine q_et M ?_ | refine q_eo M (by assumption) (by assumption) (by assumption) ?_)); refine hK _ _ ?_; clear hK K) | (with_reducible refine o_skipT ?_) | (with_reducible refine o_skipF ?_)))
    exact par_bad HE.out (by decide) M.new
  · have h7n : (n : Int) ≤ 700 := by have := NL.out; omega
    have H7 : Hid (T.length ≤ 700) := Nat.le_of_not_lt h7
    have HKR := Lib.hid (And.intro hK hR)
    clear h7 hT hM hK hR hg
    go_enter Tryd.func5, Tryd.ntmps5
    go_wp2_with (first | (first | ((with_reducible refine o_list rfl fun K hK => ?_); (first | (first | refine q_all M (by rfl) ?_ | refine q_get M (by exact rfl) ?_ | refine q_part M (by rfl) (by simp only [laid, opdC, List.take_succ_cons, List.take_zero, List.drop_succ_cons, List.drop_zero, List.length_cons, List.length_nil, List.cons_append, List.nil_append, Nat.reduceAdd] <;> rfl) ?_ | refine q_ep M ?_ | refine q_ee M ?_ | refine q_et M ?_ | refine q_eo M (by assumption) (by assumption) (by assumption) ?_) | (first | ((first | refine q_setc M (by rfl) (by rfl) ?_ | refine q_set M (by rfl) (by rfl) ?_ | refine q_put M (by rfl) (by rfl) (by rfl) ?_ | refine q_in M (by rfl) (by rfl) (by rfl) ?_); clear M; intro w M; (try simp only [List.set_cons_zero, List.set_cons_succ, laid, opdC, cndC, patC, optC, lnkC, emiC, fldC, rulC, manC, typC, bokC, List.take_succ_cons, List.take_zero, List.drop_succ_cons, List.drop_zero, List.length_cons, List.length_nil, List.cons_append, List.nil_append, Nat.reduceAdd, Nat.zero_add] at M)) | (refine q_eadv M ?_; clear M; intro w M) | (refine q_eset M ?_; clear M; intro w M)) | (refine q_var M ?_; clear M; intro z w M) | (refine q_row M (by rfl) ?_; clear M; intro q w M)); refine hK _ _ ?_; clear hK K) | ((with_reducible refine o_listg fun K hK => ?_); (first | (first | refine q_all M (by rfl) ?_ | refine q_get M (by exact rfl) ?_ | refine q_part M (by rfl) (by simp only [laid, opdC, List.take_succ_cons, List.take_zero, List.drop_succ_cons, List.drop_zero, List.length_cons, List.length_nil, List.cons_append, List.nil_append, Nat.reduceAdd] <;> rfl) ?_ | refine q_ep M ?_ | refine q_ee M ?_ | refine q_et M ?_ | refine q_eo M (by assumption) (by assumption) (by assumption) ?_)); refine hK _ _ ?_; clear hK K) | (with_reducible refine o_skipT ?_) | (with_reducible refine o_skipF ?_)))
    rcases (⟨z, rfl⟩ : ∃ zb, zb = z) with ⟨z2, hz2⟩
    subst hz2
    go_loopw [5] (fun i wr => ∃ k : Nat, k ≤ n ∧ i = .int .i64 k ∧ Mem (StaysB 0 W) 0 W wr ⟨0, 0⟩ (own z2 [.slice none 0 0, .slice none 0 0] 26 :: []) ∧ Hid (AllZ (badE T) k)) (fun i _ => n - (intOf i).toNat)
    case atStart => exact ⟨0, Nat.zero_le _, rfl, M, allZ_zero _⟩
    case round =>
      obtain ⟨k, hkn, rfl, M, HA⟩ := hrel
      by_cases hlt : k < n
      · have hkl : k < T.length := by have := NL.out; omega
        have hb := M.new
        obtain ⟨c, off, row, hix, hclt, hrow, hrr⟩ := (HT.out.below tokF_firm hb).toR.index (P := Tryd.prog) Tryd.underlying22 size_tok (i := k) hkl
        have HBk : Hid (badE T k = tokE T[k].kind T[k].text T[k].int) := by show _ = _; unfold badE; rw [List.getElem?_eq_getElem hkl]
        generalize T[k] = t at hrr HBk
        have e1 : row = [.int .i64 t.kind, .string t.text, .int .i64 t.int] := hrr.1
        subst e1
        have hts := hrr.2
        have hr := hrow.range
        have HK : Hid (∀ wx, Below W.heap.size W wx → Calls Tryd.prog 10 #[.agg #[.int .i64 t.kind, .string t.text, .int .i64 t.int]] wx fun e w' => e = .returned (.int .i64 (badE T k)) ∧ Below wx.heap.size wx w') := fun wx hbx => by
          rw [HBk.out]
          exact tokFault_any _ _ _ wx (by unfold maxLen; omega)
        have HKL := Lib.hid hkl
        clear hrow hrr hts hb hkl HBk hclt
        generalize hq : badE T k = q at HK
        have HQ := Lib.hid hq
        clear hq
        by_cases hke : q = 0
        · subst hke
          go_wp2_with (first | (first | ((with_reducible refine o_list rfl fun K hK => ?_); (first | (first | refine q_all M (by rfl) ?_ | refine q_get M (by exact rfl) ?_ | refine q_part M (by rfl) (by simp only [laid, opdC, List.take_succ_cons, List.take_zero, List.drop_succ_cons, List.drop_zero, List.length_cons, List.length_nil, List.cons_append, List.nil_append, Nat.reduceAdd] <;> rfl) ?_ | refine q_ep M ?_ | refine q_ee M ?_ | refine q_et M ?_ | refine q_eo M (by assumption) (by assumption) (by assumption) ?_) | (first | ((first | refine q_setc M (by rfl) (by rfl) ?_ | refine q_set M (by rfl) (by rfl) ?_ | refine q_put M (by rfl) (by rfl) (by rfl) ?_ | refine q_in M (by rfl) (by rfl) (by rfl) ?_); clear M; intro w M; (try simp only [List.set_cons_zero, List.set_cons_succ, laid, opdC, cndC, patC, optC, lnkC, emiC, fldC, rulC, manC, typC, bokC, List.take_succ_cons, List.take_zero, List.drop_succ_cons, List.drop_zero, List.length_cons, List.length_nil, List.cons_append, List.nil_append, Nat.reduceAdd, Nat.zero_add] at M)) | (refine q_eadv M ?_; clear M; intro w M) | (refine q_eset M ?_; clear M; intro w M)) | (refine q_var M ?_; clear M; intro z w M) | (refine q_row M (by rfl) ?_; clear M; intro q w M)); refine hK _ _ ?_; clear hK K) | ((with_reducible refine o_listg fun K hK => ?_); (first | (first | refine q_all M (by rfl) ?_ | refine q_get M (by exact rfl) ?_ | refine q_part M (by rfl) (by simp only [laid, opdC, List.take_succ_cons, List.take_zero, List.drop_succ_cons, List.drop_zero, List.length_cons, List.length_nil, List.cons_append, List.nil_append, Nat.reduceAdd] <;> rfl) ?_ | refine q_ep M ?_ | refine q_ee M ?_ | refine q_et M ?_ | refine q_eo M (by assumption) (by assumption) (by assumption) ?_)); refine hK _ _ ?_; clear hK K) | (with_reducible refine o_skipT ?_) | (with_reducible refine o_skipF ?_)) | ((with_reducible refine o_list rfl fun K hK => ?_); refine q_at hr (by rfl) ?_; refine hK _ _ ?_; clear hK K) | ((go_at_call 10); refine (HK.out _ M.new).mono ?_; rintro e w1 ⟨rfl, hb1⟩; replace M := M.below hb1; clear hb1))
          go_roundw
          case rel => exact ⟨k + 1, by omega, by go_num, M, allZ_succ HA.out HQ.out⟩
          case measure => simp [intOf]; omega
        · have HE := Lib.hid (parE_bad H7.out HA.out HKL.out (by rw [HQ.out]; exact hke))
          go_wp2_with (first | ((try show bodyPost _ _ _ _ _ _); (refine q_ret3 M Tryd.results5 (by rfl) ⟨_, Tryd.underlying26, rfl⟩ ?_)) | (first | ((with_reducible refine o_list rfl fun K hK => ?_); (first | (first | refine q_all M (by rfl) ?_ | refine q_get M (by exact rfl) ?_ | refine q_part M (by rfl) (by simp only [laid, opdC, List.take_succ_cons, List.take_zero, List.drop_succ_cons, List.drop_zero, List.length_cons, List.length_nil, List.cons_append, List.nil_append, Nat.reduceAdd] <;> rfl) ?_ | refine q_ep M ?_ | refine q_ee M ?_ | refine q_et M ?_ | refine q_eo M (by assumption) (by assumption) (by assumption) ?_) | (first | ((first | refine q_setc M (by rfl) (by rfl) ?_ | refine q_set M (by rfl) (by rfl) ?_ | refine q_put M (by rfl) (by rfl) (by rfl) ?_ | refine q_in M (by rfl) (by rfl) (by rfl) ?_); clear M; intro w M; (try simp only [List.set_cons_zero, List.set_cons_succ, laid, opdC, cndC, patC, optC, lnkC, emiC, fldC, rulC, manC, typC, bokC, List.take_succ_cons, List.take_zero, List.drop_succ_cons, List.drop_zero, List.length_cons, List.length_nil, List.cons_append, List.nil_append, Nat.reduceAdd, Nat.zero_add] at M)) | (refine q_eadv M ?_; clear M; intro w M) | (refine q_eset M ?_; clear M; intro w M)) | (refine q_var M ?_; clear M; intro z w M) | (refine q_row M (by rfl) ?_; clear M; intro q w M)); refine hK _ _ ?_; clear hK K) | ((with_reducible refine o_listg fun K hK => ?_); (first | (first | refine q_all M (by rfl) ?_ | refine q_get M (by exact rfl) ?_ | refine q_part M (by rfl) (by simp only [laid, opdC, List.take_succ_cons, List.take_zero, List.drop_succ_cons, List.drop_zero, List.length_cons, List.length_nil, List.cons_append, List.nil_append, Nat.reduceAdd] <;> rfl) ?_ | refine q_ep M ?_ | refine q_ee M ?_ | refine q_et M ?_ | refine q_eo M (by assumption) (by assumption) (by assumption) ?_)); refine hK _ _ ?_; clear hK K) | (with_reducible refine o_skipT ?_) | (with_reducible refine o_skipF ?_)) | ((with_reducible refine o_list rfl fun K hK => ?_); refine q_at hr (by rfl) ?_; refine hK _ _ ?_; clear hK K) | ((go_at_call 10); refine (HK.out _ M.new).mono ?_; rintro e w1 ⟨rfl, hb1⟩; replace M := M.below hb1; clear hb1))
          rw [HQ.out] at HE
          exact par_bad HE.out hke M.new
      · have HA2 : Hid (AllZ (badE T) T.length) := by
          have e : k = T.length := by have := NL.out; omega
          exact e ▸ HA.out
        have HN := Lib.hid (badE_names HA2.out)
        clear HA
        go_wp2_with (first | ((with_reducible refine o_list rfl fun K hK => ?_); (refine q_box M ?_; clear M; intro zb w hzb hw M; clear hzb hw); refine hK _ _ ?_; clear hK K) | (first | ((with_reducible refine o_list rfl fun K hK => ?_); (first | (first | refine q_all M (by rfl) ?_ | refine q_get M (by exact rfl) ?_ | refine q_part M (by rfl) (by simp only [laid, opdC, List.take_succ_cons, List.take_zero, List.drop_succ_cons, List.drop_zero, List.length_cons, List.length_nil, List.cons_append, List.nil_append, Nat.reduceAdd] <;> rfl) ?_ | refine q_ep M ?_ | refine q_ee M ?_ | refine q_et M ?_ | refine q_eo M (by assumption) (by assumption) (by assumption) ?_) | (first | ((first | refine q_setc M (by rfl) (by rfl) ?_ | refine q_set M (by rfl) (by rfl) ?_ | refine q_put M (by rfl) (by rfl) (by rfl) ?_ | refine q_in M (by rfl) (by rfl) (by rfl) ?_); clear M; intro w M; (try simp only [List.set_cons_zero, List.set_cons_succ, laid, opdC, cndC, patC, optC, lnkC, emiC, fldC, rulC, manC, typC, bokC, List.take_succ_cons, List.take_zero, List.drop_succ_cons, List.drop_zero, List.length_cons, List.length_nil, List.cons_append, List.nil_append, Nat.reduceAdd, Nat.zero_add] at M)) | (refine q_eadv M ?_; clear M; intro w M) | (refine q_eset M ?_; clear M; intro w M)) | (refine q_var M ?_; clear M; intro z w M) | (refine q_row M (by rfl) ?_; clear M; intro q w M)); refine hK _ _ ?_; clear hK K) | ((with_reducible refine o_listg fun K hK => ?_); (first | (first | refine q_all M (by rfl) ?_ | refine q_get M (by exact rfl) ?_ | refine q_part M (by rfl) (by simp only [laid, opdC, List.take_succ_cons, List.take_zero, List.drop_succ_cons, List.drop_zero, List.length_cons, List.length_nil, List.cons_append, List.nil_append, Nat.reduceAdd] <;> rfl) ?_ | refine q_ep M ?_ | refine q_ee M ?_ | refine q_et M ?_ | refine q_eo M (by assumption) (by assumption) (by assumption) ?_)); refine hK _ _ ?_; clear hK K) | (with_reducible refine o_skipT ?_) | (with_reducible refine o_skipF ?_)))
        rcases (⟨z, rfl⟩ : ∃ zb, zb = z) with ⟨z7, hz7⟩
        subst hz7
        have HB0 : Base 0 W zb ao n cap z2 z7 (.slice none 0 0) (.slice none 0 0) w := M
        have HEnv : Hid (∀ v1 v2 u, Base 0 W zb ao n cap z2 z7 v1 v2 u → Env T zb ao n cap u) := by
          have hzb := (M.ne (z := zb) (List.mem_cons_self ..)).1
          intro v1 v2 u hBu
          have hb3 : Below W.heap.size W u := (show Mem _ _ _ _ _ _ from hBu).new
          exact ⟨(HT.out.wide tokF_firm (G := ne_ zb) (fun k _ hlt => by show k ≠ _; omega)).below tokF_firm hb3, by omega,
            (HKR.out.1.wide wordF_firm (G := ne_ zb) (fun k _ hlt => by show k ≠ _; omega)).below wordF_firm hb3, (HKR.out.2.wide wordF_firm (G := ne_ zb) (fun k _ hlt => by show k ≠ _; omega)).below wordF_firm hb3⟩
        have M2 := (HB0.eye.none_ (R := rulF) rulF_firm 58 7).none_ (R := typF) typF_firm 46 2
        generalize hRR : bookS T = RR
        have R0 : RefRel 0 W zb ao n cap z2 z7 T RR (T.length + 2) w := ⟨w, ⟨[], []⟩, ⟨[], []⟩, ⟨0, 0⟩, _, _, HB0, M2, hRR, left_le _, by simp, fun _ => rfl⟩
        have HRR := Lib.hid hRR
        have HL : Hid ((T.length : Int) = n ∧ T.length ≤ 700) := by
          have h1 := NL.out
          have h2 := H7.out
          exact ⟨by omega, h2⟩
        clear M M2 HB0 hRR
        go_loopg [52] (T.length + 2) (fun f _ wr => RefRel 0 W zb ao n cap z2 z7 T RR f wr)
        case atStart => exact R0
        case round =>
          obtain ⟨u, bk', bk, s', v1, v2, hB, M, hR, hf, hl, hx⟩ := hrel
          have HBase := Lib.hid hB
          have HE := Lib.hid (HEnv.out _ _ _ hB)
          have HR := Lib.hid hR
          have HX := Lib.hid hx
          have HF := Lib.hid (And.intro hf hl)
          clear R0 hR hx hf hl
          by_cases he : s'.e = 0
          · have heb : (s'.e == 0) = true := by simpa using he
            by_cases hp : s'.pos < T.length
            · obtain ⟨h7a, h7b, h7c, h7d⟩ := hB.open_
              have hpd : decide (s'.pos < n) = true := by have := HL.out; simp; omega
              have hpd2 : decide ((s'.pos : Int) < n) = true := by have := HL.out; simp; omega
              have O1 := Lib.hid he
              have HP0 := Lib.hid hp
              clear hp he hB
              go_wp2_with (first | ((try show bodyPost _ _ _ _ _ _); (refine q_ret3 M Tryd.results5 (by rfl) ⟨_, Tryd.underlying26, rfl⟩ ?_)) | (first | ((with_reducible refine o_list rfl fun K hK => ?_); (first | (first | refine q_all M (by rfl) ?_ | refine q_get M (by exact rfl) ?_ | refine q_part M (by rfl) (by simp only [laid, opdC, List.take_succ_cons, List.take_zero, List.drop_succ_cons, List.drop_zero, List.length_cons, List.length_nil, List.cons_append, List.nil_append, Nat.reduceAdd] <;> rfl) ?_ | refine q_ep M ?_ | refine q_ee M ?_ | refine q_et M ?_ | refine q_eo M (by assumption) (by assumption) (by assumption) ?_) | (first | ((first | refine q_setc M (by rfl) (by rfl) ?_ | refine q_set M (by rfl) (by rfl) ?_ | refine q_put M (by rfl) (by rfl) (by rfl) ?_ | refine q_in M (by rfl) (by rfl) (by rfl) ?_); clear M; intro w M; (try simp only [List.set_cons_zero, List.set_cons_succ, laid, opdC, cndC, patC, optC, lnkC, emiC, fldC, rulC, manC, typC, bokC, List.take_succ_cons, List.take_zero, List.drop_succ_cons, List.drop_zero, List.length_cons, List.length_nil, List.cons_append, List.nil_append, Nat.reduceAdd, Nat.zero_add] at M)) | (refine q_eadv M ?_; clear M; intro w M) | (refine q_eset M ?_; clear M; intro w M)) | (refine q_var M ?_; clear M; intro z w M) | (refine q_row M (by rfl) ?_; clear M; intro q w M)); refine hK _ _ ?_; clear hK K) | ((with_reducible refine o_listg fun K hK => ?_); (first | (first | refine q_all M (by rfl) ?_ | refine q_get M (by exact rfl) ?_ | refine q_part M (by rfl) (by simp only [laid, opdC, List.take_succ_cons, List.take_zero, List.drop_succ_cons, List.drop_zero, List.length_cons, List.length_nil, List.cons_append, List.nil_append, Nat.reduceAdd] <;> rfl) ?_ | refine q_ep M ?_ | refine q_ee M ?_ | refine q_et M ?_ | refine q_eo M (by assumption) (by assumption) (by assumption) ?_)); refine hK _ _ ?_; clear hK K) | (with_reducible refine o_skipT ?_) | (with_reducible refine o_skipF ?_)) | ((go_at_call 11); refine M.is HE.out _ (by decide) _ ?_ ?_ <;> (clear M; intro w hs M)) | (go_at_call 12; refine (M.ident HE.out).mono ?_; clear M; rintro e w ⟨rfl, M⟩) | (go_at_call 13; refine (M.want HE.out _ (by decide) _).mono ?_; clear M; rintro e w ⟨rfl, M⟩) | (go_at_call 15; refine (M.wrong HE.out).mono ?_; clear M; rintro e w ⟨rfl, M⟩) | ((with_reducible refine o_list rfl fun K hK => ?_); (refine q_app (R := typF) typF_firm M 2 rfl ⟨(nameS T (adv s')).1, []⟩ (by exact ⟨none, 0, 0, rfl, SlF.nil⟩) (by rfl) (by rfl) (by have := HF.out; have := HL.out; omega) ?_; clear M; intro ra2 rc2 w M; (try simp only [List.set_cons_zero, List.set_cons_succ, laid, opdC, cndC, patC, optC, lnkC, emiC, fldC, rulC, manC, typC, bokC, List.take_succ_cons, List.take_zero, List.drop_succ_cons, List.drop_zero, List.length_cons, List.length_nil, List.cons_append, List.nil_append, Nat.reduceAdd, Nat.zero_add] at M)); refine hK _ _ ?_; clear hK K) | ((with_reducible refine o_list rfl fun K hK => ?_); refine q_bk HBase.out M 0 (by decide) (by rfl) ?_; clear M; intro u2 w hsz HB2 M; (try simp only [List.set_cons_zero, List.set_cons_succ] at M); rw [← hsz] at M; refine hK _ _ ?_; clear hK K))
              · obtain ⟨hf, hl⟩ := HF.out
                obtain ⟨f', e1, e2, e3⟩ := bookL_type (T := T) (bk := bk) hf (Dec.out (by assumption))
                rw [typS_none hs.out] at e2 e3
                have E2 := Lib.hid e2
                have E3 := Lib.hid e3
                clear e2 e3
                replace M := M.drop.drop
                go_roundg f'
                case measure => omega
                case rel => exact ⟨u2, { bk' with types := bk'.types ++ [⟨(nameS T (adv s')).1, []⟩] }, { bk with types := bk.types ++ [⟨(nameS T (adv s')).1, []⟩] }, _, _, v2, HB2, M, E3.out.symm.trans HR.out, E2.out, by simp; omega, fun h => by rw [HX.out O1.out]⟩
              · have H0 := hs
                clear hs
                obtain ⟨L2, HL2, M⟩ := M.tailed
                replace M := M.none_ (R := plainF fldC) (plainF_firm _) 50 2
                generalize hR5 : manyS T 4 mComma (fldS T) (mustS T 4 mLeft (nameS T (adv s')).2) = R5
                have R1 : MorRel (EyAt zb ao n cap) zb T u L2 z (fun v => [.string (nameS T (adv s')).1, v]) 46 50 2 (plainF fldC) 4 mComma (fldS T) R5 (T.length + 2) (.bool true) w :=
                  ⟨true, [], [], _, none, 0, rfl, M, fun _ => ⟨T.length + 1, rfl, hR5, by omega⟩, fun h => (by cases h), rfl, by simp, fun _ => rfl⟩
                have H5 := Lib.hid hR5
                clear M hR5
                go_loopg [10] (T.length + 2) (fun f v wr => MorRel (EyAt zb ao n cap) zb T u L2 z (fun v => [.string (nameS T (adv s')).1, v]) 46 50 2 (plainF fldC) 4 mComma (fldS T) R5 f v wr)
                case atStart => exact R1
                case round =>
                  obtain ⟨m, xs', xs, s5, ra, rc, rfl, M, hT5, hF5, hl5, hm5, hx5⟩ := hrel
                  have HX5 := Lib.hid hx5
                  clear hx5 R1
                  cases m
                  · have HR5 := Lib.hid (H5.out.trans (hF5 rfl))
                    obtain rfl := HL2.out
                    obtain ⟨ao2, cap2, e2, M⟩ := M.done (plainF_firm _) (by omega)
                    injection e2 with e2 e3 e4
                    subst e2 e4
                    clear hT5 hF5 hl5 hm5 H5 HL2
                    go_wp2_with (first | (first | ((with_reducible refine o_list rfl fun K hK => ?_); (first | (first | refine q_all M (by rfl) ?_ | refine q_get M (by exact rfl) ?_ | refine q_part M (by rfl) (by simp only [laid, opdC, List.take_succ_cons, List.take_zero, List.drop_succ_cons, List.drop_zero, List.length_cons, List.length_nil, List.cons_append, List.nil_append, Nat.reduceAdd] <;> rfl) ?_ | refine q_ep M ?_ | refine q_ee M ?_ | refine q_et M ?_ | refine q_eo M (by assumption) (by assumption) (by assumption) ?_) | (first | ((first | refine q_setc M (by rfl) (by rfl) ?_ | refine q_set M (by rfl) (by rfl) ?_ | refine q_put M (by rfl) (by rfl) (by rfl) ?_ | refine q_in M (by rfl) (by rfl) (by rfl) ?_); clear M; intro w M; (try simp only [List.set_cons_zero, List.set_cons_succ, laid, opdC, cndC, patC, optC, lnkC, emiC, fldC, rulC, manC, typC, bokC, List.take_succ_cons, List.take_zero, List.drop_succ_cons, List.drop_zero, List.length_cons, List.length_nil, List.cons_append, List.nil_append, Nat.reduceAdd, Nat.zero_add] at M)) | (refine q_eadv M ?_; clear M; intro w M) | (refine q_eset M ?_; clear M; intro w M)) | (refine q_var M ?_; clear M; intro z w M) | (refine q_row M (by rfl) ?_; clear M; intro q w M)); refine hK _ _ ?_; clear hK K) | ((with_reducible refine o_listg fun K hK => ?_); (first | (first | refine q_all M (by rfl) ?_ | refine q_get M (by exact rfl) ?_ | refine q_part M (by rfl) (by simp only [laid, opdC, List.take_succ_cons, List.take_zero, List.drop_succ_cons, List.drop_zero, List.length_cons, List.length_nil, List.cons_append, List.nil_append, Nat.reduceAdd] <;> rfl) ?_ | refine q_ep M ?_ | refine q_ee M ?_ | refine q_et M ?_ | refine q_eo M (by assumption) (by assumption) (by assumption) ?_)); refine hK _ _ ?_; clear hK K) | (with_reducible refine o_skipT ?_) | (with_reducible refine o_skipF ?_)) | (go_at_call 13; refine (M.want HE.out _ (by decide) _).mono ?_; clear M; rintro e w ⟨rfl, M⟩) | ((with_reducible refine o_list rfl fun K hK => ?_); (refine q_app (R := typF) typF_firm M 3 rfl ⟨(nameS T (adv s')).1, xs'⟩ (by refine ⟨ra, xs'.length, rc, ?_, ?_⟩; exact rfl; exact M.dat_ (i := 1) rfl) (by rfl) (by rfl) (by have := HF.out; have := HL.out; omega) ?_; clear M; intro ra2 rc2 w M; (try simp only [List.set_cons_zero, List.set_cons_succ, laid, opdC, cndC, patC, optC, lnkC, emiC, fldC, rulC, manC, typC, bokC, List.take_succ_cons, List.take_zero, List.drop_succ_cons, List.drop_zero, List.length_cons, List.length_nil, List.cons_append, List.nil_append, Nat.reduceAdd, Nat.zero_add] at M)); refine hK _ _ ?_; clear hK K) | ((with_reducible refine o_list rfl fun K hK => ?_); refine q_bk HBase.out M 0 (by decide) (by rfl) ?_; clear M; intro u2 w hsz HB2 M; (try simp only [List.set_cons_zero, List.set_cons_succ] at M); rw [← hsz] at M; refine hK _ _ ?_; clear hK K))
                    obtain ⟨hf, hl⟩ := HF.out
                    obtain ⟨f', e1, e2, e3⟩ := bookL_type (T := T) (bk := bk) hf (Dec.out (by assumption))
                    rw [typS_end H0.out HR5.out] at e2 e3
                    have E2 := Lib.hid e2
                    have E3 := Lib.hid e3
                    clear e2 e3
                    replace M := M.drop.drop.drop
                    go_roundg f'
                    case measure => omega
                    case rel => exact ⟨u2, { bk' with types := bk'.types ++ [⟨(nameS T (adv s')).1, xs'⟩] }, { bk with types := bk.types ++ [⟨(nameS T (adv s')).1, xs⟩] }, _, _, v2, HB2, M, E3.out.symm.trans HR.out, E2.out, by simp; omega, fun h => by rw [HX.out O1.out, HX5.out (must_ok h)]⟩
                  · obtain ⟨g, rfl, hg1, hg2⟩ := hT5 rfl
                    have HG := Lib.hid (And.intro hg1 hg2)
                    have HM := Lib.hid (And.intro hl5 hm5)
                    clear hT5 hF5 hl5 hm5 hg1 hg2
                    go_wp2_with (first | (first | ((with_reducible refine o_list rfl fun K hK => ?_); (first | (first | refine q_all M (by rfl) ?_ | refine q_get M (by exact rfl) ?_ | refine q_part M (by rfl) (by simp only [laid, opdC, List.take_succ_cons, List.take_zero, List.drop_succ_cons, List.drop_zero, List.length_cons, List.length_nil, List.cons_append, List.nil_append, Nat.reduceAdd] <;> rfl) ?_ | refine q_ep M ?_ | refine q_ee M ?_ | refine q_et M ?_ | refine q_eo M (by assumption) (by assumption) (by assumption) ?_) | (first | ((first | refine q_setc M (by rfl) (by rfl) ?_ | refine q_set M (by rfl) (by rfl) ?_ | refine q_put M (by rfl) (by rfl) (by rfl) ?_ | refine q_in M (by rfl) (by rfl) (by rfl) ?_); clear M; intro w M; (try simp only [List.set_cons_zero, List.set_cons_succ, laid, opdC, cndC, patC, optC, lnkC, emiC, fldC, rulC, manC, typC, bokC, List.take_succ_cons, List.take_zero, List.drop_succ_cons, List.drop_zero, List.length_cons, List.length_nil, List.cons_append, List.nil_append, Nat.reduceAdd, Nat.zero_add] at M)) | (refine q_eadv M ?_; clear M; intro w M) | (refine q_eset M ?_; clear M; intro w M)) | (refine q_var M ?_; clear M; intro z w M) | (refine q_row M (by rfl) ?_; clear M; intro q w M)); refine hK _ _ ?_; clear hK K) | ((with_reducible refine o_listg fun K hK => ?_); (first | (first | refine q_all M (by rfl) ?_ | refine q_get M (by exact rfl) ?_ | refine q_part M (by rfl) (by simp only [laid, opdC, List.take_succ_cons, List.take_zero, List.drop_succ_cons, List.drop_zero, List.length_cons, List.length_nil, List.cons_append, List.nil_append, Nat.reduceAdd] <;> rfl) ?_ | refine q_ep M ?_ | refine q_ee M ?_ | refine q_et M ?_ | refine q_eo M (by assumption) (by assumption) (by assumption) ?_)); refine hK _ _ ?_; clear hK K) | (with_reducible refine o_skipT ?_) | (with_reducible refine o_skipF ?_)) | ((go_at_call 11); refine M.is HE.out _ (by decide) _ ?_ ?_ <;> (clear M; intro w hs M)) | (go_at_call 12; refine (M.ident HE.out).mono ?_; clear M; rintro e w ⟨rfl, M⟩) | (go_at_call 13; refine (M.want HE.out _ (by decide) _).mono ?_; clear M; rintro e w ⟨rfl, M⟩) | ((with_reducible refine o_list rfl fun K hK => ?_); (refine q_app (R := plainF fldC) (plainF_firm _) M 2 rfl (Fld.mk _ _) (by exact rfl) (by rfl) (by rfl) (by have := HM.out; have := HL.out; omega) ?_; clear M; intro ra2 rc2 w M; (try simp only [List.set_cons_zero, List.set_cons_succ, laid, opdC, cndC, patC, optC, lnkC, emiC, fldC, rulC, manC, typC, bokC, List.take_succ_cons, List.take_zero, List.drop_succ_cons, List.drop_zero, List.length_cons, List.length_nil, List.cons_append, List.nil_append, Nat.reduceAdd, Nat.zero_add] at M)); refine hK _ _ ?_; clear hK K))
                    all_goals
                      replace M := M.drop.drop
                      have HG2 := HG.out
                      first | rw [fldS_int (Dec.out (by assumption))] at HG2 | rw [fldS_else (Dec.out (by assumption))] at HG2
                      have HG3 := Lib.hid HG2
                      clear HG HG2
                      obtain ⟨hl, hm⟩ := HM.out
                    · obtain ⟨g', e1, e2, e3⟩ := more_yes (fldS_fine (T := T)) HG3.out.1 HG3.out.2 hs.out
                      go_roundg (g' + 1)
                      case measure => omega
                      case rel => exact ⟨true, xs' ++ [⟨(nameS T s5).1, 1⟩], xs ++ [⟨(nameS T s5).1, 1⟩], _, ra2, rc2, rfl, snoc_mem (cells := fun v => [.string (nameS T (adv s')).1, v]) M, fun _ => ⟨g', rfl, e2, e3⟩, fun h => (by cases h), by simp [hl], by simp; omega, fun h => by rw [HX5.out (name_ok (must_ok h))]⟩
                    · go_roundg g
                      case measure => omega
                      case rel => exact ⟨false, xs' ++ [⟨(nameS T s5).1, 1⟩], xs ++ [⟨(nameS T s5).1, 1⟩], _, ra2, rc2, rfl, snoc_mem (cells := fun v => [.string (nameS T (adv s')).1, v]) M, fun h => (by cases h), fun _ => more_no HG3.out.1 hs.out, by simp [hl], by simp; omega, fun h => by rw [HX5.out (name_ok (must_ok h))]⟩
                    · obtain ⟨g', e1, e2, e3⟩ := more_yes (fldS_fine (T := T)) HG3.out.1 HG3.out.2 hs.out
                      go_roundg (g' + 1)
                      case measure => omega
                      case rel => exact ⟨true, xs' ++ [⟨(nameS T s5).1, 2⟩], xs ++ [⟨(nameS T s5).1, 2⟩], _, ra2, rc2, rfl, snoc_mem (cells := fun v => [.string (nameS T (adv s')).1, v]) M, fun _ => ⟨g', rfl, e2, e3⟩, fun h => (by cases h), by simp [hl], by simp; omega, fun h => by rw [HX5.out (name_ok (must_ok (must_ok h)))]⟩
                    · go_roundg g
                      case measure => omega
                      case rel => exact ⟨false, xs' ++ [⟨(nameS T s5).1, 2⟩], xs ++ [⟨(nameS T s5).1, 2⟩], _, ra2, rc2, rfl, snoc_mem (cells := fun v => [.string (nameS T (adv s')).1, v]) M, fun h => (by cases h), fun _ => more_no HG3.out.1 hs.out, by simp [hl], by simp; omega, fun h => by rw [HX5.out (name_ok (must_ok (must_ok h)))]⟩
              · obtain ⟨hf, hl⟩ := HF.out
                obtain ⟨f', e1, e2, e3⟩ := bookL_rule (T := T) (bk := bk) hf (Dec.out (by assumption)) (Dec.out (by assumption))
                have hg1 : f' < gk := by omega
                have hl1 : bk'.types.length + bk'.rules.length + f' + 1 ≤ T.length + 2 := by omega
                have HB := Lib.hid (And.intro hg1 (And.intro hl1 (And.intro e2 e3)))
                clear hg1 hl1 e1 e2 e3 hf hl
                obtain ⟨L2, HL2, M⟩ := M.tailed
                have M3 := rul_startV M
                generalize hR5 : rulS T (adv s') = R5
                have R1 : RulRelV (EyAt zb ao n cap) zb T u L2 z R5 (T.length + 2) w :=
                  ⟨rul0 _, rul0 _, _, _, _, _, _, _, M3, hR5, left_le _, by simp [rulN, rul0], fun _ => rfl, fun _ _ => rfl⟩
                have H5 := Lib.hid hR5
                rcases (⟨z, rfl⟩ : ∃ zb, zb = z) with ⟨zx, hzx⟩
                subst hzx
                clear M M3 hR5
                go_loopg [112] (T.length + 2) (fun f _ wr => RulRelV (EyAt zb ao n cap) zb T u L2 zx R5 f wr)
                case atStart => exact R1
                case round =>
                  obtain ⟨x', x, s5, w1, w2, w3, w4, w6, M, hR5, hf5, hl5, hx5, hv5⟩ := hrel
                  have HR5 := Lib.hid hR5
                  have HX5 := Lib.hid hx5
                  have HV5 := Lib.hid hv5
                  have HF5 := Lib.hid (And.intro hf5 hl5)
                  clear hR5 hx5 hf5 hl5 R1 hv5
                  by_cases he5 : s5.e = 0
                  · have heb5 : (s5.e == 0) = true := by simpa using he5
                    have HE5 := Lib.hid he5
                    clear he5
                    obtain rfl := HL2.out
                    unfold VulL at M
                    go_wp2_with (first | (first | ((with_reducible refine o_list rfl fun K hK => ?_); (first | (first | refine q_all M (by rfl) ?_ | refine q_get M (by exact rfl) ?_ | refine q_part M (by rfl) (by simp only [laid, opdC, List.take_succ_cons, List.take_zero, List.drop_succ_cons, List.drop_zero, List.length_cons, List.length_nil, List.cons_append, List.nil_append, Nat.reduceAdd] <;> rfl) ?_ | refine q_ep M ?_ | refine q_ee M ?_ | refine q_et M ?_ | refine q_eo M (by assumption) (by assumption) (by assumption) ?_) | (first | ((first | refine q_setc M (by rfl) (by rfl) ?_ | refine q_set M (by rfl) (by rfl) ?_ | refine q_put M (by rfl) (by rfl) (by rfl) ?_ | refine q_in M (by rfl) (by rfl) (by rfl) ?_); clear M; intro w M; (try simp only [List.set_cons_zero, List.set_cons_succ, laid, opdC, cndC, patC, optC, lnkC, emiC, fldC, rulC, manC, typC, bokC, List.take_succ_cons, List.take_zero, List.drop_succ_cons, List.drop_zero, List.length_cons, List.length_nil, List.cons_append, List.nil_append, Nat.reduceAdd, Nat.zero_add] at M)) | (refine q_eadv M ?_; clear M; intro w M) | (refine q_eset M ?_; clear M; intro w M)) | (refine q_var M ?_; clear M; intro z w M) | (refine q_row M (by rfl) ?_; clear M; intro q w M)); refine hK _ _ ?_; clear hK K) | ((with_reducible refine o_listg fun K hK => ?_); (first | (first | refine q_all M (by rfl) ?_ | refine q_get M (by exact rfl) ?_ | refine q_part M (by rfl) (by simp only [laid, opdC, List.take_succ_cons, List.take_zero, List.drop_succ_cons, List.drop_zero, List.length_cons, List.length_nil, List.cons_append, List.nil_append, Nat.reduceAdd] <;> rfl) ?_ | refine q_ep M ?_ | refine q_ee M ?_ | refine q_et M ?_ | refine q_eo M (by assumption) (by assumption) (by assumption) ?_)); refine hK _ _ ?_; clear hK K) | (with_reducible refine o_skipT ?_) | (with_reducible refine o_skipF ?_)) | ((go_at_call 11); refine M.is HE.out _ (by decide) _ ?_ ?_ <;> (clear M; intro w hs M); focus (replace M := rul_doneV (show Mem _ _ _ _ _ (VulL u x' w1 w2 w3 w4 w6 (own zx (rulC x' w1 w2 w3 w4 w6) 58 :: _)) from M); obtain ⟨a1, n1, c1, a2, n2, c2, a3, n3, c3, a4, n4, c4, a6, n6, c6, rfl, rfl, rfl, rfl, rfl⟩ := rul_vs (show rulF _ _ _ _ from M.dat_ (i := 1) rfl))) | ((go_at_call 14); refine (part_any (show Mem _ _ _ _ _ (VulL u x' _ _ _ _ _ _) from M) HE.out (by have := HF5.out; have := HL.out; omega) (HV5.out HE5.out)).mono ?_; clear M; rintro e w ⟨x2, y1, y2, y3, y4, y6, rfl, M, hn2, hx2⟩; have HC2 := Lib.hid hx2; clear hx2; unfold VulL at M; obtain ⟨b1, d1, rfl⟩ := slc_slice (M := M) (i := 0) rfl; obtain ⟨b2, d2, rfl⟩ := slc_slice (M := M) (i := 1) rfl; obtain ⟨b3, d3, rfl⟩ := slc_slice (M := M) (i := 2) rfl; obtain ⟨b4, d4, rfl⟩ := slc_slice (M := M) (i := 3) rfl; obtain ⟨b6, d6, rfl⟩ := slc_slice (M := M) (i := 4) rfl) | ((with_reducible refine o_list rfl fun K hK => ?_); (refine q_app (R := rulF) rulF_firm M 4 rfl x' (by exact M.dat_ (i := 2) rfl) (by rfl) (by rfl) (by have := HF.out; have := HL.out; omega) ?_; clear M; intro ra2 rc2 w M; (try simp only [List.set_cons_zero, List.set_cons_succ, laid, opdC, cndC, patC, optC, lnkC, emiC, fldC, rulC, manC, typC, bokC, List.take_succ_cons, List.take_zero, List.drop_succ_cons, List.drop_zero, List.length_cons, List.length_nil, List.cons_append, List.nil_append, Nat.reduceAdd, Nat.zero_add] at M)); refine hK _ _ ?_; clear hK K) | ((with_reducible refine o_list rfl fun K hK => ?_); refine q_bk HBase.out M 1 (by decide) (by rfl) ?_; clear M; intro u2 w hsz HB2 M; (try simp only [List.set_cons_zero, List.set_cons_succ] at M); rw [← hsz] at M; refine hK _ _ ?_; clear hK K))
                    · have HS5 := Lib.hid (HR5.out.symm.trans (clausesL_shut HF5.out.1 hs.out))
                      obtain ⟨hg1, hl1, e2, e3⟩ := HB.out
                      replace M := M.drop.drop.drop
                      go_roundg f'
                      case measure => exact hg1
                      case rel =>
                        refine ⟨u2, { bk' with rules := bk'.rules ++ [x'] }, { bk with rules := bk.rules ++ [(rulS T (adv s')).1] }, (rulS T (adv s')).2, v1, .slice ra2 (bk'.rules.length + 1) rc2, HB2, ?_, e3.symm.trans HR.out, e2, by simp; omega, fun h => ?_⟩
                        · rw [H5.out, HS5.out]; exact M
                        · rw [H5.out, HS5.out] at h ⊢
                          rw [HX.out O1.out, HX5.out h]
                    · obtain rfl : x' = x := HX5.out HE5.out
                      obtain ⟨hf5, hl5⟩ := HF5.out
                      obtain ⟨f5, e1, e2, e3⟩ := clausesL_more (x := x') hf5 HE5.out hs.out
                      have E2 := Lib.hid e2
                      have E3 := Lib.hid e3
                      clear e2 e3
                      go_roundg f5
                      case measure => omega
                      case rel => exact ⟨x2, (clauseS T x' s5).1, (clauseS T x' s5).2, _, _, _, _, _, M, E3.out.symm.trans HR5.out, E2.out, by omega, HC2.out, fun h => by rw [HC2.out h]; exact cla_inv HN.out (HV5.out HE5.out) h⟩
                  · have HS5 := Lib.hid (HR5.out.symm.trans (clausesL_bad (T := T) (f := gk) (x := x) he5))
                    have heb5 : (s5.e == 0) = false := by simpa using he5
                    have HE5 := Lib.hid he5
                    clear he5
                    replace M := rul_doneV M
                    obtain rfl := HL2.out
                    obtain ⟨a1, n1, c1, a2, n2, c2, a3, n3, c3, a4, n4, c4, a6, n6, c6, rfl, rfl, rfl, rfl, rfl⟩ := rul_vs (show rulF _ _ _ _ from M.dat_ (i := 1) rfl)
                    go_wp2_with (first | (first | ((with_reducible refine o_list rfl fun K hK => ?_); (first | (first | refine q_all M (by rfl) ?_ | refine q_get M (by exact rfl) ?_ | refine q_part M (by rfl) (by simp only [laid, opdC, List.take_succ_cons, List.take_zero, List.drop_succ_cons, List.drop_zero, List.length_cons, List.length_nil, List.cons_append, List.nil_append, Nat.reduceAdd] <;> rfl) ?_ | refine q_ep M ?_ | refine q_ee M ?_ | refine q_et M ?_ | refine q_eo M (by assumption) (by assumption) (by assumption) ?_) | (first | ((first | refine q_setc M (by rfl) (by rfl) ?_ | refine q_set M (by rfl) (by rfl) ?_ | refine q_put M (by rfl) (by rfl) (by rfl) ?_ | refine q_in M (by rfl) (by rfl) (by rfl) ?_); clear M; intro w M; (try simp only [List.set_cons_zero, List.set_cons_succ, laid, opdC, cndC, patC, optC, lnkC, emiC, fldC, rulC, manC, typC, bokC, List.take_succ_cons, List.take_zero, List.drop_succ_cons, List.drop_zero, List.length_cons, List.length_nil, List.cons_append, List.nil_append, Nat.reduceAdd, Nat.zero_add] at M)) | (refine q_eadv M ?_; clear M; intro w M) | (refine q_eset M ?_; clear M; intro w M)) | (refine q_var M ?_; clear M; intro z w M) | (refine q_row M (by rfl) ?_; clear M; intro q w M)); refine hK _ _ ?_; clear hK K) | ((with_reducible refine o_listg fun K hK => ?_); (first | (first | refine q_all M (by rfl) ?_ | refine q_get M (by exact rfl) ?_ | refine q_part M (by rfl) (by simp only [laid, opdC, List.take_succ_cons, List.take_zero, List.drop_succ_cons, List.drop_zero, List.length_cons, List.length_nil, List.cons_append, List.nil_append, Nat.reduceAdd] <;> rfl) ?_ | refine q_ep M ?_ | refine q_ee M ?_ | refine q_et M ?_ | refine q_eo M (by assumption) (by assumption) (by assumption) ?_)); refine hK _ _ ?_; clear hK K) | (with_reducible refine o_skipT ?_) | (with_reducible refine o_skipF ?_)) | ((with_reducible refine o_list rfl fun K hK => ?_); (refine q_app (R := rulF) rulF_firm M 4 rfl x' (by exact M.dat_ (i := 2) rfl) (by rfl) (by rfl) (by have := HF.out; have := HL.out; omega) ?_; clear M; intro ra2 rc2 w M; (try simp only [List.set_cons_zero, List.set_cons_succ, laid, opdC, cndC, patC, optC, lnkC, emiC, fldC, rulC, manC, typC, bokC, List.take_succ_cons, List.take_zero, List.drop_succ_cons, List.drop_zero, List.length_cons, List.length_nil, List.cons_append, List.nil_append, Nat.reduceAdd, Nat.zero_add] at M)); refine hK _ _ ?_; clear hK K) | ((with_reducible refine o_list rfl fun K hK => ?_); refine q_bk HBase.out M 1 (by decide) (by rfl) ?_; clear M; intro u2 w hsz HB2 M; (try simp only [List.set_cons_zero, List.set_cons_succ] at M); rw [← hsz] at M; refine hK _ _ ?_; clear hK K))
                    obtain ⟨hg1, hl1, e2, e3⟩ := HB.out
                    replace M := M.drop.drop.drop
                    go_roundg f'
                    case measure => exact hg1
                    case rel =>
                      refine ⟨u2, { bk' with rules := bk'.rules ++ [x'] }, { bk with rules := bk.rules ++ [(rulS T (adv s')).1] }, (rulS T (adv s')).2, v1, .slice ra2 (bk'.rules.length + 1) rc2, HB2, ?_, e3.symm.trans HR.out, e2, by simp; omega, fun h => ?_⟩
                      · rw [H5.out, HS5.out]; exact M
                      · rw [H5.out, HS5.out] at h ⊢
                        rw [HX.out O1.out, HX5.out h]
              · obtain ⟨hf, hl⟩ := HF.out
                obtain ⟨f', e1, e2, e3⟩ := bookL_miss (T := T) (bk := bk) hf O1.out HP0.out (Dec.out (by assumption)) (Dec.out (by assumption))
                have E2 := Lib.hid e2
                have E3 := Lib.hid e3
                clear e2 e3
                go_roundg f'
                case measure => omega
                case rel => exact ⟨u, bk', bk, missS T s', v1, v2, HBase.out, M, E3.out.symm.trans HR.out, E2.out, by omega, fun h => HX.out O1.out⟩
            · have heb : (s'.e == 0) = true := by simpa using he
              have hnb : (s'.e != 0) = false := by simpa using he
              have hpd : decide (s'.pos < n) = false := by have := HL.out; simp; omega
              have hpd2 : decide ((s'.pos : Int) < n) = false := by have := HL.out; simp; omega
              have HE2 := Lib.hid (HRR.out.trans (HR.out.symm.trans (bookL_stop (T := T) (f := gk) (bk := bk) (s := s') (fun h => hp h.2))))
              have HP := Lib.hid (parE_good H7.out HA2.out (by rw [HE2.out]; exact he))
              have HX2 := Lib.hid (HX.out he)
              obtain ⟨a1, c1, a2, c2, rfl, rfl, M⟩ := base_end hB M
              clear hp he hB HR HF HX
              go_wp2_with (first | ((try show bodyPost _ _ _ _ _ _); (refine q_ret3 M Tryd.results5 (by rfl) ⟨_, Tryd.underlying26, rfl⟩ ?_)) | (first | ((with_reducible refine o_list rfl fun K hK => ?_); (first | (first | refine q_all M (by rfl) ?_ | refine q_get M (by exact rfl) ?_ | refine q_part M (by rfl) (by simp only [laid, opdC, List.take_succ_cons, List.take_zero, List.drop_succ_cons, List.drop_zero, List.length_cons, List.length_nil, List.cons_append, List.nil_append, Nat.reduceAdd] <;> rfl) ?_ | refine q_ep M ?_ | refine q_ee M ?_ | refine q_et M ?_ | refine q_eo M (by assumption) (by assumption) (by assumption) ?_) | (first | ((first | refine q_setc M (by rfl) (by rfl) ?_ | refine q_set M (by rfl) (by rfl) ?_ | refine q_put M (by rfl) (by rfl) (by rfl) ?_ | refine q_in M (by rfl) (by rfl) (by rfl) ?_); clear M; intro w M; (try simp only [List.set_cons_zero, List.set_cons_succ, laid, opdC, cndC, patC, optC, lnkC, emiC, fldC, rulC, manC, typC, bokC, List.take_succ_cons, List.take_zero, List.drop_succ_cons, List.drop_zero, List.length_cons, List.length_nil, List.cons_append, List.nil_append, Nat.reduceAdd, Nat.zero_add] at M)) | (refine q_eadv M ?_; clear M; intro w M) | (refine q_eset M ?_; clear M; intro w M)) | (refine q_var M ?_; clear M; intro z w M) | (refine q_row M (by rfl) ?_; clear M; intro q w M)); refine hK _ _ ?_; clear hK K) | ((with_reducible refine o_listg fun K hK => ?_); (first | (first | refine q_all M (by rfl) ?_ | refine q_get M (by exact rfl) ?_ | refine q_part M (by rfl) (by simp only [laid, opdC, List.take_succ_cons, List.take_zero, List.drop_succ_cons, List.drop_zero, List.length_cons, List.length_nil, List.cons_append, List.nil_append, Nat.reduceAdd] <;> rfl) ?_ | refine q_ep M ?_ | refine q_ee M ?_ | refine q_et M ?_ | refine q_eo M (by assumption) (by assumption) (by assumption) ?_)); refine hK _ _ ?_; clear hK K) | (with_reducible refine o_skipT ?_) | (with_reducible refine o_skipF ?_)))
              rw [parB_good HP.out, HP.out, HE2.out]
              obtain ⟨d1, d2⟩ := (M.dat_ (i := 0) rfl : _ ∧ _)
              rw [HX2.out] at d1 d2 ⊢
              exact ⟨a1, _, c1, a2, _, c2, rfl, M.new, d1.wide typF_firm (fun k hk _ => hk.1), d2.wide rulF_firm (fun k hk _ => hk.1)⟩
          · have heb : (s'.e == 0) = false := by simpa using he
            have hnb : (s'.e != 0) = true := by simpa using he
            have HE2 := Lib.hid (HRR.out.trans (HR.out.symm.trans (bookL_stop (T := T) (f := gk) (bk := bk) (s := s') (fun h => he h.1))))
            have HP := parE_wrong H7.out HA2.out (by rw [HE2.out]; exact he)
            rw [HE2.out] at HP
            replace HP := Lib.hid HP
            have HQ := Lib.hid he
            obtain ⟨a1, c1, a2, c2, rfl, rfl, M⟩ := base_end hB M
            clear he hB HR HF HX
            go_wp2_with (first | (first | ((with_reducible refine o_list rfl fun K hK => ?_); (first | (first | refine q_all M (by rfl) ?_ | refine q_get M (by exact rfl) ?_ | refine q_part M (by rfl) (by simp only [laid, opdC, List.take_succ_cons, List.take_zero, List.drop_succ_cons, List.drop_zero, List.length_cons, List.length_nil, List.cons_append, List.nil_append, Nat.reduceAdd] <;> rfl) ?_ | refine q_ep M ?_ | refine q_ee M ?_ | refine q_et M ?_ | refine q_eo M (by assumption) (by assumption) (by assumption) ?_) | (first | ((first | refine q_setc M (by rfl) (by rfl) ?_ | refine q_set M (by rfl) (by rfl) ?_ | refine q_put M (by rfl) (by rfl) (by rfl) ?_ | refine q_in M (by rfl) (by rfl) (by rfl) ?_); clear M; intro w M; (try simp only [List.set_cons_zero, List.set_cons_succ, laid, opdC, cndC, patC, optC, lnkC, emiC, fldC, rulC, manC, typC, bokC, List.take_succ_cons, List.take_zero, List.drop_succ_cons, List.drop_zero, List.length_cons, List.length_nil, List.cons_append, List.nil_append, Nat.reduceAdd, Nat.zero_add] at M)) | (refine q_eadv M ?_; clear M; intro w M) | (refine q_eset M ?_; clear M; intro w M)) | (refine q_var M ?_; clear M; intro z w M) | (refine q_row M (by rfl) ?_; clear M; intro q w M)); refine hK _ _ ?_; clear hK K) | ((with_reducible refine o_listg fun K hK => ?_); (first | (first | refine q_all M (by rfl) ?_ | refine q_get M (by exact rfl) ?_ | refine q_part M (by rfl) (by simp only [laid, opdC, List.take_succ_cons, List.take_zero, List.drop_succ_cons, List.drop_zero, List.length_cons, List.length_nil, List.cons_append, List.nil_append, Nat.reduceAdd] <;> rfl) ?_ | refine q_ep M ?_ | refine q_ee M ?_ | refine q_et M ?_ | refine q_eo M (by assumption) (by assumption) (by assumption) ?_)); refine hK _ _ ?_; clear hK K) | (with_reducible refine o_skipT ?_) | (with_reducible refine o_skipF ?_)))
            (refine wp_region_any (by kernel_rfl) ?_; (try (change wpAny _ _ _ _ _ _ _ (World.drew _))); replace M := M.drew; generalize World.drew _ = w at M ⊢; (refine wpAny_take (i := 0) (v := ?_) (get_l rfl) (by kernel_rfl) (by kernel_rfl) (by kernel_rfl) (fun _ _ _ h => h) (Or.inl ⟨(by first | exact wanted_none rfl | rfl), ?_⟩) ?_; (rotate_left 1); focus (intro w; go_simp; try with_reducible rfl)); (try go_simp); (refine wpAny_take (i := 1) (v := ?_) (get_l rfl) (by kernel_rfl) (by kernel_rfl) (by kernel_rfl) (fun _ _ _ h => h) (Or.inl ⟨(by first | exact wanted_none rfl | rfl), ?_⟩) ?_; (rotate_left 1); focus (intro w; go_simp; try with_reducible rfl)); (try go_simp); (refine wpAny_take (i := 2) (v := ?_) (get_l rfl) (by kernel_rfl) (by kernel_rfl) (by kernel_rfl) (fun _ _ _ h => h) (Or.inl ⟨(by first | exact wanted_none rfl | rfl), ?_⟩) ?_; (rotate_left 1); focus (intro w; go_simp; try with_reducible rfl)); (try go_simp); (refine wpAny_take (i := 3) (v := ?_) (get_l rfl) (by kernel_rfl) (by kernel_rfl) (by kernel_rfl) (fun _ _ _ h => h) (Or.inl ⟨(by first | exact wanted_none rfl | rfl), ?_⟩) ?_; (rotate_left 1); focus (intro w; go_simp; try with_reducible rfl)); (try go_simp); (refine wpAny_take (i := 5) (v := ?_) (get_l rfl) (by kernel_rfl) (by kernel_rfl) (by kernel_rfl) (fun _ _ _ h => h) (Or.inl ⟨(by first | exact wanted_none rfl | rfl), ?_⟩) ?_; (rotate_left 1); focus (intro w; go_simp; try with_reducible rfl)); (try go_simp); (refine wpAny_take (i := 6) (v := ?_) (get_l rfl) (by kernel_rfl) (by kernel_rfl) (by kernel_rfl) (fun _ _ _ h => h) (Or.inl ⟨(by first | exact wanted_none rfl | rfl), ?_⟩) ?_; (rotate_left 1); focus (intro w; go_simp; try with_reducible rfl)); (try go_simp); (refine wpAny_take (i := 7) (v := ?_) (get_l rfl) (by kernel_rfl) (by kernel_rfl) (by kernel_rfl) (fun _ _ _ h => h) (Or.inl ⟨(by first | exact wanted_none rfl | rfl), ?_⟩) ?_; (rotate_left 1); focus (intro w; go_simp; try with_reducible rfl)); (try go_simp); (refine wpAny_ready (rs := [4, 8, 9]) (by kernel_rfl) (by simp) ?_; refine (ready_cons (get_l rfl) rfl (fun K hK => ?_) (ready_cons (get_l rfl) rfl (fun K hK => ?_) (ready_cons (get_l rfl) rfl (fun K hK => ?_) AllReady.nil)))); (all_goals (first | (refine o_dst (some 130) ?_; (first | refine q_all M (by rfl) ?_ | refine q_get M (by exact rfl) ?_ | refine q_part M (by rfl) (by simp only [laid, opdC, List.take_succ_cons, List.take_zero, List.drop_succ_cons, List.drop_zero, List.length_cons, List.length_nil, List.cons_append, List.nil_append, Nat.reduceAdd] <;> rfl) ?_ | refine q_ep M ?_ | refine q_ee M ?_ | refine q_et M ?_ | refine q_eo M (by assumption) (by assumption) (by assumption) ?_); (all_goals ((refine hK _ _ ?_); clear hK K)); (all_goals ((refine wpAny_ready (rs := [8, 9]) (by kernel_rfl) (by simp) ?_; refine (ready_cons (get_l rfl) rfl (fun K hK => ?_) (ready_cons (get_l rfl) rfl (fun K hK => ?_) AllReady.nil))); (all_goals (first | (refine o_dst (some 134) ?_; (first | refine q_all M (by rfl) ?_ | refine q_get M (by exact rfl) ?_ | refine q_part M (by rfl) (by simp only [laid, opdC, List.take_succ_cons, List.take_zero, List.drop_succ_cons, List.drop_zero, List.length_cons, List.length_nil, List.cons_append, List.nil_append, Nat.reduceAdd] <;> rfl) ?_ | refine q_ep M ?_ | refine q_ee M ?_ | refine q_et M ?_ | refine q_eo M (by assumption) (by assumption) (by assumption) ?_); (all_goals ((refine hK _ _ ?_); clear hK K)); (all_goals ((refine wpAny_ready (rs := [9]) (by kernel_rfl) (by simp) ?_; refine (ready_cons (get_l rfl) rfl (fun K hK => ?_) AllReady.nil)); (all_goals ((refine o_dst none ?_; (first | ((first | refine q_setc M (by rfl) (by rfl) ?_ | refine q_set M (by rfl) (by rfl) ?_ | refine q_put M (by rfl) (by rfl) (by rfl) ?_ | refine q_in M (by rfl) (by rfl) (by rfl) ?_); clear M; intro w M; (try simp only [List.set_cons_zero, List.set_cons_succ, laid, opdC, cndC, patC, optC, lnkC, emiC, fldC, rulC, manC, typC, bokC, List.take_succ_cons, List.take_zero, List.drop_succ_cons, List.drop_zero, List.length_cons, List.length_nil, List.cons_append, List.nil_append, Nat.reduceAdd, Nat.zero_add] at M)) | (refine q_eadv M ?_; clear M; intro w M) | (refine q_eset M ?_; clear M; intro w M)); (all_goals ((refine hK _ _ ?_); clear hK K)); (all_goals ((refine wpAny_take (i := 10) (v := ?_) (get_l rfl) (by kernel_rfl) (by kernel_rfl) (by kernel_rfl) (fun _ _ _ h => h) (Or.inl ⟨(by first | exact wanted_none rfl | rfl), ?_⟩) ?_; (rotate_left 1); focus (intro w; go_simp; try with_reducible rfl)); (try go_simp); (refine wpAny_take (i := 11) (v := ?_) (get_l rfl) (by kernel_rfl) (by kernel_rfl) (by kernel_rfl) (fun _ _ _ h => h) (Or.inl ⟨(by first | exact wanted_none rfl | rfl), ?_⟩) ?_; (rotate_left 1); focus (intro w; go_simp; try with_reducible rfl)); (try go_simp); (refine wpAny_done (by kernel_rfl) ?_ _))))))))) | (refine o_dst none ?_; (first | ((first | refine q_setc M (by rfl) (by rfl) ?_ | refine q_set M (by rfl) (by rfl) ?_ | refine q_put M (by rfl) (by rfl) (by rfl) ?_ | refine q_in M (by rfl) (by rfl) (by rfl) ?_); clear M; intro w M; (try simp only [List.set_cons_zero, List.set_cons_succ, laid, opdC, cndC, patC, optC, lnkC, emiC, fldC, rulC, manC, typC, bokC, List.take_succ_cons, List.take_zero, List.drop_succ_cons, List.drop_zero, List.length_cons, List.length_nil, List.cons_append, List.nil_append, Nat.reduceAdd, Nat.zero_add] at M)) | (refine q_eadv M ?_; clear M; intro w M) | (refine q_eset M ?_; clear M; intro w M)); (all_goals ((refine hK _ _ ?_); clear hK K)); (all_goals ((refine wpAny_take (i := 10) (v := ?_) (get_l rfl) (by kernel_rfl) (by kernel_rfl) (by kernel_rfl) (fun _ _ _ h => h) (Or.inl ⟨(by first | exact wanted_none rfl | rfl), ?_⟩) ?_; (rotate_left 1); focus (intro w; go_simp; try with_reducible rfl)); (try go_simp); (refine wpAny_ready (rs := [8]) (by kernel_rfl) (by simp) ?_; refine (ready_cons (get_l rfl) rfl (fun K hK => ?_) AllReady.nil)); (all_goals ((refine o_dst (some 134) ?_; (first | refine q_all M (by rfl) ?_ | refine q_get M (by exact rfl) ?_ | refine q_part M (by rfl) (by simp only [laid, opdC, List.take_succ_cons, List.take_zero, List.drop_succ_cons, List.drop_zero, List.length_cons, List.length_nil, List.cons_append, List.nil_append, Nat.reduceAdd] <;> rfl) ?_ | refine q_ep M ?_ | refine q_ee M ?_ | refine q_et M ?_ | refine q_eo M (by assumption) (by assumption) (by assumption) ?_); (all_goals ((refine hK _ _ ?_); clear hK K)); (all_goals ((refine wpAny_take (i := 11) (v := ?_) (get_l rfl) (by kernel_rfl) (by kernel_rfl) (by kernel_rfl) (fun _ _ _ h => h) (Or.inl ⟨(by first | exact wanted_none rfl | rfl), ?_⟩) ?_; (rotate_left 1); focus (intro w; go_simp; try with_reducible rfl)); (try go_simp); (refine wpAny_done (by kernel_rfl) ?_ _)))))))))))))) | (refine o_dst (some 134) ?_; (first | refine q_all M (by rfl) ?_ | refine q_get M (by exact rfl) ?_ | refine q_part M (by rfl) (by simp only [laid, opdC, List.take_succ_cons, List.take_zero, List.drop_succ_cons, List.drop_zero, List.length_cons, List.length_nil, List.cons_append, List.nil_append, Nat.reduceAdd] <;> rfl) ?_ | refine q_ep M ?_ | refine q_ee M ?_ | refine q_et M ?_ | refine q_eo M (by assumption) (by assumption) (by assumption) ?_); (all_goals ((refine hK _ _ ?_); clear hK K)); (all_goals ((refine wpAny_ready (rs := [4, 9]) (by kernel_rfl) (by simp) ?_; refine (ready_cons (get_l rfl) rfl (fun K hK => ?_) (ready_cons (get_l rfl) rfl (fun K hK => ?_) AllReady.nil))); (all_goals (first | (refine o_dst (some 130) ?_; (first | refine q_all M (by rfl) ?_ | refine q_get M (by exact rfl) ?_ | refine q_part M (by rfl) (by simp only [laid, opdC, List.take_succ_cons, List.take_zero, List.drop_succ_cons, List.drop_zero, List.length_cons, List.length_nil, List.cons_append, List.nil_append, Nat.reduceAdd] <;> rfl) ?_ | refine q_ep M ?_ | refine q_ee M ?_ | refine q_et M ?_ | refine q_eo M (by assumption) (by assumption) (by assumption) ?_); (all_goals ((refine hK _ _ ?_); clear hK K)); (all_goals ((refine wpAny_ready (rs := [9]) (by kernel_rfl) (by simp) ?_; refine (ready_cons (get_l rfl) rfl (fun K hK => ?_) AllReady.nil)); (all_goals ((refine o_dst none ?_; (first | ((first | refine q_setc M (by rfl) (by rfl) ?_ | refine q_set M (by rfl) (by rfl) ?_ | refine q_put M (by rfl) (by rfl) (by rfl) ?_ | refine q_in M (by rfl) (by rfl) (by rfl) ?_); clear M; intro w M; (try simp only [List.set_cons_zero, List.set_cons_succ, laid, opdC, cndC, patC, optC, lnkC, emiC, fldC, rulC, manC, typC, bokC, List.take_succ_cons, List.take_zero, List.drop_succ_cons, List.drop_zero, List.length_cons, List.length_nil, List.cons_append, List.nil_append, Nat.reduceAdd, Nat.zero_add] at M)) | (refine q_eadv M ?_; clear M; intro w M) | (refine q_eset M ?_; clear M; intro w M)); (all_goals ((refine hK _ _ ?_); clear hK K)); (all_goals ((refine wpAny_take (i := 10) (v := ?_) (get_l rfl) (by kernel_rfl) (by kernel_rfl) (by kernel_rfl) (fun _ _ _ h => h) (Or.inl ⟨(by first | exact wanted_none rfl | rfl), ?_⟩) ?_; (rotate_left 1); focus (intro w; go_simp; try with_reducible rfl)); (try go_simp); (refine wpAny_take (i := 11) (v := ?_) (get_l rfl) (by kernel_rfl) (by kernel_rfl) (by kernel_rfl) (fun _ _ _ h => h) (Or.inl ⟨(by first | exact wanted_none rfl | rfl), ?_⟩) ?_; (rotate_left 1); focus (intro w; go_simp; try with_reducible rfl)); (try go_simp); (refine wpAny_done (by kernel_rfl) ?_ _))))))))) | (refine o_dst none ?_; (first | ((first | refine q_setc M (by rfl) (by rfl) ?_ | refine q_set M (by rfl) (by rfl) ?_ | refine q_put M (by rfl) (by rfl) (by rfl) ?_ | refine q_in M (by rfl) (by rfl) (by rfl) ?_); clear M; intro w M; (try simp only [List.set_cons_zero, List.set_cons_succ, laid, opdC, cndC, patC, optC, lnkC, emiC, fldC, rulC, manC, typC, bokC, List.take_succ_cons, List.take_zero, List.drop_succ_cons, List.drop_zero, List.length_cons, List.length_nil, List.cons_append, List.nil_append, Nat.reduceAdd, Nat.zero_add] at M)) | (refine q_eadv M ?_; clear M; intro w M) | (refine q_eset M ?_; clear M; intro w M)); (all_goals ((refine hK _ _ ?_); clear hK K)); (all_goals ((refine wpAny_ready (rs := [4]) (by kernel_rfl) (by simp) ?_; refine (ready_cons (get_l rfl) rfl (fun K hK => ?_) AllReady.nil)); (all_goals ((refine o_dst (some 130) ?_; (first | refine q_all M (by rfl) ?_ | refine q_get M (by exact rfl) ?_ | refine q_part M (by rfl) (by simp only [laid, opdC, List.take_succ_cons, List.take_zero, List.drop_succ_cons, List.drop_zero, List.length_cons, List.length_nil, List.cons_append, List.nil_append, Nat.reduceAdd] <;> rfl) ?_ | refine q_ep M ?_ | refine q_ee M ?_ | refine q_et M ?_ | refine q_eo M (by assumption) (by assumption) (by assumption) ?_); (all_goals ((refine hK _ _ ?_); clear hK K)); (all_goals ((refine wpAny_take (i := 10) (v := ?_) (get_l rfl) (by kernel_rfl) (by kernel_rfl) (by kernel_rfl) (fun _ _ _ h => h) (Or.inl ⟨(by first | exact wanted_none rfl | rfl), ?_⟩) ?_; (rotate_left 1); focus (intro w; go_simp; try with_reducible rfl)); (try go_simp); (refine wpAny_take (i := 11) (v := ?_) (get_l rfl) (by kernel_rfl) (by kernel_rfl) (by kernel_rfl) (fun _ _ _ h => h) (Or.inl ⟨(by first | exact wanted_none rfl | rfl), ?_⟩) ?_; (rotate_left 1); focus (intro w; go_simp; try with_reducible rfl)); (try go_simp); (refine wpAny_done (by kernel_rfl) ?_ _)))))))))))))) | (refine o_dst none ?_; (first | ((first | refine q_setc M (by rfl) (by rfl) ?_ | refine q_set M (by rfl) (by rfl) ?_ | refine q_put M (by rfl) (by rfl) (by rfl) ?_ | refine q_in M (by rfl) (by rfl) (by rfl) ?_); clear M; intro w M; (try simp only [List.set_cons_zero, List.set_cons_succ, laid, opdC, cndC, patC, optC, lnkC, emiC, fldC, rulC, manC, typC, bokC, List.take_succ_cons, List.take_zero, List.drop_succ_cons, List.drop_zero, List.length_cons, List.length_nil, List.cons_append, List.nil_append, Nat.reduceAdd, Nat.zero_add] at M)) | (refine q_eadv M ?_; clear M; intro w M) | (refine q_eset M ?_; clear M; intro w M)); (all_goals ((refine hK _ _ ?_); clear hK K)); (all_goals ((refine wpAny_ready (rs := [4, 8]) (by kernel_rfl) (by simp) ?_; refine (ready_cons (get_l rfl) rfl (fun K hK => ?_) (ready_cons (get_l rfl) rfl (fun K hK => ?_) AllReady.nil))); (all_goals (first | (refine o_dst (some 130) ?_; (first | refine q_all M (by rfl) ?_ | refine q_get M (by exact rfl) ?_ | refine q_part M (by rfl) (by simp only [laid, opdC, List.take_succ_cons, List.take_zero, List.drop_succ_cons, List.drop_zero, List.length_cons, List.length_nil, List.cons_append, List.nil_append, Nat.reduceAdd] <;> rfl) ?_ | refine q_ep M ?_ | refine q_ee M ?_ | refine q_et M ?_ | refine q_eo M (by assumption) (by assumption) (by assumption) ?_); (all_goals ((refine hK _ _ ?_); clear hK K)); (all_goals ((refine wpAny_take (i := 10) (v := ?_) (get_l rfl) (by kernel_rfl) (by kernel_rfl) (by kernel_rfl) (fun _ _ _ h => h) (Or.inl ⟨(by first | exact wanted_none rfl | rfl), ?_⟩) ?_; (rotate_left 1); focus (intro w; go_simp; try with_reducible rfl)); (try go_simp); (refine wpAny_ready (rs := [8]) (by kernel_rfl) (by simp) ?_; refine (ready_cons (get_l rfl) rfl (fun K hK => ?_) AllReady.nil)); (all_goals ((refine o_dst (some 134) ?_; (first | refine q_all M (by rfl) ?_ | refine q_get M (by exact rfl) ?_ | refine q_part M (by rfl) (by simp only [laid, opdC, List.take_succ_cons, List.take_zero, List.drop_succ_cons, List.drop_zero, List.length_cons, List.length_nil, List.cons_append, List.nil_append, Nat.reduceAdd] <;> rfl) ?_ | refine q_ep M ?_ | refine q_ee M ?_ | refine q_et M ?_ | refine q_eo M (by assumption) (by assumption) (by assumption) ?_); (all_goals ((refine hK _ _ ?_); clear hK K)); (all_goals ((refine wpAny_take (i := 11) (v := ?_) (get_l rfl) (by kernel_rfl) (by kernel_rfl) (by kernel_rfl) (fun _ _ _ h => h) (Or.inl ⟨(by first | exact wanted_none rfl | rfl), ?_⟩) ?_; (rotate_left 1); focus (intro w; go_simp; try with_reducible rfl)); (try go_simp); (refine wpAny_done (by kernel_rfl) ?_ _))))))))) | (refine o_dst (some 134) ?_; (first | refine q_all M (by rfl) ?_ | refine q_get M (by exact rfl) ?_ | refine q_part M (by rfl) (by simp only [laid, opdC, List.take_succ_cons, List.take_zero, List.drop_succ_cons, List.drop_zero, List.length_cons, List.length_nil, List.cons_append, List.nil_append, Nat.reduceAdd] <;> rfl) ?_ | refine q_ep M ?_ | refine q_ee M ?_ | refine q_et M ?_ | refine q_eo M (by assumption) (by assumption) (by assumption) ?_); (all_goals ((refine hK _ _ ?_); clear hK K)); (all_goals ((refine wpAny_ready (rs := [4]) (by kernel_rfl) (by simp) ?_; refine (ready_cons (get_l rfl) rfl (fun K hK => ?_) AllReady.nil)); (all_goals ((refine o_dst (some 130) ?_; (first | refine q_all M (by rfl) ?_ | refine q_get M (by exact rfl) ?_ | refine q_part M (by rfl) (by simp only [laid, opdC, List.take_succ_cons, List.take_zero, List.drop_succ_cons, List.drop_zero, List.length_cons, List.length_nil, List.cons_append, List.nil_append, Nat.reduceAdd] <;> rfl) ?_ | refine q_ep M ?_ | refine q_ee M ?_ | refine q_et M ?_ | refine q_eo M (by assumption) (by assumption) (by assumption) ?_); (all_goals ((refine hK _ _ ?_); clear hK K)); (all_goals ((refine wpAny_take (i := 10) (v := ?_) (get_l rfl) (by kernel_rfl) (by kernel_rfl) (by kernel_rfl) (fun _ _ _ h => h) (Or.inl ⟨(by first | exact wanted_none rfl | rfl), ?_⟩) ?_; (rotate_left 1); focus (intro w; go_simp; try with_reducible rfl)); (try go_simp); (refine wpAny_take (i := 11) (v := ?_) (get_l rfl) (by kernel_rfl) (by kernel_rfl) (by kernel_rfl) (fun _ _ _ h => h) (Or.inl ⟨(by first | exact wanted_none rfl | rfl), ?_⟩) ?_; (rotate_left 1); focus (intro w; go_simp; try with_reducible rfl)); (try go_simp); (refine wpAny_done (by kernel_rfl) ?_ _)))))))))))))))))
            all_goals go_wp2_with (first | ((try show bodyPost _ _ _ _ _ _); (refine q_ret3 M Tryd.results5 (by rfl) ⟨_, Tryd.underlying26, rfl⟩ ?_)) | (first | ((with_reducible refine o_list rfl fun K hK => ?_); (first | (first | refine q_all M (by rfl) ?_ | refine q_get M (by exact rfl) ?_ | refine q_part M (by rfl) (by simp only [laid, opdC, List.take_succ_cons, List.take_zero, List.drop_succ_cons, List.drop_zero, List.length_cons, List.length_nil, List.cons_append, List.nil_append, Nat.reduceAdd] <;> rfl) ?_ | refine q_ep M ?_ | refine q_ee M ?_ | refine q_et M ?_ | refine q_eo M (by assumption) (by assumption) (by assumption) ?_) | (first | ((first | refine q_setc M (by rfl) (by rfl) ?_ | refine q_set M (by rfl) (by rfl) ?_ | refine q_put M (by rfl) (by rfl) (by rfl) ?_ | refine q_in M (by rfl) (by rfl) (by rfl) ?_); clear M; intro w M; (try simp only [List.set_cons_zero, List.set_cons_succ, laid, opdC, cndC, patC, optC, lnkC, emiC, fldC, rulC, manC, typC, bokC, List.take_succ_cons, List.take_zero, List.drop_succ_cons, List.drop_zero, List.length_cons, List.length_nil, List.cons_append, List.nil_append, Nat.reduceAdd, Nat.zero_add] at M)) | (refine q_eadv M ?_; clear M; intro w M) | (refine q_eset M ?_; clear M; intro w M)) | (refine q_var M ?_; clear M; intro z w M) | (refine q_row M (by rfl) ?_; clear M; intro q w M)); refine hK _ _ ?_; clear hK K) | ((with_reducible refine o_listg fun K hK => ?_); (first | (first | refine q_all M (by rfl) ?_ | refine q_get M (by exact rfl) ?_ | refine q_part M (by rfl) (by simp only [laid, opdC, List.take_succ_cons, List.take_zero, List.drop_succ_cons, List.drop_zero, List.length_cons, List.length_nil, List.cons_append, List.nil_append, Nat.reduceAdd] <;> rfl) ?_ | refine q_ep M ?_ | refine q_ee M ?_ | refine q_et M ?_ | refine q_eo M (by assumption) (by assumption) (by assumption) ?_)); refine hK _ _ ?_; clear hK K) | (with_reducible refine o_skipT ?_) | (with_reducible refine o_skipF ?_)))
            all_goals exact par_bad HP.out HQ.out M.new
end Go.Proofs.YtobnaokknkmlcaaDoor
