/-
  The walk of package parse's reader, seventh part: comparisons, conditions, over a function's own memory. What was read where something was wrong is nobody's; it only has its form.
-/
import Derived.Test.YtobnaokknkmlcaaDoorPrLm
namespace Go.Proofs.YtobnaokknkmlcaaDoor
open Go.RowKit
set_option linter.unusedVariables false
set_option linter.unusedSimpArgs false

/-- A condition's cells. -/
def cndC (c : Cond) (ao : Option Addr) (n cap : Nat) : List Value := .int .i64 c.kind :: .slice ao n cap :: (opdC c.left ++ opdC c.right)
/-- A condition is returned, all its data own; the right one where nothing was wrong. -/
def CndPost (At : PS → World → Prop) (b : Nat) (u : World) (L : List Ent) (r : Cond × PS) : Ending → World → Prop := fun e w' =>
  ∃ c ao n cap, e = .returned (.agg (cndC c ao n cap).toArray) ∧ Mem At b u w' r.2 (dat (fun F w => SlF F w 14 CondF ao n cap c.subs) :: L) ∧ (r.2.e = 0 → c = r.1)

section
variable {T : List Tok} {b : Nat} {ao : Option Addr} {n cap : Nat} {s : PS} {u w : World} {L : List Ent} {At : PS → World → Prop}
theorem cnd_plain {r : Cond × PS} {s' : PS} (hs : r.2 = s') (M : Mem At b u w s' L) (k : Int) (l l' : Opd) (h : r.2.e = 0 → Cond.mk k [] l l' = r.1) :
    CndPost At b u L r (.returned (.agg (cndC (.mk k [] l l') none 0 0).toArray)) w :=
  ⟨.mk k [] l l', none, 0, 0, rfl, hs ▸ M.plain (fun F F' w w' hs h => SlF.same h condF_firm hs) (fun F => SlF.nil), h⟩
theorem cmp_some (M : Mem At b u w (opdS T (adv (opdS T s).2)).2 L) (k : Int) (h : signO T (opdS T s).2 = some (k, false)) :
    CndPost At b u L (cmpS T s) (.returned (.agg (cndC (.mk k [] (opdS T s).1 (opdS T (adv (opdS T s).2)).1) none 0 0).toArray)) w :=
  cnd_plain (by unfold cmpS; rw [h]) M k _ _ (fun _ => by unfold cmpS; rw [h]; rfl)
theorem cmp_turn (M : Mem At b u w (opdS T (adv (opdS T s).2)).2 L) (k : Int) (h : signO T (opdS T s).2 = some (k, true)) :
    CndPost At b u L (cmpS T s) (.returned (.agg (cndC (.mk k [] (opdS T (adv (opdS T s).2)).1 (opdS T s).1) none 0 0).toArray)) w :=
  cnd_plain (by unfold cmpS; rw [h]) M k _ _ (fun _ => by unfold cmpS; rw [h]; rfl)
theorem cmp_none (M : Mem At b u w (opdS T (missS T (opdS T s).2)).2 L) (k : Int) (l l' : Opd) (h : signO T (opdS T s).2 = none) :
    CndPost At b u L (cmpS T s) (.returned (.agg (cndC (.mk k [] l l') none 0 0).toArray)) w := by
  have e : (cmpS T s).2 = missS T (opdS T s).2 := by unfold cmpS; rw [h]
  have hb := miss_bad (T := T) (opdS T s).2
  refine cnd_plain (e.trans ((opdS_fine (T := T)).stuck _ hb).symm) M k l l' (fun h0 => ?_)
  rw [e] at h0
  exact absurd h0 hb
theorem sign1 {s : PS} (h1 : Dec (seesB T 4 ⟨#[61]⟩ s = true)) : signO T s = some (4, false) := by unfold signO; rw [h1.out]; rfl
theorem sign2 {s : PS} (h1 : Dec (seesB T 4 ⟨#[61]⟩ s = false)) (h2 : Dec (seesB T 4 ⟨#[47, 61]⟩ s = true)) : signO T s = some (5, false) := by unfold signO; rw [h1.out, h2.out]; rfl
theorem sign3 {s : PS} (h1 : Dec (seesB T 4 ⟨#[61]⟩ s = false)) (h2 : Dec (seesB T 4 ⟨#[47, 61]⟩ s = false)) (h3 : Dec (seesB T 4 ⟨#[60]⟩ s = true)) : signO T s = some (6, false) := by unfold signO; rw [h1.out, h2.out, h3.out]; rfl
theorem sign4 {s : PS} (h1 : Dec (seesB T 4 ⟨#[61]⟩ s = false)) (h2 : Dec (seesB T 4 ⟨#[47, 61]⟩ s = false)) (h3 : Dec (seesB T 4 ⟨#[60]⟩ s = false)) (h4 : Dec (seesB T 4 ⟨#[60, 61]⟩ s = true)) : signO T s = some (7, false) := by unfold signO; rw [h1.out, h2.out, h3.out, h4.out]; rfl
theorem sign5 {s : PS} (h1 : Dec (seesB T 4 ⟨#[61]⟩ s = false)) (h2 : Dec (seesB T 4 ⟨#[47, 61]⟩ s = false)) (h3 : Dec (seesB T 4 ⟨#[60]⟩ s = false)) (h4 : Dec (seesB T 4 ⟨#[60, 61]⟩ s = false)) (h5 : Dec (seesB T 4 ⟨#[62]⟩ s = true)) : signO T s = some (6, true) := by unfold signO; rw [h1.out, h2.out, h3.out, h4.out, h5.out]; rfl
theorem sign6 {s : PS} (h1 : Dec (seesB T 4 ⟨#[61]⟩ s = false)) (h2 : Dec (seesB T 4 ⟨#[47, 61]⟩ s = false)) (h3 : Dec (seesB T 4 ⟨#[60]⟩ s = false)) (h4 : Dec (seesB T 4 ⟨#[60, 61]⟩ s = false)) (h5 : Dec (seesB T 4 ⟨#[62]⟩ s = false)) (h6 : Dec (seesB T 4 ⟨#[62, 61]⟩ s = true)) : signO T s = some (7, true) := by unfold signO; rw [h1.out, h2.out, h3.out, h4.out, h5.out, h6.out]; rfl
theorem sign0 {s : PS} (h1 : Dec (seesB T 4 ⟨#[61]⟩ s = false)) (h2 : Dec (seesB T 4 ⟨#[47, 61]⟩ s = false)) (h3 : Dec (seesB T 4 ⟨#[60]⟩ s = false)) (h4 : Dec (seesB T 4 ⟨#[60, 61]⟩ s = false)) (h5 : Dec (seesB T 4 ⟨#[62]⟩ s = false)) (h6 : Dec (seesB T 4 ⟨#[62, 61]⟩ s = false)) : signO T s = none := by unfold signO; rw [h1.out, h2.out, h3.out, h4.out, h5.out, h6.out]; rfl
set_option maxRecDepth 8000 in
set_option maxHeartbeats 2000000 in
theorem compare_any (M : Mem (RdAt b ao n cap) b u w s L) (hE : Env T b ao n cap u) :
    Calls Tryd.prog 61 #[.pointer (some ⟨b, 0, none⟩)] w (CndPost (RdAt b ao n cap) b u L (cmpS T s)) := by
  have HE := Lib.hid hE
  clear hE
  go_enter Tryd.func61, Tryd.ntmps61
  go_wp2_with (first | ((with_reducible refine o_list rfl fun K hK => ?_); (first | (first | refine q_all M (by rfl) ?_ | refine q_get M (by exact rfl) ?_ | refine q_part M (by rfl) (by simp only [laid, opdC, List.take_succ_cons, List.take_zero, List.drop_succ_cons, List.drop_zero, List.length_cons, List.length_nil, List.cons_append, List.nil_append, Nat.reduceAdd] <;> rfl) ?_ | refine q_pos M ?_ | refine q_toks M ?_ | refine q_old M (by assumption) (by assumption) (by assumption) ?_) | (first | ((first | refine q_setc M (by rfl) (by rfl) ?_ | refine q_set M (by rfl) (by rfl) ?_ | refine q_put M (by rfl) (by rfl) (by rfl) ?_ | refine q_in M (by rfl) (by rfl) (by rfl) ?_); clear M; intro w M; (try simp only [List.set_cons_zero, List.set_cons_succ, laid, opdC, List.take_succ_cons, List.take_zero, List.drop_succ_cons, List.drop_zero, List.length_cons, List.length_nil, List.cons_append, List.nil_append, Nat.reduceAdd, Nat.zero_add] at M)) | (refine q_adv M O1.out ?_; clear M; intro w M)) | (refine q_var M ?_; clear M; intro z w M) | (refine q_row M (by rfl) ?_; clear M; intro q w M)); refine hK _ _ ?_; clear hK K) | (go_at_call 21; refine M.eat HE.out _ _ ?_ ?_ <;> (clear M; intro w hs M)) | (go_at_call 22; refine (M.name HE.out).mono ?_; clear M; rintro e w ⟨rfl, M⟩) | (go_at_call 45; refine (M.number HE.out).mono ?_; clear M; rintro e w ⟨rfl, M⟩) | (go_at_call 26; refine (M.miss HE.out).mono ?_; clear M; rintro e w ⟨rfl, M⟩) | (go_at_call 24; refine (M.mark HE.out _).mono ?_; clear M; rintro e w ⟨rfl, M⟩) | (go_at_call 44; refine (M.word HE.out _).mono ?_; clear M; rintro e w ⟨rfl, M⟩) | (go_at_call 55; refine (M.operand HE.out).mono ?_; clear M; rintro e w ⟨rfl, M⟩) | (go_at_call 41; refine M.sees HE.out _ _ ?_ ?_ <;> (clear M; intro w hs M)) | (go_at_call 48; refine (M.fail _ (by decide)).mono ?_; clear M; rintro e w ⟨rfl, M⟩))
  all_goals (refine wp_region_any (by kernel_rfl) ?_; (try (change wpAny _ _ _ _ _ _ _ (World.drew _))); replace M := M.drew; generalize World.drew _ = w at M ⊢; (refine wpAny_take (i := 1) (v := ?_) (get_l rfl) (by kernel_rfl) (by kernel_rfl) (by kernel_rfl) (fun _ _ _ h => h) (Or.inl ⟨(by first | exact wanted_none rfl | rfl), ?_⟩) ?_; (rotate_left 1); focus (intro w; go_simp; try with_reducible rfl)); (try go_simp); (refine wpAny_ready (rs := [0, 2]) (by kernel_rfl) (by simp) ?_; refine (ready_cons (get_l rfl) rfl (fun K hK => ?_) (ready_cons (get_l rfl) rfl (fun K hK => ?_) AllReady.nil))); (all_goals (first | (refine o_dst (some 35) ?_; (first | refine q_all M (by rfl) ?_ | refine q_get M (by exact rfl) ?_ | refine q_part M (by rfl) (by simp only [laid, opdC, List.take_succ_cons, List.take_zero, List.drop_succ_cons, List.drop_zero, List.length_cons, List.length_nil, List.cons_append, List.nil_append, Nat.reduceAdd] <;> rfl) ?_ | refine q_pos M ?_ | refine q_toks M ?_ | refine q_old M (by assumption) (by assumption) (by assumption) ?_); (all_goals ((refine hK _ _ ?_); clear hK K)); (all_goals ((refine wpAny_take (i := 3) (v := ?_) (get_l rfl) (by kernel_rfl) (by kernel_rfl) (by kernel_rfl) (fun _ _ _ h => h) (Or.inl ⟨(by first | exact wanted_none rfl | rfl), ?_⟩) ?_; (rotate_left 1); focus (intro w; go_simp; try with_reducible rfl)); (try go_simp); (refine wpAny_ready (rs := [2]) (by kernel_rfl) (by simp) ?_; refine (ready_cons (get_l rfl) rfl (fun K hK => ?_) AllReady.nil)); (all_goals ((refine o_dst (some 37) ?_; (refine owp_of ?_; (go_simp; (first | (go_at_call 21; refine M.eat HE.out _ _ ?_ ?_ <;> (clear M; intro w hs M)) | (go_at_call 22; refine (M.name HE.out).mono ?_; clear M; rintro e w ⟨rfl, M⟩) | (go_at_call 45; refine (M.number HE.out).mono ?_; clear M; rintro e w ⟨rfl, M⟩) | (go_at_call 26; refine (M.miss HE.out).mono ?_; clear M; rintro e w ⟨rfl, M⟩) | (go_at_call 24; refine (M.mark HE.out _).mono ?_; clear M; rintro e w ⟨rfl, M⟩) | (go_at_call 44; refine (M.word HE.out _).mono ?_; clear M; rintro e w ⟨rfl, M⟩) | (go_at_call 55; refine (M.operand HE.out).mono ?_; clear M; rintro e w ⟨rfl, M⟩) | (go_at_call 41; refine M.sees HE.out _ _ ?_ ?_ <;> (clear M; intro w hs M)) | (go_at_call 48; refine (M.fail _ (by decide)).mono ?_; clear M; rintro e w ⟨rfl, M⟩))); (all_goals (try go_simp))); (all_goals ((refine hK _ _ ?_); clear hK K)); (all_goals ((refine wpAny_ready (rs := [4]) (by kernel_rfl) (by simp) ?_; refine (ready_cons (get_l rfl) rfl (fun K hK => ?_) AllReady.nil)); (all_goals ((refine o_dst none ?_; (first | ((first | refine q_setc M (by rfl) (by rfl) ?_ | refine q_set M (by rfl) (by rfl) ?_ | refine q_put M (by rfl) (by rfl) (by rfl) ?_ | refine q_in M (by rfl) (by rfl) (by rfl) ?_); clear M; intro w M; (try simp only [List.set_cons_zero, List.set_cons_succ, laid, opdC, List.take_succ_cons, List.take_zero, List.drop_succ_cons, List.drop_zero, List.length_cons, List.length_nil, List.cons_append, List.nil_append, Nat.reduceAdd, Nat.zero_add] at M)) | (refine q_adv M O1.out ?_; clear M; intro w M)); (all_goals ((refine hK _ _ ?_); clear hK K)); (all_goals ((refine wpAny_take (i := 5) (v := ?_) (get_l rfl) (by kernel_rfl) (by kernel_rfl) (by kernel_rfl) (fun _ _ _ h => h) (Or.inl ⟨(by first | exact wanted_none rfl | rfl), ?_⟩) ?_; (rotate_left 1); focus (intro w; go_simp; try with_reducible rfl)); (try go_simp); (refine wpAny_ready (rs := [6]) (by kernel_rfl) (by simp) ?_; refine (ready_cons (get_l rfl) rfl (fun K hK => ?_) AllReady.nil)); (all_goals ((refine o_dst none ?_; (first | ((first | refine q_setc M (by rfl) (by rfl) ?_ | refine q_set M (by rfl) (by rfl) ?_ | refine q_put M (by rfl) (by rfl) (by rfl) ?_ | refine q_in M (by rfl) (by rfl) (by rfl) ?_); clear M; intro w M; (try simp only [List.set_cons_zero, List.set_cons_succ, laid, opdC, List.take_succ_cons, List.take_zero, List.drop_succ_cons, List.drop_zero, List.length_cons, List.length_nil, List.cons_append, List.nil_append, Nat.reduceAdd, Nat.zero_add] at M)) | (refine q_adv M O1.out ?_; clear M; intro w M)); (all_goals ((refine hK _ _ ?_); clear hK K)); (all_goals ((refine wpAny_done (by kernel_rfl) ?_ _))))))))))))))))))) | (refine o_dst (some 37) ?_; (refine owp_of ?_; (go_simp; (first | (go_at_call 21; refine M.eat HE.out _ _ ?_ ?_ <;> (clear M; intro w hs M)) | (go_at_call 22; refine (M.name HE.out).mono ?_; clear M; rintro e w ⟨rfl, M⟩) | (go_at_call 45; refine (M.number HE.out).mono ?_; clear M; rintro e w ⟨rfl, M⟩) | (go_at_call 26; refine (M.miss HE.out).mono ?_; clear M; rintro e w ⟨rfl, M⟩) | (go_at_call 24; refine (M.mark HE.out _).mono ?_; clear M; rintro e w ⟨rfl, M⟩) | (go_at_call 44; refine (M.word HE.out _).mono ?_; clear M; rintro e w ⟨rfl, M⟩) | (go_at_call 55; refine (M.operand HE.out).mono ?_; clear M; rintro e w ⟨rfl, M⟩) | (go_at_call 41; refine M.sees HE.out _ _ ?_ ?_ <;> (clear M; intro w hs M)) | (go_at_call 48; refine (M.fail _ (by decide)).mono ?_; clear M; rintro e w ⟨rfl, M⟩))); (all_goals (try go_simp))); (all_goals ((refine hK _ _ ?_); clear hK K)); (all_goals ((refine wpAny_ready (rs := [0]) (by kernel_rfl) (by simp) ?_; refine (ready_cons (get_l rfl) rfl (fun K hK => ?_) AllReady.nil)); (all_goals ((refine o_dst (some 35) ?_; (first | refine q_all M (by rfl) ?_ | refine q_get M (by exact rfl) ?_ | refine q_part M (by rfl) (by simp only [laid, opdC, List.take_succ_cons, List.take_zero, List.drop_succ_cons, List.drop_zero, List.length_cons, List.length_nil, List.cons_append, List.nil_append, Nat.reduceAdd] <;> rfl) ?_ | refine q_pos M ?_ | refine q_toks M ?_ | refine q_old M (by assumption) (by assumption) (by assumption) ?_); (all_goals ((refine hK _ _ ?_); clear hK K)); (all_goals ((refine wpAny_take (i := 3) (v := ?_) (get_l rfl) (by kernel_rfl) (by kernel_rfl) (by kernel_rfl) (fun _ _ _ h => h) (Or.inl ⟨(by first | exact wanted_none rfl | rfl), ?_⟩) ?_; (rotate_left 1); focus (intro w; go_simp; try with_reducible rfl)); (try go_simp); (refine wpAny_ready (rs := [4]) (by kernel_rfl) (by simp) ?_; refine (ready_cons (get_l rfl) rfl (fun K hK => ?_) AllReady.nil)); (all_goals ((refine o_dst none ?_; (first | ((first | refine q_setc M (by rfl) (by rfl) ?_ | refine q_set M (by rfl) (by rfl) ?_ | refine q_put M (by rfl) (by rfl) (by rfl) ?_ | refine q_in M (by rfl) (by rfl) (by rfl) ?_); clear M; intro w M; (try simp only [List.set_cons_zero, List.set_cons_succ, laid, opdC, List.take_succ_cons, List.take_zero, List.drop_succ_cons, List.drop_zero, List.length_cons, List.length_nil, List.cons_append, List.nil_append, Nat.reduceAdd, Nat.zero_add] at M)) | (refine q_adv M O1.out ?_; clear M; intro w M)); (all_goals ((refine hK _ _ ?_); clear hK K)); (all_goals ((refine wpAny_take (i := 5) (v := ?_) (get_l rfl) (by kernel_rfl) (by kernel_rfl) (by kernel_rfl) (fun _ _ _ h => h) (Or.inl ⟨(by first | exact wanted_none rfl | rfl), ?_⟩) ?_; (rotate_left 1); focus (intro w; go_simp; try with_reducible rfl)); (try go_simp); (refine wpAny_ready (rs := [6]) (by kernel_rfl) (by simp) ?_; refine (ready_cons (get_l rfl) rfl (fun K hK => ?_) AllReady.nil)); (all_goals ((refine o_dst none ?_; (first | ((first | refine q_setc M (by rfl) (by rfl) ?_ | refine q_set M (by rfl) (by rfl) ?_ | refine q_put M (by rfl) (by rfl) (by rfl) ?_ | refine q_in M (by rfl) (by rfl) (by rfl) ?_); clear M; intro w M; (try simp only [List.set_cons_zero, List.set_cons_succ, laid, opdC, List.take_succ_cons, List.take_zero, List.drop_succ_cons, List.drop_zero, List.length_cons, List.length_nil, List.cons_append, List.nil_append, Nat.reduceAdd, Nat.zero_add] at M)) | (refine q_adv M O1.out ?_; clear M; intro w M)); (all_goals ((refine hK _ _ ?_); clear hK K)); (all_goals ((refine wpAny_done (by kernel_rfl) ?_ _))))))))))))))))))))))
  all_goals go_wp2_with (first | ((try show bodyPost _ _ _ _ _ _); (refine q_ret M Tryd.results61 (by rfl) ?_)) | ((with_reducible refine o_list rfl fun K hK => ?_); (first | (first | refine q_all M (by rfl) ?_ | refine q_get M (by exact rfl) ?_ | refine q_part M (by rfl) (by simp only [laid, opdC, List.take_succ_cons, List.take_zero, List.drop_succ_cons, List.drop_zero, List.length_cons, List.length_nil, List.cons_append, List.nil_append, Nat.reduceAdd] <;> rfl) ?_ | refine q_pos M ?_ | refine q_toks M ?_ | refine q_old M (by assumption) (by assumption) (by assumption) ?_) | (first | ((first | refine q_setc M (by rfl) (by rfl) ?_ | refine q_set M (by rfl) (by rfl) ?_ | refine q_put M (by rfl) (by rfl) (by rfl) ?_ | refine q_in M (by rfl) (by rfl) (by rfl) ?_); clear M; intro w M; (try simp only [List.set_cons_zero, List.set_cons_succ, laid, opdC, List.take_succ_cons, List.take_zero, List.drop_succ_cons, List.drop_zero, List.length_cons, List.length_nil, List.cons_append, List.nil_append, Nat.reduceAdd, Nat.zero_add] at M)) | (refine q_adv M O1.out ?_; clear M; intro w M)) | (refine q_var M ?_; clear M; intro z w M) | (refine q_row M (by rfl) ?_; clear M; intro q w M)); refine hK _ _ ?_; clear hK K))
  all_goals first
    | (have hS := sign1 (T := T) (s := (opdS T s).2) (by assumption); exact cmp_some M.drop.drop.drop _ hS)
    | (have hS := sign2 (T := T) (s := (opdS T s).2) (by assumption) (by assumption); exact cmp_some M.drop.drop.drop _ hS)
    | (have hS := sign3 (T := T) (s := (opdS T s).2) (by assumption) (by assumption) (by assumption); exact cmp_some M.drop.drop.drop _ hS)
    | (have hS := sign4 (T := T) (s := (opdS T s).2) (by assumption) (by assumption) (by assumption) (by assumption); exact cmp_some M.drop.drop.drop _ hS)
    | (have hS := sign5 (T := T) (s := (opdS T s).2) (by assumption) (by assumption) (by assumption) (by assumption) (by assumption); exact cmp_turn M.drop.drop.drop _ hS)
    | (have hS := sign6 (T := T) (s := (opdS T s).2) (by assumption) (by assumption) (by assumption) (by assumption) (by assumption) (by assumption); exact cmp_turn M.drop.drop.drop _ hS)
    | (have hS := sign0 (T := T) (s := (opdS T s).2) (by assumption) (by assumption) (by assumption) (by assumption) (by assumption) (by assumption); exact cmp_none M.drop.drop.drop _ _ _ hS)
end
end Go.Proofs.YtobnaokknkmlcaaDoor
/-
  The walk of package parse's reader, eighth part: conditions with a word between each two.
-/
namespace Go.Proofs.YtobnaokknkmlcaaDoor
open Go.RowKit
set_option linter.unusedVariables false
set_option linter.unusedSimpArgs false

theorem cndC_len (c : Cond) (ao : Option Addr) (n cap : Nat) : (cndC c ao n cap).length = 14 := rfl
theorem cndF_of {F : Nat → Prop} {w : World} {c : Cond} {ao : Option Addr} {n cap : Nat} (h : SlF F w 14 CondF ao n cap c.subs) : CondF F w (cndC c ao n cap) c := by
  cases c with
  | mk k subs l r => exact CondF.make k l r h
theorem CondF.sub {F : Nat → Prop} {w : World} {k : Value} {ao : Option Addr} {n cap : Nat} {rest : List Value} {c : Cond} (h : CondF F w (k :: .slice ao n cap :: rest) c) : SlF F w 14 CondF ao n cap c.subs := by
  obtain ⟨ao2, n2, cap2, e, hs⟩ := h.open
  injection e with e1 e2
  injection e2 with e2 e3
  injection e2 with e4 e5 e6
  subst e4 e5 e6
  exact hs
section
variable {T : List Tok} {b : Nat} {ao : Option Addr} {n cap : Nat} {s : PS} {u w : World} {L : List Ent} {At : PS → World → Prop}
theorem chainS_end {next : PS → Cond × PS} {word : ByteArray} (kind : Int) {s' : PS} {xs : List Cond} (h : chainL T next word (T.length + 1) [(next s).1] (next s).2 = (xs, s')) : chainS T kind word next s = (chainE kind xs, s') := by
  unfold chainS
  rw [h]
/-- How long a slice is. -/
def slLen : Value → Nat
  | .slice _ n _ => n
  | _ => 0
/-- What stands behind a round of a chain: the conditions read, as a slice of one's own; what is still to come. -/
def ChainRel (b : Nat) (ao : Option Addr) (n cap : Nat) (T : List Tok) (next : PS → Cond × PS) (word : ByteArray) (u : World) (L : List Ent) (z : Nat) (R : List Cond × PS) (v : Value) (w : World) : Prop :=
  ∃ (f : Nat) (xs' xs : List Cond) (s : PS) (ra : Option Addr) (rc : Nat), v = .slice ra xs'.length rc ∧ Mem (RdAt b ao n cap) b u w s (slc u.heap.size 81 14 CondF (.slice ra xs'.length rc) xs' :: own z [.int .i64 0, .slice none 0 0, .int .i64 0, .int .i64 0, .int .i64 0, .string ByteArray.empty, .string ByteArray.empty, .string ByteArray.empty, .int .i64 0, .int .i64 0, .int .i64 0, .string ByteArray.empty, .string ByteArray.empty, .string ByteArray.empty] 81 :: L) ∧
    chainL T next word f xs s = R ∧ T.length + 1 ≤ f + s.pos ∧ xs'.length = xs.length ∧ xs.length + f = T.length + 2 ∧ 0 < xs.length ∧ (s.e = 0 → xs' = xs)
set_option maxRecDepth 8000 in
set_option maxHeartbeats 2000000 in
theorem chain_any (M : Mem (RdAt b ao n cap) b u w s L) (hE : Env T b ao n cap u) (kind : Int) (word : ByteArray) (depth : Int) (fn : Nat) (next : PS → Cond × PS) (hfine : Fine next)
    (hcf : ∀ args w, (callFunc fn args).run Tryd.prog w = .ok (.enter fn args) w)
    (hN : ∀ L w s, Mem (RdAt b ao n cap) b u w s L → Calls Tryd.prog fn #[.pointer (some ⟨b, 0, none⟩), .int .i64 depth] w (CndPost (RdAt b ao n cap) b u L (next s))) :
    Calls Tryd.prog 58 #[.pointer (some ⟨b, 0, none⟩), .int .i64 kind, .string word, .int .i64 depth, .func (.func fn) #[.pointer (some ⟨b, 0, none⟩)] #[]] w (CndPost (RdAt b ao n cap) b u L (chainS T kind word next s)) := by
  have HE := Lib.hid hE
  have HN := Lib.hid hN
  have l4 : T.length ≤ 700 := hE.len.2.2.2
  have HL := Lib.hid l4
  clear hE hN l4
  go_enter Tryd.func58, Tryd.ntmps58
  go_wp2_with (first | ((with_reducible refine o_list rfl fun K hK => ?_); (first | (first | refine q_all M (by rfl) ?_ | refine q_get M (by exact rfl) ?_ | refine q_part M (by rfl) (by simp only [laid, opdC, List.take_succ_cons, List.take_zero, List.drop_succ_cons, List.drop_zero, List.length_cons, List.length_nil, List.cons_append, List.nil_append, Nat.reduceAdd] <;> rfl) ?_ | refine q_pos M ?_ | refine q_toks M ?_ | refine q_old M (by assumption) (by assumption) (by assumption) ?_) | (first | ((first | refine q_setc M (by rfl) (by rfl) ?_ | refine q_set M (by rfl) (by rfl) ?_ | refine q_put M (by rfl) (by rfl) (by rfl) ?_ | refine q_in M (by rfl) (by rfl) (by rfl) ?_); clear M; intro w M; (try simp only [List.set_cons_zero, List.set_cons_succ, laid, opdC, List.take_succ_cons, List.take_zero, List.drop_succ_cons, List.drop_zero, List.length_cons, List.length_nil, List.cons_append, List.nil_append, Nat.reduceAdd, Nat.zero_add] at M)) | (refine q_adv M O1.out ?_; clear M; intro w M)) | (refine q_var M ?_; clear M; intro z w M) | (refine q_row M (by rfl) ?_; clear M; intro q w M)); refine hK _ _ ?_; clear hK K) | ((with_reducible refine Calls.mono (HN.out _ _ _ M) ?_); clear M; rintro e w ⟨c, ao1, n1, cap1, rfl, M, hc⟩; have HC := Lib.hid hc; clear hc))
  replace M := (M.one (R := CondF) (k := 14) condF_firm (by omega) (by omega) c (cndF_of (M.dat_ (i := 1) rfl)) rfl).skip
  go_loopw [11] (fun v w => ChainRel b ao n cap T next word u L z (chainL T next word (T.length + 1) [(next s).1] (next s).2) v w) (fun v _ => T.length + 2 - slLen v)
  case atStart => exact ⟨T.length + 1, [c], [(next s).1], (next s).2, _, 1, rfl, M, rfl, by omega, rfl, by simp; omega, by simp, fun h => by rw [HC.out h]⟩
  case round =>
    obtain ⟨f, xs', xs, s', ra, rc, rfl, M, hR, hf, hl, hm, h0, hx⟩ := hrel
    have HR := Lib.hid hR
    have HX := Lib.hid hx
    have HF := Lib.hid (And.intro hf (And.intro hl (And.intro hm h0)))
    clear hR hx hf hl hm h0
    go_wp2_with fail
    refine M.eat HE.out _ _ ?_ ?_ <;> (clear M; intro w hs M)
    · go_wp2_with (first | ((with_reducible refine o_list rfl fun K hK => ?_); (first | (first | refine q_all M (by rfl) ?_ | refine q_get M (by exact rfl) ?_ | refine q_part M (by rfl) (by simp only [laid, opdC, List.take_succ_cons, List.take_zero, List.drop_succ_cons, List.drop_zero, List.length_cons, List.length_nil, List.cons_append, List.nil_append, Nat.reduceAdd] <;> rfl) ?_ | refine q_pos M ?_ | refine q_toks M ?_ | refine q_old M (by assumption) (by assumption) (by assumption) ?_) | (first | ((first | refine q_setc M (by rfl) (by rfl) ?_ | refine q_set M (by rfl) (by rfl) ?_ | refine q_put M (by rfl) (by rfl) (by rfl) ?_ | refine q_in M (by rfl) (by rfl) (by rfl) ?_); clear M; intro w M; (try simp only [List.set_cons_zero, List.set_cons_succ, laid, opdC, List.take_succ_cons, List.take_zero, List.drop_succ_cons, List.drop_zero, List.length_cons, List.length_nil, List.cons_append, List.nil_append, Nat.reduceAdd, Nat.zero_add] at M)) | (refine q_adv M O1.out ?_; clear M; intro w M)) | (refine q_var M ?_; clear M; intro z w M) | (refine q_row M (by rfl) ?_; clear M; intro q w M)); refine hK _ _ ?_; clear hK K) | ((with_reducible refine Calls.mono (HN.out _ _ _ M) ?_); clear M; rintro e w ⟨c, ao1, n1, cap1, rfl, M, hc⟩; have HC := Lib.hid hc; clear hc) | ((with_reducible refine o_list rfl fun K hK => ?_); refine q_app (R := CondF) condF_firm M 2 rfl c (cndF_of (M.dat_ (i := 1) rfl)) (by rfl) (by rfl) (by have := HF.out; have := HL.out; omega) ?_; clear M; intro ra2 rc2 w M; refine hK _ _ ?_; clear hK K))
      replace M := M.drop.drop
      obtain ⟨hf, hl, hm, h0⟩ := HF.out
      obtain ⟨f', e1, e2, e3⟩ := chainL_more hfine word f xs s' hf hs.out
      go_roundw
      case rel => exact ⟨f', xs' ++ [c], xs ++ [(next (adv s')).1], (next (adv s')).2, ra2, rc2, by simp, by simpa using M, by rw [← e3]; exact HR.out, e2, by simp; omega, by simp; omega, by simp, fun h => by
        rw [HX.out (sees_ok hs.out).1, HC.out h]⟩
      case measure => simp [slLen]; omega
    · obtain ⟨hf, hl, hm, h0⟩ := HF.out
      have HE2 := Lib.hid (HR.out.symm.trans (chainL_end (next := next) word f xs s' hs.out))
      clear hf hm h0 HR HF
      by_cases h1 : xs'.length = 1
      · obtain ⟨y, rfl⟩ : ∃ y, xs' = [y] := List.length_eq_one_iff.1 h1
        obtain ⟨q2, p2, row, rfl, hlr, hr, M⟩ := M.first condF_firm (by omega)
        obtain ⟨ao2, n2, cap2, hrow, _⟩ := (show CondF _ _ row y from M.dat_ (i := 0) rfl).open
        subst hrow
        have hl1 : xs.length = 1 := by rw [← hl]; rfl
        have HL1 := Lib.hid hl1
        clear hlr hl h1 hl1
        go_wp2_with (first | ((try show bodyPost _ _ _ _ _ _); (refine q_ret M Tryd.results58 (by rfl) ?_)) | ((with_reducible refine o_list rfl fun K hK => ?_); (first | (first | refine q_all M (by rfl) ?_ | refine q_get M (by exact rfl) ?_ | refine q_part M (by rfl) (by simp only [laid, opdC, List.take_succ_cons, List.take_zero, List.drop_succ_cons, List.drop_zero, List.length_cons, List.length_nil, List.cons_append, List.nil_append, Nat.reduceAdd] <;> rfl) ?_ | refine q_pos M ?_ | refine q_toks M ?_ | refine q_old M (by assumption) (by assumption) (by assumption) ?_) | (first | ((first | refine q_setc M (by rfl) (by rfl) ?_ | refine q_set M (by rfl) (by rfl) ?_ | refine q_put M (by rfl) (by rfl) (by rfl) ?_ | refine q_in M (by rfl) (by rfl) (by rfl) ?_); clear M; intro w M; (try simp only [List.set_cons_zero, List.set_cons_succ, laid, opdC, List.take_succ_cons, List.take_zero, List.drop_succ_cons, List.drop_zero, List.length_cons, List.length_nil, List.cons_append, List.nil_append, Nat.reduceAdd, Nat.zero_add] at M)) | (refine q_adv M O1.out ?_; clear M; intro w M)) | (refine q_var M ?_; clear M; intro z w M) | (refine q_row M (by rfl) ?_; clear M; intro q w M)); refine hK _ _ ?_; clear hK K) | ((with_reducible refine o_list rfl fun K hK => ?_); refine q_at hr (by rfl) ?_; refine hK _ _ ?_; clear hK K))
        refine ⟨y, ao2, n2, cap2, rfl, ?_, fun h => ?_⟩
        · rw [chainS_end kind HE2.out]
          exact M.skip.turn _ (dat_firm fun F F' w w' hs h => SlF.same h condF_firm hs) (fun z hz => by cases hz) (fun F G h1 _ hF => SlF.same (CondF.sub hF) condF_firm (Same.wide fun k hk _ => h1 k hk))
        · rw [chainS_end kind HE2.out] at h ⊢
          rw [← HX.out h]
          rfl
      · have h1b : ((xs'.length : Int) == 1) = false := by simp; omega
        clear h1 hl
        go_wp2_with (first | ((try show bodyPost _ _ _ _ _ _); (refine q_ret M Tryd.results58 (by rfl) ?_)) | ((with_reducible refine o_list rfl fun K hK => ?_); (first | (first | refine q_all M (by rfl) ?_ | refine q_get M (by exact rfl) ?_ | refine q_part M (by rfl) (by simp only [laid, opdC, List.take_succ_cons, List.take_zero, List.drop_succ_cons, List.drop_zero, List.length_cons, List.length_nil, List.cons_append, List.nil_append, Nat.reduceAdd] <;> rfl) ?_ | refine q_pos M ?_ | refine q_toks M ?_ | refine q_old M (by assumption) (by assumption) (by assumption) ?_) | (first | ((first | refine q_setc M (by rfl) (by rfl) ?_ | refine q_set M (by rfl) (by rfl) ?_ | refine q_put M (by rfl) (by rfl) (by rfl) ?_ | refine q_in M (by rfl) (by rfl) (by rfl) ?_); clear M; intro w M; (try simp only [List.set_cons_zero, List.set_cons_succ, laid, opdC, List.take_succ_cons, List.take_zero, List.drop_succ_cons, List.drop_zero, List.length_cons, List.length_nil, List.cons_append, List.nil_append, Nat.reduceAdd, Nat.zero_add] at M)) | (refine q_adv M O1.out ?_; clear M; intro w M)) | (refine q_var M ?_; clear M; intro z w M) | (refine q_row M (by rfl) ?_; clear M; intro q w M)); refine hK _ _ ?_; clear hK K))
        obtain ⟨ao2, cap2, e2, M⟩ := M.skip.done condF_firm (by omega)
        injection e2 with e2 e3 e4
        subst e2 e4
        refine ⟨.mk kind xs' opd0 opd0, ra, xs'.length, rc, rfl, ?_, fun h => ?_⟩
        · rw [chainS_end kind HE2.out]
          exact M
        · rw [chainS_end kind HE2.out] at h ⊢
          rw [← HX.out h]
          show _ = chainE kind xs'
          unfold chainE
          rw [if_neg (by intro h; simp [h] at h1b)]
theorem CndPost.to {r r' : Cond × PS} {e : Ending} {w : World} (h : CndPost At b u L r e w) (h2 : r.2 = r'.2) (h1 : r'.2.e = 0 → r.1 = r'.1) : CndPost At b u L r' e w := by
  obtain ⟨c, ao, n, cap, he, M, hc⟩ := h
  exact ⟨c, ao, n, cap, he, h2 ▸ M, fun h => (hc (h2 ▸ h)).trans (h1 h)⟩
/-- What reading a condition does, at each place. -/
def CndFn (T : List Tok) (b : Nat) (ao : Option Addr) (n cap : Nat) (u : World) (fn : Nat) (depth : Int) (f : PS → Cond × PS) : Prop :=
  ∀ (L : List Ent) (w : World) (s : PS), Mem (RdAt b ao n cap) b u w s L → Calls Tryd.prog fn #[.pointer (some ⟨b, 0, none⟩), .int .i64 depth] w (CndPost (RdAt b ao n cap) b u L (f s))
set_option maxRecDepth 8000 in
set_option maxHeartbeats 2000000 in
theorem and_of (hE : Env T b ao n cap u) (depth : Int) (d : Nat) (hN : CndFn T b ao n cap u 60 depth (notS T d)) : CndFn T b ao n cap u 59 depth (andS T d) := by
  intro L w s M
  have HE := Lib.hid hE
  have HN := Lib.hid hN
  clear hE hN
  have hmf : ∀ (fn : Fn) (first cap : Array Value) (w : World), (Instr.makeFunc fn first cap).run Tryd.prog w = .ok (.func fn first cap) w := fun _ _ _ _ => rfl
  go_enter Tryd.func59, Tryd.ntmps59
  go_wp2_with (first | ((try show bodyPost _ _ _ _ _ _); (refine q_ret M Tryd.results59 (by rfl) ?_)) | ((with_reducible refine o_list rfl fun K hK => ?_); (first | (first | refine q_all M (by rfl) ?_ | refine q_get M (by exact rfl) ?_ | refine q_part M (by rfl) (by simp only [laid, opdC, List.take_succ_cons, List.take_zero, List.drop_succ_cons, List.drop_zero, List.length_cons, List.length_nil, List.cons_append, List.nil_append, Nat.reduceAdd] <;> rfl) ?_ | refine q_pos M ?_ | refine q_toks M ?_ | refine q_old M (by assumption) (by assumption) (by assumption) ?_) | (first | ((first | refine q_setc M (by rfl) (by rfl) ?_ | refine q_set M (by rfl) (by rfl) ?_ | refine q_put M (by rfl) (by rfl) (by rfl) ?_ | refine q_in M (by rfl) (by rfl) (by rfl) ?_); clear M; intro w M; (try simp only [List.set_cons_zero, List.set_cons_succ, laid, opdC, List.take_succ_cons, List.take_zero, List.drop_succ_cons, List.drop_zero, List.length_cons, List.length_nil, List.cons_append, List.nil_append, Nat.reduceAdd, Nat.zero_add] at M)) | (refine q_adv M O1.out ?_; clear M; intro w M)) | (refine q_var M ?_; clear M; intro z w M) | (refine q_row M (by rfl) ?_; clear M; intro q w M)); refine hK _ _ ?_; clear hK K) | ((go_at_call 58); refine (chain_any M HE.out 1 wAnd depth _ (notS T d) (notS_fine d) (by intro args w; go_simp) HN.out).mono ?_; clear M; rintro e w ⟨c, ao1, n1, cap1, rfl, M, hc⟩))
  exact ⟨c, ao1, n1, cap1, rfl, M.skip, hc⟩
set_option maxRecDepth 8000 in
set_option maxHeartbeats 2000000 in
theorem or_of (hE : Env T b ao n cap u) (depth : Int) (d : Nat) (hN : CndFn T b ao n cap u 59 depth (andS T d)) : CndFn T b ao n cap u 53 depth (orS T d) := by
  intro L w s M
  have HE := Lib.hid hE
  have HN := Lib.hid hN
  clear hE hN
  have hmf : ∀ (fn : Fn) (first cap : Array Value) (w : World), (Instr.makeFunc fn first cap).run Tryd.prog w = .ok (.func fn first cap) w := fun _ _ _ _ => rfl
  go_enter Tryd.func53, Tryd.ntmps53
  go_wp2_with (first | ((try show bodyPost _ _ _ _ _ _); (refine q_ret M Tryd.results53 (by rfl) ?_)) | ((with_reducible refine o_list rfl fun K hK => ?_); (first | (first | refine q_all M (by rfl) ?_ | refine q_get M (by exact rfl) ?_ | refine q_part M (by rfl) (by simp only [laid, opdC, List.take_succ_cons, List.take_zero, List.drop_succ_cons, List.drop_zero, List.length_cons, List.length_nil, List.cons_append, List.nil_append, Nat.reduceAdd] <;> rfl) ?_ | refine q_pos M ?_ | refine q_toks M ?_ | refine q_old M (by assumption) (by assumption) (by assumption) ?_) | (first | ((first | refine q_setc M (by rfl) (by rfl) ?_ | refine q_set M (by rfl) (by rfl) ?_ | refine q_put M (by rfl) (by rfl) (by rfl) ?_ | refine q_in M (by rfl) (by rfl) (by rfl) ?_); clear M; intro w M; (try simp only [List.set_cons_zero, List.set_cons_succ, laid, opdC, List.take_succ_cons, List.take_zero, List.drop_succ_cons, List.drop_zero, List.length_cons, List.length_nil, List.cons_append, List.nil_append, Nat.reduceAdd, Nat.zero_add] at M)) | (refine q_adv M O1.out ?_; clear M; intro w M)) | (refine q_var M ?_; clear M; intro z w M) | (refine q_row M (by rfl) ?_; clear M; intro q w M)); refine hK _ _ ?_; clear hK K) | ((go_at_call 58); refine (chain_any M HE.out 2 wOr depth _ (andS T d) (andS_fine d) (by intro args w; go_simp) HN.out).mono ?_; clear M; rintro e w ⟨c, ao1, n1, cap1, rfl, M, hc⟩))
  exact ⟨c, ao1, n1, cap1, rfl, M.skip, hc⟩
end
end Go.Proofs.YtobnaokknkmlcaaDoor
/-
  The walk of package parse's reader, ninth part: conditions, whole.
-/
namespace Go.Proofs.YtobnaokknkmlcaaDoor
open Go.RowKit
set_option linter.unusedVariables false
set_option linter.unusedSimpArgs false

section
variable {T : List Tok} {b : Nat} {ao : Option Addr} {n cap : Nat} {s : PS} {u w : World} {L : List Ent} {At : PS → World → Prop}
theorem Mem.eatF (M : Mem (RdAt b ao n cap) b u w s L) (hE : Env T b ao n cap u) (k : Int) (x : ByteArray) (hs : seesB T k x s = false) :
    Calls Tryd.prog 21 #[.pointer (some ⟨b, 0, none⟩), .int .i64 k, .string x] w fun e w' => e = .returned (.bool false) ∧ Mem (RdAt b ao n cap) b u w' s L :=
  (eat_any M.at_ (hE.but M.but) k x).mono fun e w' h => by
    obtain ⟨rfl, h1, h2⟩ := h
    rw [hs]
    rw [eat_no hs] at h1; exact ⟨rfl, M.step h1 h2⟩
theorem notS_deep {s : PS} (h : seesB T 1 wNot s = true ∨ seesB T 4 mOpen s = true) : notS T 0 s = (cond0, failS s 14) := by unfold notS; rw [if_pos h]
theorem notS_flat {s : PS} (d : Nat) (h1 : seesB T 1 wNot s = false) (h2 : seesB T 4 mOpen s = false) : notS T d s = cmpS T s := by
  cases d with
  | zero => unfold notS; rw [h1, h2]; simp
  | succ d => unfold notS; rw [h1, h2]; simp
theorem fail_bad {s : PS} {k : Int} (hk : k ≠ 0) : (failS s k).e ≠ 0 := by
  unfold failS
  by_cases h : s.e = 0
  · rw [if_pos h]; exact hk
  · rw [if_neg h]; exact h
/-- Too deep: nothing is read. -/
theorem deep_post (h : seesB T 1 wNot s = true ∨ seesB T 4 mOpen s = true) {c : Cond} {e : Ending} (hp : CndPost At b u L (cmpS T (failS s 14)) e w) : CndPost At b u L (notS T 0 s) e w := by
  have hb : (failS s 14).e ≠ 0 := fail_bad (by decide)
  rw [notS_deep h]
  exact hp.to ((cmpS_fine (T := T)).stuck _ hb) (fun h => absurd h hb)
set_option maxRecDepth 8000 in
set_option maxHeartbeats 2000000 in
theorem not_zero (hE : Env T b ao n cap u) : CndFn T b ao n cap u 60 8 (notS T 0) := by
  intro L w s M
  have HE := Lib.hid hE
  clear hE
  go_enter Tryd.func60, Tryd.ntmps60
  go_wp2_with (first | ((with_reducible refine o_list rfl fun K hK => ?_); (first | (first | refine q_all M (by rfl) ?_ | refine q_get M (by exact rfl) ?_ | refine q_part M (by rfl) (by simp only [laid, opdC, List.take_succ_cons, List.take_zero, List.drop_succ_cons, List.drop_zero, List.length_cons, List.length_nil, List.cons_append, List.nil_append, Nat.reduceAdd] <;> rfl) ?_ | refine q_pos M ?_ | refine q_toks M ?_ | refine q_old M (by assumption) (by assumption) (by assumption) ?_) | (first | ((first | refine q_setc M (by rfl) (by rfl) ?_ | refine q_set M (by rfl) (by rfl) ?_ | refine q_put M (by rfl) (by rfl) (by rfl) ?_ | refine q_in M (by rfl) (by rfl) (by rfl) ?_); clear M; intro w M; (try simp only [List.set_cons_zero, List.set_cons_succ, laid, opdC, List.take_succ_cons, List.take_zero, List.drop_succ_cons, List.drop_zero, List.length_cons, List.length_nil, List.cons_append, List.nil_append, Nat.reduceAdd, Nat.zero_add] at M)) | (refine q_adv M O1.out ?_; clear M; intro w M)) | (refine q_var M ?_; clear M; intro z w M) | (refine q_row M (by rfl) ?_; clear M; intro q w M)); refine hK _ _ ?_; clear hK K) | (go_at_call 41; refine M.sees HE.out _ _ ?_ ?_ <;> (clear M; intro w hs M)))
  all_goals go_wp2_with (first | ((try show bodyPost _ _ _ _ _ _); (refine q_ret M Tryd.results60 (by rfl) ?_)) | ((with_reducible refine o_list rfl fun K hK => ?_); (first | (first | refine q_all M (by rfl) ?_ | refine q_get M (by exact rfl) ?_ | refine q_part M (by rfl) (by simp only [laid, opdC, List.take_succ_cons, List.take_zero, List.drop_succ_cons, List.drop_zero, List.length_cons, List.length_nil, List.cons_append, List.nil_append, Nat.reduceAdd] <;> rfl) ?_ | refine q_pos M ?_ | refine q_toks M ?_ | refine q_old M (by assumption) (by assumption) (by assumption) ?_) | (first | ((first | refine q_setc M (by rfl) (by rfl) ?_ | refine q_set M (by rfl) (by rfl) ?_ | refine q_put M (by rfl) (by rfl) (by rfl) ?_ | refine q_in M (by rfl) (by rfl) (by rfl) ?_); clear M; intro w M; (try simp only [List.set_cons_zero, List.set_cons_succ, laid, opdC, List.take_succ_cons, List.take_zero, List.drop_succ_cons, List.drop_zero, List.length_cons, List.length_nil, List.cons_append, List.nil_append, Nat.reduceAdd, Nat.zero_add] at M)) | (refine q_adv M O1.out ?_; clear M; intro w M)) | (refine q_var M ?_; clear M; intro z w M) | (refine q_row M (by rfl) ?_; clear M; intro q w M)); refine hK _ _ ?_; clear hK K) | (go_at_call 48; refine (M.fail _ (by decide)).mono ?_; clear M; rintro e w ⟨rfl, M⟩) | (go_at_call 21; refine (M.eatF HE.out _ _ (by first | exact sees_stuck (fail_bad (by decide)) | exact Dec.out (by assumption))).mono ?_; clear M; rintro e w ⟨rfl, M⟩) | ((go_at_call 61); refine (compare_any M HE.out).mono ?_; clear M; rintro e w ⟨c, ao1, n1, cap1, rfl, M, hc⟩; have HC := Lib.hid hc; clear hc))
  · exact deep_post (c := c) (.inl hs.out) ⟨c, ao1, n1, cap1, rfl, M.skip, HC.out⟩
  · exact deep_post (c := c) (.inr hs.out) ⟨c, ao1, n1, cap1, rfl, M.skip, HC.out⟩
  · rw [notS_flat 0 (Dec.out (by assumption)) hs.out]
    exact ⟨c, ao1, n1, cap1, rfl, M.skip, HC.out⟩
theorem must_ok {k : Int} {x : ByteArray} {s : PS} (h : (mustS T k x s).e = 0) : s.e = 0 := Classical.byContradiction fun hn => hn (by rw [must_stuck hn] at h; exact h)
theorem notS_not {s : PS} (d : Nat) (h : seesB T 1 wNot s = true) : notS T (d + 1) s = (.mk 3 [(notS T d (adv s)).1] opd0 opd0, (notS T d (adv s)).2) := by
  rw [notS, if_pos h]
theorem notS_open {s : PS} (d : Nat) (h1 : seesB T 1 wNot s = false) (h : seesB T 4 mOpen s = true) : notS T (d + 1) s = ((orS T d (adv s)).1, mustS T 4 mShut (orS T d (adv s)).2) := by
  rw [notS, if_neg (by rw [h1]; simp), if_pos h]
  rfl
set_option maxRecDepth 8000 in
set_option maxHeartbeats 2000000 in
theorem not_succ (hE : Env T b ao n cap u) (depth : Int) (h1 : 1 ≤ depth) (h8 : depth < 8) (d : Nat) (hN : CndFn T b ao n cap u 60 (depth + 1) (notS T d)) (hO : CndFn T b ao n cap u 53 (depth + 1) (orS T d)) :
    CndFn T b ao n cap u 60 depth (notS T (d + 1)) := by
  intro L w s M
  have HE := Lib.hid hE
  have HN := Lib.hid hN
  have HO := Lib.hid hO
  have h8b : (depth == 8) = false := by simp; omega
  clear hE hN hO
  go_enter Tryd.func60, Tryd.ntmps60
  go_wp2_with (first | ((with_reducible refine o_list rfl fun K hK => ?_); (first | (first | refine q_all M (by rfl) ?_ | refine q_get M (by exact rfl) ?_ | refine q_part M (by rfl) (by simp only [laid, opdC, List.take_succ_cons, List.take_zero, List.drop_succ_cons, List.drop_zero, List.length_cons, List.length_nil, List.cons_append, List.nil_append, Nat.reduceAdd] <;> rfl) ?_ | refine q_pos M ?_ | refine q_toks M ?_ | refine q_old M (by assumption) (by assumption) (by assumption) ?_) | (first | ((first | refine q_setc M (by rfl) (by rfl) ?_ | refine q_set M (by rfl) (by rfl) ?_ | refine q_put M (by rfl) (by rfl) (by rfl) ?_ | refine q_in M (by rfl) (by rfl) (by rfl) ?_); clear M; intro w M; (try simp only [List.set_cons_zero, List.set_cons_succ, laid, opdC, List.take_succ_cons, List.take_zero, List.drop_succ_cons, List.drop_zero, List.length_cons, List.length_nil, List.cons_append, List.nil_append, Nat.reduceAdd, Nat.zero_add] at M)) | (refine q_adv M O1.out ?_; clear M; intro w M)) | (refine q_var M ?_; clear M; intro z w M) | (refine q_row M (by rfl) ?_; clear M; intro q w M)); refine hK _ _ ?_; clear hK K) | (go_at_call 41; refine M.sees HE.out _ _ ?_ ?_ <;> (clear M; intro w hs M)))
  · refine M.eat HE.out _ _ ?_ ?_ <;> (clear M; intro w hs2 M)
    · go_wp2_with (first | ((try show bodyPost _ _ _ _ _ _); (refine q_ret M Tryd.results60 (by rfl) ?_)) | ((with_reducible refine o_list rfl fun K hK => ?_); (first | (first | refine q_all M (by rfl) ?_ | refine q_get M (by exact rfl) ?_ | refine q_part M (by rfl) (by simp only [laid, opdC, List.take_succ_cons, List.take_zero, List.drop_succ_cons, List.drop_zero, List.length_cons, List.length_nil, List.cons_append, List.nil_append, Nat.reduceAdd] <;> rfl) ?_ | refine q_pos M ?_ | refine q_toks M ?_ | refine q_old M (by assumption) (by assumption) (by assumption) ?_) | (first | ((first | refine q_setc M (by rfl) (by rfl) ?_ | refine q_set M (by rfl) (by rfl) ?_ | refine q_put M (by rfl) (by rfl) (by rfl) ?_ | refine q_in M (by rfl) (by rfl) (by rfl) ?_); clear M; intro w M; (try simp only [List.set_cons_zero, List.set_cons_succ, laid, opdC, List.take_succ_cons, List.take_zero, List.drop_succ_cons, List.drop_zero, List.length_cons, List.length_nil, List.cons_append, List.nil_append, Nat.reduceAdd, Nat.zero_add] at M)) | (refine q_adv M O1.out ?_; clear M; intro w M)) | (refine q_var M ?_; clear M; intro z w M) | (refine q_row M (by rfl) ?_; clear M; intro q w M)); refine hK _ _ ?_; clear hK K) | ((go_at_call 60); refine (HN.out _ _ _ M).mono ?_; clear M; rintro e w ⟨c, ao1, n1, cap1, rfl, M, hc⟩; have HC := Lib.hid hc; clear hc))
      replace M := ((M.one (R := CondF) (k := 14) condF_firm (by omega) (by omega) c (cndF_of (M.dat_ (i := 1) rfl)) rfl).skip).skip
      obtain ⟨ao2, cap2, e2, M⟩ := M.done condF_firm (by omega)
      injection e2 with e2 e3 e4
      subst e2 e4
      rw [notS_not d hs.out]
      exact ⟨.mk 3 [c] opd0 opd0, _, 1, 1, rfl, M, fun h => by rw [HC.out h]⟩
    · cases hs.out.symm.trans hs2.out
  · go_wp2_with (first | ((try show bodyPost _ _ _ _ _ _); (refine q_ret M Tryd.results60 (by rfl) ?_)) | ((with_reducible refine o_list rfl fun K hK => ?_); (first | (first | refine q_all M (by rfl) ?_ | refine q_get M (by exact rfl) ?_ | refine q_part M (by rfl) (by simp only [laid, opdC, List.take_succ_cons, List.take_zero, List.drop_succ_cons, List.drop_zero, List.length_cons, List.length_nil, List.cons_append, List.nil_append, Nat.reduceAdd] <;> rfl) ?_ | refine q_pos M ?_ | refine q_toks M ?_ | refine q_old M (by assumption) (by assumption) (by assumption) ?_) | (first | ((first | refine q_setc M (by rfl) (by rfl) ?_ | refine q_set M (by rfl) (by rfl) ?_ | refine q_put M (by rfl) (by rfl) (by rfl) ?_ | refine q_in M (by rfl) (by rfl) (by rfl) ?_); clear M; intro w M; (try simp only [List.set_cons_zero, List.set_cons_succ, laid, opdC, List.take_succ_cons, List.take_zero, List.drop_succ_cons, List.drop_zero, List.length_cons, List.length_nil, List.cons_append, List.nil_append, Nat.reduceAdd, Nat.zero_add] at M)) | (refine q_adv M O1.out ?_; clear M; intro w M)) | (refine q_var M ?_; clear M; intro z w M) | (refine q_row M (by rfl) ?_; clear M; intro q w M)); refine hK _ _ ?_; clear hK K) | (go_at_call 21; refine (M.eatF HE.out _ _ (by first | exact sees_stuck (fail_bad (by decide)) | exact Dec.out (by assumption))).mono ?_; clear M; rintro e w ⟨rfl, M⟩) | (go_at_call 21; refine M.eat HE.out _ _ ?_ ?_ <;> (clear M; intro w hs2 M)) | ((go_at_call 53); refine (HO.out _ _ _ M).mono ?_; clear M; rintro e w ⟨c, ao1, n1, cap1, rfl, M, hc⟩; have HC := Lib.hid hc; clear hc) | (go_at_call 21; refine M.eat HE.out _ _ ?_ ?_ <;> (clear M; intro w hs M)) | (go_at_call 22; refine (M.name HE.out).mono ?_; clear M; rintro e w ⟨rfl, M⟩) | (go_at_call 45; refine (M.number HE.out).mono ?_; clear M; rintro e w ⟨rfl, M⟩) | (go_at_call 26; refine (M.miss HE.out).mono ?_; clear M; rintro e w ⟨rfl, M⟩) | (go_at_call 24; refine (M.mark HE.out _).mono ?_; clear M; rintro e w ⟨rfl, M⟩) | (go_at_call 44; refine (M.word HE.out _).mono ?_; clear M; rintro e w ⟨rfl, M⟩) | (go_at_call 55; refine (M.operand HE.out).mono ?_; clear M; rintro e w ⟨rfl, M⟩) | (go_at_call 41; refine M.sees HE.out _ _ ?_ ?_ <;> (clear M; intro w hs M)) | (go_at_call 48; refine (M.fail _ (by decide)).mono ?_; clear M; rintro e w ⟨rfl, M⟩))
    · rw [notS_open d (Dec.out (by assumption)) hs2.out]
      exact ⟨c, ao1, n1, cap1, rfl, M.drop.skip, fun h => HC.out (must_ok h)⟩
    all_goals cases hs.out.symm.trans hs2.out
  · go_wp2_with (first | ((try show bodyPost _ _ _ _ _ _); (refine q_ret M Tryd.results60 (by rfl) ?_)) | ((with_reducible refine o_list rfl fun K hK => ?_); (first | (first | refine q_all M (by rfl) ?_ | refine q_get M (by exact rfl) ?_ | refine q_part M (by rfl) (by simp only [laid, opdC, List.take_succ_cons, List.take_zero, List.drop_succ_cons, List.drop_zero, List.length_cons, List.length_nil, List.cons_append, List.nil_append, Nat.reduceAdd] <;> rfl) ?_ | refine q_pos M ?_ | refine q_toks M ?_ | refine q_old M (by assumption) (by assumption) (by assumption) ?_) | (first | ((first | refine q_setc M (by rfl) (by rfl) ?_ | refine q_set M (by rfl) (by rfl) ?_ | refine q_put M (by rfl) (by rfl) (by rfl) ?_ | refine q_in M (by rfl) (by rfl) (by rfl) ?_); clear M; intro w M; (try simp only [List.set_cons_zero, List.set_cons_succ, laid, opdC, List.take_succ_cons, List.take_zero, List.drop_succ_cons, List.drop_zero, List.length_cons, List.length_nil, List.cons_append, List.nil_append, Nat.reduceAdd, Nat.zero_add] at M)) | (refine q_adv M O1.out ?_; clear M; intro w M)) | (refine q_var M ?_; clear M; intro z w M) | (refine q_row M (by rfl) ?_; clear M; intro q w M)); refine hK _ _ ?_; clear hK K) | (go_at_call 21; refine (M.eatF HE.out _ _ (by first | exact sees_stuck (fail_bad (by decide)) | exact Dec.out (by assumption))).mono ?_; clear M; rintro e w ⟨rfl, M⟩) | ((go_at_call 61); refine (compare_any M HE.out).mono ?_; clear M; rintro e w ⟨c, ao1, n1, cap1, rfl, M, hc⟩; have HC := Lib.hid hc; clear hc))
    rw [notS_flat (d + 1) (Dec.out (by assumption)) hs.out]
    exact ⟨c, ao1, n1, cap1, rfl, M.skip, HC.out⟩
/-- Conditions at each depth. -/
theorem cnd_all (hE : Env T b ao n cap u) : ∀ d : Nat, d ≤ 7 → CndFn T b ao n cap u 60 (8 - d) (notS T d) ∧ CndFn T b ao n cap u 53 (8 - d) (orS T d)
  | 0, _ => ⟨not_zero hE, or_of hE 8 0 (and_of hE 8 0 (not_zero hE))⟩
  | d + 1, hd => by
    obtain ⟨h1, h2⟩ := cnd_all hE d (by omega)
    have e : (8 - (d : Int)) = 8 - ((d + 1 : Nat) : Int) + 1 := by omega
    rw [e] at h1 h2
    have h3 := not_succ hE (8 - ((d + 1 : Nat) : Int)) (by omega) (by omega) d h1 h2
    exact ⟨h3, or_of hE _ _ (and_of hE _ _ h3)⟩
theorem or_any (hE : Env T b ao n cap u) : CndFn T b ao n cap u 53 1 (orS T 7) := (cnd_all hE 7 (Nat.le_refl _)).2
end
end Go.Proofs.YtobnaokknkmlcaaDoor
/-
  The walk of package parse's reader, tenth part: patterns, options.
-/
namespace Go.Proofs.YtobnaokknkmlcaaDoor
open Go.RowKit
set_option linter.unusedVariables false
set_option linter.unusedSimpArgs false

/-- A pattern's cells. -/
def patC (p : Pat) (ao : Option Addr) (n cap : Nat) : List Value := .string p.var :: .string p.type :: (cndC p.wher ao n cap ++ [.int .i64 p.window, .int .i64 p.n])
/-- A pattern is returned, all its data own; the right one where nothing was wrong. -/
def PatPost (At : PS → World → Prop) (b : Nat) (u : World) (L : List Ent) (r : Pat × PS) : Ending → World → Prop := fun e w' =>
  ∃ p ao n cap, e = .returned (.agg (patC p ao n cap).toArray) ∧ Mem At b u w' r.2 (dat (fun F w => SlF F w 14 CondF ao n cap p.wher.subs) :: L) ∧ (r.2.e = 0 → p = r.1)

section
variable {T : List Tok} {b : Nat} {ao : Option Addr} {n cap : Nat} {s : PS} {u w : World} {L : List Ent} {At : PS → World → Prop}
theorem patS_wher {s : PS} (h : seesB T 4 mIn (nameS T (mustS T 4 mColon (nameS T s).2)).2 = true) : patS T s =
    (⟨(nameS T s).1, (nameS T (mustS T 4 mColon (nameS T s).2)).1, (orS T 7 (adv (nameS T (mustS T 4 mColon (nameS T s).2)).2)).1, 0, 0⟩, mustS T 4 mOut (orS T 7 (adv (nameS T (mustS T 4 mColon (nameS T s).2)).2)).2) := by
  unfold patS; rw [if_pos h]
theorem patS_bare {s : PS} (h : seesB T 4 mIn (nameS T (mustS T 4 mColon (nameS T s).2)).2 = false) : patS T s =
    (⟨(nameS T s).1, (nameS T (mustS T 4 mColon (nameS T s).2)).1, cond0, 0, 0⟩, (nameS T (mustS T 4 mColon (nameS T s).2)).2) := by
  unfold patS; rw [h]; rfl
theorem Mem.noSubs (M : Mem At b u w s L) : Mem At b u w s (dat (fun F w => SlF F w 14 CondF none 0 0 []) :: L) := M.plain (fun F F' w w' hs h => SlF.same h condF_firm hs) (fun F => SlF.nil)
set_option maxRecDepth 8000 in
set_option maxHeartbeats 2000000 in
theorem pattern_any (M : Mem (RdAt b ao n cap) b u w s L) (hE : Env T b ao n cap u) :
    Calls Tryd.prog 43 #[.pointer (some ⟨b, 0, none⟩)] w (PatPost (RdAt b ao n cap) b u L (patS T s)) := by
  have HE := Lib.hid hE
  have HO := Lib.hid (or_any hE)
  clear hE
  go_enter Tryd.func43, Tryd.ntmps43
  go_wp2_with (first | ((try show bodyPost _ _ _ _ _ _); (refine q_ret M Tryd.results43 (by rfl) ?_)) | ((with_reducible refine o_list rfl fun K hK => ?_); (first | (first | refine q_all M (by rfl) ?_ | refine q_get M (by exact rfl) ?_ | refine q_part M (by rfl) (by simp only [laid, opdC, List.take_succ_cons, List.take_zero, List.drop_succ_cons, List.drop_zero, List.length_cons, List.length_nil, List.cons_append, List.nil_append, Nat.reduceAdd] <;> rfl) ?_ | refine q_pos M ?_ | refine q_toks M ?_ | refine q_old M (by assumption) (by assumption) (by assumption) ?_) | (first | ((first | refine q_setc M (by rfl) (by rfl) ?_ | refine q_set M (by rfl) (by rfl) ?_ | refine q_put M (by rfl) (by rfl) (by rfl) ?_ | refine q_in M (by rfl) (by rfl) (by rfl) ?_); clear M; intro w M; (try simp only [List.set_cons_zero, List.set_cons_succ, laid, opdC, cndC, patC, List.take_succ_cons, List.take_zero, List.drop_succ_cons, List.drop_zero, List.length_cons, List.length_nil, List.cons_append, List.nil_append, Nat.reduceAdd, Nat.zero_add] at M)) | (refine q_adv M O1.out ?_; clear M; intro w M)) | (refine q_var M ?_; clear M; intro z w M) | (refine q_row M (by rfl) ?_; clear M; intro q w M)); refine hK _ _ ?_; clear hK K) | ((go_at_call 53); refine (HO.out _ _ _ M).mono ?_; clear M; rintro e w ⟨c, ao1, n1, cap1, rfl, M, hc⟩; have HC := Lib.hid hc; clear hc) | (go_at_call 21; refine M.eat HE.out _ _ ?_ ?_ <;> (clear M; intro w hs M)) | (go_at_call 22; refine (M.name HE.out).mono ?_; clear M; rintro e w ⟨rfl, M⟩) | (go_at_call 45; refine (M.number HE.out).mono ?_; clear M; rintro e w ⟨rfl, M⟩) | (go_at_call 26; refine (M.miss HE.out).mono ?_; clear M; rintro e w ⟨rfl, M⟩) | (go_at_call 24; refine (M.mark HE.out _).mono ?_; clear M; rintro e w ⟨rfl, M⟩) | (go_at_call 44; refine (M.word HE.out _).mono ?_; clear M; rintro e w ⟨rfl, M⟩) | (go_at_call 55; refine (M.operand HE.out).mono ?_; clear M; rintro e w ⟨rfl, M⟩) | (go_at_call 41; refine M.sees HE.out _ _ ?_ ?_ <;> (clear M; intro w hs M)) | (go_at_call 48; refine (M.fail _ (by decide)).mono ?_; clear M; rintro e w ⟨rfl, M⟩))
  · rw [patS_wher hs.out]
    exact ⟨⟨_, _, c, 0, 0⟩, ao1, n1, cap1, rfl, M.skip.skip, fun h => by rw [HC.out (must_ok h)]; rfl⟩
  · rw [patS_bare hs.out]
    exact ⟨⟨_, _, cond0, 0, 0⟩, none, 0, 0, rfl, M.drop.drop.noSubs, fun _ => rfl⟩
end
end Go.Proofs.YtobnaokknkmlcaaDoor
/-
  The walk of package parse's reader, eleventh part: options.
-/
namespace Go.Proofs.YtobnaokknkmlcaaDoor
open Go.RowKit
set_option linter.unusedVariables false
set_option linter.unusedSimpArgs false

def optC (o : Opt) : List Value := [.int .i64 o.rel, .int .i64 o.lo, .int .i64 o.hi]
def OptPost (At : PS → World → Prop) (b : Nat) (u : World) (L : List Ent) (r : Opt × PS) : Ending → World → Prop := fun e w' =>
  ∃ o, e = .returned (.agg (optC o).toArray) ∧ Mem At b u w' r.2 L ∧ (r.2.e = 0 → o = r.1)
theorem seek_one {xs : List ByteArray} {s : ByteArray} (h0 : sameS s (xs.getD 0 ByteArray.empty) = false) (m : Nat) : (seekE xs s m = 0 ∧ behE xs s m = 0) ∨ (seekE xs s m = behE xs s m + 1 ∧ behE xs s m ≠ 0) := by
  unfold seekE behE
  rw [sameS_comm s]
  by_cases hm : m = 0
  · subst hm
    left
    rw [sameS_comm] at h0
    have h0' : ¬ sameS (xs.getD 0 ByteArray.empty) s = true := by rw [h0]; simp
    rw [if_neg h0', if_neg (fun h => h.1 rfl)]
    exact ⟨rfl, rfl⟩
  · by_cases hs : sameS (xs.getD m ByteArray.empty) s = true
    · right
      rw [if_pos hs, if_pos ⟨hm, hs⟩]
      omega
    · left
      rw [if_neg hs, if_neg (fun h => hs h.2)]
      exact ⟨rfl, rfl⟩
theorem firstN_succ (f : Nat → Int) (m : Nat) : (firstN f m = 0 → firstN f (m + 1) = f m) ∧ (firstN f m ≠ 0 → firstN f (m + 1) = firstN f m) := ⟨fun h => by simp only [firstN]; exact if_pos h, fun h => by simp only [firstN]; exact if_neg h⟩
theorem seek_beh_at {xs : List ByteArray} {s : ByteArray} (h0 : sameS s (xs.getD 0 ByteArray.empty) = false) : ∀ m, (firstN (seekE xs s) m = 0 ∧ firstN (behE xs s) m = 0) ∨ (firstN (seekE xs s) m = firstN (behE xs s) m + 1 ∧ firstN (behE xs s) m ≠ 0 ∧ 0 ≤ firstN (behE xs s) m)
  | 0 => .inl ⟨rfl, rfl⟩
  | m + 1 => by
    have hn : ∀ j, 0 ≤ behE xs s j := fun j => by unfold behE; split <;> omega
    have h1 := firstN_nonneg hn (m + 1)
    obtain ⟨a1, a2⟩ := firstN_succ (seekE xs s) m
    obtain ⟨b1, b2⟩ := firstN_succ (behE xs s) m
    rcases seek_beh_at h0 m with ⟨e1, e2⟩ | ⟨e1, e2, e3⟩
    · rcases seek_one h0 m with ⟨f1, f2⟩ | ⟨f1, f2⟩
      · exact .inl ⟨(a1 e1).trans f1, (b1 e2).trans f2⟩
      · exact .inr ⟨by rw [a1 e1, b1 e2]; exact f1, by rw [b1 e2]; exact f2, h1⟩
    · exact .inr ⟨by rw [a2 (by omega), b2 e2]; exact e1, by rw [b2 e2]; exact e2, h1⟩
theorem seek_beh (s : ByteArray) : (seekV relsL s - 1 < 1 ∧ behV relsL s = 0) ∨ (seekV relsL s - 1 = behV relsL s ∧ 1 ≤ behV relsL s) := by
  have hn : ∀ j, 0 ≤ behE relsL s j := fun j => by unfold behE; split <;> omega
  have h1 := firstN_nonneg hn relsL.length
  by_cases h0 : sameS s (relsL.getD 0 ByteArray.empty) = true
  · left
    have e1 : seekV relsL s = 1 := by
      unfold seekV
      rw [firstN_at (k := 0) (allZ_zero _) (by decide) (by unfold seekE; rw [if_pos h0]; decide)]
      unfold seekE; rw [if_pos h0]; rfl
    refine ⟨by omega, ?_⟩
    have hb : ¬ 0 < behV relsL s := fun hp => by
      obtain ⟨j, hj, hj0, hs⟩ := behV_iff.1 hp
      refine rels_nonempty j hj hj0 ?_
      unfold sameS at h0 hs
      simp only [beq_iff_eq] at h0 hs
      rw [← ByteArray.toList_eq]
      exact (hs.symm.trans h0).trans (by rw [ByteArray.toList_eq]; rfl)
    have : 0 ≤ behV relsL s := h1
    omega
  · have h0' : sameS s (relsL.getD 0 ByteArray.empty) = false := by simpa using h0
    have h2 := seek_beh_at h0' relsL.length
    rcases h2 with ⟨e1, e2⟩ | ⟨e1, e2, e3⟩
    · have e1' : seekV relsL s = 0 := e1
      exact .inl ⟨by omega, e2⟩
    · have e1' : seekV relsL s = behV relsL s + 1 := e1
      have e2' : behV relsL s ≠ 0 := e2
      have e3' : 0 ≤ behV relsL s := e3
      exact .inr ⟨by omega, by omega⟩
section
variable {T : List Tok} {b : Nat} {ao : Option Addr} {n cap : Nat} {s : PS} {u w : World} {L : List Ent} {At : PS → World → Prop}
theorem Mem.old (M : Mem At b u w s L) {c o : Nat} {v : Value} (hlt : c < u.heap.size) (hne : c ≠ b) (h : u.cell? ⟨c, o, none⟩ = some v) : w.cell? ⟨c, o, none⟩ = some v := (M.but.cell hlt hne o).trans h
theorem opt_none {s : PS} (h : relO T s = 0) : optS T s = (⟨0, 0, -1⟩, missS T s) := by unfold optS; rw [if_pos h]
theorem relO_none {s : PS} (h : nxt T s = none) : relO T s = 0 := by unfold relO; rw [h]
theorem relO_other {s : PS} {t : Tok} (h : nxt T s = some t) (hk : t.kind ≠ 1) : relO T s = 0 := by unfold relO; rw [h]; exact if_neg hk
theorem relO_word {s : PS} {t : Tok} (h : nxt T s = some t) (hk : t.kind = 1) : relO T s = behV relsL t.text := by unfold relO; rw [h]; exact if_pos hk
theorem nxt_none {s : PS} (h : nxt T s = none) : s.e = 0 → ¬ s.pos < T.length := fun he hp => by
  unfold nxt at h
  rw [if_pos he, List.getElem?_eq_getElem hp] at h
  cases h
theorem nxt_some {s : PS} {t : Tok} (h : nxt T s = some t) : s.e = 0 ∧ ∃ hp : s.pos < T.length, T[s.pos] = t := by
  unfold nxt at h
  by_cases he : s.e = 0
  · rw [if_pos he] at h
    exact ⟨he, (List.getElem?_eq_some_iff.1 h).1, (List.getElem?_eq_some_iff.1 h).2⟩
  · rw [if_neg he] at h; cases h
set_option maxRecDepth 8000 in
set_option maxHeartbeats 2000000 in
theorem option_none (M : Mem (RdAt b ao n cap) b u w s L) (hE : Env T b ao n cap u) (hN : nxt T s = none) :
    Calls Tryd.prog 54 #[.pointer (some ⟨b, 0, none⟩)] w (OptPost (RdAt b ao n cap) b u L (optS T s)) := by
  rw [opt_none (relO_none hN)]
  have HE := Lib.hid hE
  have hs := Lib.hid (nxt_none hN)
  obtain ⟨l1, l2, l3, l4⟩ := hE.len
  clear hE hN
  by_cases he : s.e = 0
  · have hpn : (n : Int) ≤ s.pos := by have := hs.out he; omega
    have hpd : decide (s.pos < n) = false := by simp; omega
    have HG : Hid (∀ wx, RdAt b ao n cap s wx → ∀ m, Calls Tryd.prog 20 #[.pointer (some ⟨b, 0, none⟩)] (wx.drewN m) fun e w' => e = .returned (.bool true) ∧ w' = wx.drewN m) := fun wx hb => going_is hb true (by simpa using he)
    clear he l1 hs
    go_enter Tryd.func54, Tryd.ntmps54
    go_wp2_with (first | ((with_reducible refine o_list rfl fun K hK => ?_); (first | (first | refine q_all M (by rfl) ?_ | refine q_get M (by exact rfl) ?_ | refine q_part M (by rfl) (by simp only [laid, opdC, List.take_succ_cons, List.take_zero, List.drop_succ_cons, List.drop_zero, List.length_cons, List.length_nil, List.cons_append, List.nil_append, Nat.reduceAdd] <;> rfl) ?_ | refine q_pos M ?_ | refine q_toks M ?_ | refine q_old M (by assumption) (by assumption) (by assumption) ?_) | (first | ((first | refine q_setc M (by rfl) (by rfl) ?_ | refine q_set M (by rfl) (by rfl) ?_ | refine q_put M (by rfl) (by rfl) (by rfl) ?_ | refine q_in M (by rfl) (by rfl) (by rfl) ?_); clear M; intro w M; (try simp only [List.set_cons_zero, List.set_cons_succ, laid, opdC, cndC, patC, optC, List.take_succ_cons, List.take_zero, List.drop_succ_cons, List.drop_zero, List.length_cons, List.length_nil, List.cons_append, List.nil_append, Nat.reduceAdd, Nat.zero_add] at M)) | (refine q_adv M O1.out ?_; clear M; intro w M)) | (refine q_var M ?_; clear M; intro z w M) | (refine q_row M (by rfl) ?_; clear M; intro q w M)); refine hK _ _ ?_; clear hK K))
    obtain ⟨c0, c1, c2, c3, fz⟩ := M.at_.open
    have hlt := M.at_.lt
    have HM := Lib.hid M.at_
    go_quiet ((go_at_call 20; with_reducible refine Calls.quiet_of_same (HG.out _ HM.out _)))
    replace M := M.draws nq
    clear c0 c1 c2 c3 fz hlt HM HG
    generalize World.drewN _ nq = w at M ⊢
    go_wp2_with (first | ((try show bodyPost _ _ _ _ _ _); (refine q_ret M Tryd.results54 (by rfl) ?_)) | ((with_reducible refine o_list rfl fun K hK => ?_); (first | (first | refine q_all M (by rfl) ?_ | refine q_get M (by exact rfl) ?_ | refine q_part M (by rfl) (by simp only [laid, opdC, List.take_succ_cons, List.take_zero, List.drop_succ_cons, List.drop_zero, List.length_cons, List.length_nil, List.cons_append, List.nil_append, Nat.reduceAdd] <;> rfl) ?_ | refine q_pos M ?_ | refine q_toks M ?_ | refine q_old M (by assumption) (by assumption) (by assumption) ?_) | (first | ((first | refine q_setc M (by rfl) (by rfl) ?_ | refine q_set M (by rfl) (by rfl) ?_ | refine q_put M (by rfl) (by rfl) (by rfl) ?_ | refine q_in M (by rfl) (by rfl) (by rfl) ?_); clear M; intro w M; (try simp only [List.set_cons_zero, List.set_cons_succ, laid, opdC, cndC, patC, optC, List.take_succ_cons, List.take_zero, List.drop_succ_cons, List.drop_zero, List.length_cons, List.length_nil, List.cons_append, List.nil_append, Nat.reduceAdd, Nat.zero_add] at M)) | (refine q_adv M O1.out ?_; clear M; intro w M)) | (refine q_var M ?_; clear M; intro z w M) | (refine q_row M (by rfl) ?_; clear M; intro q w M)); refine hK _ _ ?_; clear hK K) | (go_at_call 21; refine M.eat HE.out _ _ ?_ ?_ <;> (clear M; intro w hs M)) | (go_at_call 22; refine (M.name HE.out).mono ?_; clear M; rintro e w ⟨rfl, M⟩) | (go_at_call 45; refine (M.number HE.out).mono ?_; clear M; rintro e w ⟨rfl, M⟩) | (go_at_call 26; refine (M.miss HE.out).mono ?_; clear M; rintro e w ⟨rfl, M⟩) | (go_at_call 24; refine (M.mark HE.out _).mono ?_; clear M; rintro e w ⟨rfl, M⟩) | (go_at_call 44; refine (M.word HE.out _).mono ?_; clear M; rintro e w ⟨rfl, M⟩) | (go_at_call 55; refine (M.operand HE.out).mono ?_; clear M; rintro e w ⟨rfl, M⟩) | (go_at_call 41; refine M.sees HE.out _ _ ?_ ?_ <;> (clear M; intro w hs M)) | (go_at_call 48; refine (M.fail _ (by decide)).mono ?_; clear M; rintro e w ⟨rfl, M⟩))
    exact ⟨⟨0, 0, -1⟩, rfl, M.drop.drop, fun _ => rfl⟩
  · have HG : Hid (∀ wx, RdAt b ao n cap s wx → ∀ m, Calls Tryd.prog 20 #[.pointer (some ⟨b, 0, none⟩)] (wx.drewN m) fun e w' => e = .returned (.bool false) ∧ w' = wx.drewN m) := fun wx hb => going_is hb false (by simpa using he)
    clear he l1 hs
    go_enter Tryd.func54, Tryd.ntmps54
    go_wp2_with (first | ((with_reducible refine o_list rfl fun K hK => ?_); (first | (first | refine q_all M (by rfl) ?_ | refine q_get M (by exact rfl) ?_ | refine q_part M (by rfl) (by simp only [laid, opdC, List.take_succ_cons, List.take_zero, List.drop_succ_cons, List.drop_zero, List.length_cons, List.length_nil, List.cons_append, List.nil_append, Nat.reduceAdd] <;> rfl) ?_ | refine q_pos M ?_ | refine q_toks M ?_ | refine q_old M (by assumption) (by assumption) (by assumption) ?_) | (first | ((first | refine q_setc M (by rfl) (by rfl) ?_ | refine q_set M (by rfl) (by rfl) ?_ | refine q_put M (by rfl) (by rfl) (by rfl) ?_ | refine q_in M (by rfl) (by rfl) (by rfl) ?_); clear M; intro w M; (try simp only [List.set_cons_zero, List.set_cons_succ, laid, opdC, cndC, patC, optC, List.take_succ_cons, List.take_zero, List.drop_succ_cons, List.drop_zero, List.length_cons, List.length_nil, List.cons_append, List.nil_append, Nat.reduceAdd, Nat.zero_add] at M)) | (refine q_adv M O1.out ?_; clear M; intro w M)) | (refine q_var M ?_; clear M; intro z w M) | (refine q_row M (by rfl) ?_; clear M; intro q w M)); refine hK _ _ ?_; clear hK K))
    obtain ⟨c0, c1, c2, c3, fz⟩ := M.at_.open
    have hlt := M.at_.lt
    have HM := Lib.hid M.at_
    go_quiet ((go_at_call 20; with_reducible refine Calls.quiet_of_same (HG.out _ HM.out _)))
    replace M := M.draws nq
    clear c0 c1 c2 c3 fz hlt HM HG
    generalize World.drewN _ nq = w at M ⊢
    go_wp2_with (first | ((try show bodyPost _ _ _ _ _ _); (refine q_ret M Tryd.results54 (by rfl) ?_)) | ((with_reducible refine o_list rfl fun K hK => ?_); (first | (first | refine q_all M (by rfl) ?_ | refine q_get M (by exact rfl) ?_ | refine q_part M (by rfl) (by simp only [laid, opdC, List.take_succ_cons, List.take_zero, List.drop_succ_cons, List.drop_zero, List.length_cons, List.length_nil, List.cons_append, List.nil_append, Nat.reduceAdd] <;> rfl) ?_ | refine q_pos M ?_ | refine q_toks M ?_ | refine q_old M (by assumption) (by assumption) (by assumption) ?_) | (first | ((first | refine q_setc M (by rfl) (by rfl) ?_ | refine q_set M (by rfl) (by rfl) ?_ | refine q_put M (by rfl) (by rfl) (by rfl) ?_ | refine q_in M (by rfl) (by rfl) (by rfl) ?_); clear M; intro w M; (try simp only [List.set_cons_zero, List.set_cons_succ, laid, opdC, cndC, patC, optC, List.take_succ_cons, List.take_zero, List.drop_succ_cons, List.drop_zero, List.length_cons, List.length_nil, List.cons_append, List.nil_append, Nat.reduceAdd, Nat.zero_add] at M)) | (refine q_adv M O1.out ?_; clear M; intro w M)) | (refine q_var M ?_; clear M; intro z w M) | (refine q_row M (by rfl) ?_; clear M; intro q w M)); refine hK _ _ ?_; clear hK K) | (go_at_call 21; refine M.eat HE.out _ _ ?_ ?_ <;> (clear M; intro w hs M)) | (go_at_call 22; refine (M.name HE.out).mono ?_; clear M; rintro e w ⟨rfl, M⟩) | (go_at_call 45; refine (M.number HE.out).mono ?_; clear M; rintro e w ⟨rfl, M⟩) | (go_at_call 26; refine (M.miss HE.out).mono ?_; clear M; rintro e w ⟨rfl, M⟩) | (go_at_call 24; refine (M.mark HE.out _).mono ?_; clear M; rintro e w ⟨rfl, M⟩) | (go_at_call 44; refine (M.word HE.out _).mono ?_; clear M; rintro e w ⟨rfl, M⟩) | (go_at_call 55; refine (M.operand HE.out).mono ?_; clear M; rintro e w ⟨rfl, M⟩) | (go_at_call 41; refine M.sees HE.out _ _ ?_ ?_ <;> (clear M; intro w hs M)) | (go_at_call 48; refine (M.fail _ (by decide)).mono ?_; clear M; rintro e w ⟨rfl, M⟩))
    exact ⟨⟨0, 0, -1⟩, rfl, M.drop.drop, fun _ => rfl⟩
set_option maxRecDepth 8000 in
set_option maxHeartbeats 2000000 in
theorem option_other (M : Mem (RdAt b ao n cap) b u w s L) (hE : Env T b ao n cap u) {t : Tok} (hN : nxt T s = some t) (hk : t.kind ≠ 1) :
    Calls Tryd.prog 54 #[.pointer (some ⟨b, 0, none⟩)] w (OptPost (RdAt b ao n cap) b u L (optS T s)) := by
  rw [opt_none (relO_other hN hk)]
  have HE := Lib.hid hE
  obtain ⟨he, hp, hTt⟩ := nxt_some hN
  obtain ⟨l1, l2, l3, l4⟩ := hE.len
  obtain ⟨c, off, hclt, hcb, hix, d0, d1, d2⟩ := hE.next2 hp
  rw [hTt] at d0 d1 d2
  have hkb : (t.kind == 1) = false := by simpa using hk
  have hp1 : (s.pos : Int) < n := by omega
  have hp7 : (s.pos : Int) ≤ 700 := by omega
  have hpd : decide (s.pos < n) = true := by simp; omega
  have HG : Hid (∀ wx, RdAt b ao n cap s wx → ∀ m, Calls Tryd.prog 20 #[.pointer (some ⟨b, 0, none⟩)] (wx.drewN m) fun e w' => e = .returned (.bool true) ∧ w' = wx.drewN m) := fun wx hb => going_is hb true (by simpa using he)
  clear hE hN hk hTt he l1
  go_enter Tryd.func54, Tryd.ntmps54
  go_wp2_with (first | ((with_reducible refine o_list rfl fun K hK => ?_); (first | (first | refine q_all M (by rfl) ?_ | refine q_get M (by exact rfl) ?_ | refine q_part M (by rfl) (by simp only [laid, opdC, List.take_succ_cons, List.take_zero, List.drop_succ_cons, List.drop_zero, List.length_cons, List.length_nil, List.cons_append, List.nil_append, Nat.reduceAdd] <;> rfl) ?_ | refine q_pos M ?_ | refine q_toks M ?_ | refine q_old M (by assumption) (by assumption) (by assumption) ?_) | (first | ((first | refine q_setc M (by rfl) (by rfl) ?_ | refine q_set M (by rfl) (by rfl) ?_ | refine q_put M (by rfl) (by rfl) (by rfl) ?_ | refine q_in M (by rfl) (by rfl) (by rfl) ?_); clear M; intro w M; (try simp only [List.set_cons_zero, List.set_cons_succ, laid, opdC, cndC, patC, optC, List.take_succ_cons, List.take_zero, List.drop_succ_cons, List.drop_zero, List.length_cons, List.length_nil, List.cons_append, List.nil_append, Nat.reduceAdd, Nat.zero_add] at M)) | (refine q_adv M O1.out ?_; clear M; intro w M)) | (refine q_var M ?_; clear M; intro z w M) | (refine q_row M (by rfl) ?_; clear M; intro q w M)); refine hK _ _ ?_; clear hK K))
  obtain ⟨c0, c1, c2, c3, fz⟩ := M.at_.open
  have hlt := M.at_.lt
  have HM := Lib.hid M.at_
  have d0' := M.old hclt hcb d0
  go_quiet ((go_at_call 20; with_reducible refine Calls.quiet_of_same (HG.out _ HM.out _)))
  replace M := M.draws nq
  clear c0 c1 c2 c3 fz hlt HM HG d0' d0 d1 d2 hix
  generalize World.drewN _ nq = w at M ⊢
  go_wp2_with (first | ((try show bodyPost _ _ _ _ _ _); (refine q_ret M Tryd.results54 (by rfl) ?_)) | ((with_reducible refine o_list rfl fun K hK => ?_); (first | (first | refine q_all M (by rfl) ?_ | refine q_get M (by exact rfl) ?_ | refine q_part M (by rfl) (by simp only [laid, opdC, List.take_succ_cons, List.take_zero, List.drop_succ_cons, List.drop_zero, List.length_cons, List.length_nil, List.cons_append, List.nil_append, Nat.reduceAdd] <;> rfl) ?_ | refine q_pos M ?_ | refine q_toks M ?_ | refine q_old M (by assumption) (by assumption) (by assumption) ?_) | (first | ((first | refine q_setc M (by rfl) (by rfl) ?_ | refine q_set M (by rfl) (by rfl) ?_ | refine q_put M (by rfl) (by rfl) (by rfl) ?_ | refine q_in M (by rfl) (by rfl) (by rfl) ?_); clear M; intro w M; (try simp only [List.set_cons_zero, List.set_cons_succ, laid, opdC, cndC, patC, optC, List.take_succ_cons, List.take_zero, List.drop_succ_cons, List.drop_zero, List.length_cons, List.length_nil, List.cons_append, List.nil_append, Nat.reduceAdd, Nat.zero_add] at M)) | (refine q_adv M O1.out ?_; clear M; intro w M)) | (refine q_var M ?_; clear M; intro z w M) | (refine q_row M (by rfl) ?_; clear M; intro q w M)); refine hK _ _ ?_; clear hK K) | (go_at_call 21; refine M.eat HE.out _ _ ?_ ?_ <;> (clear M; intro w hs M)) | (go_at_call 22; refine (M.name HE.out).mono ?_; clear M; rintro e w ⟨rfl, M⟩) | (go_at_call 45; refine (M.number HE.out).mono ?_; clear M; rintro e w ⟨rfl, M⟩) | (go_at_call 26; refine (M.miss HE.out).mono ?_; clear M; rintro e w ⟨rfl, M⟩) | (go_at_call 24; refine (M.mark HE.out _).mono ?_; clear M; rintro e w ⟨rfl, M⟩) | (go_at_call 44; refine (M.word HE.out _).mono ?_; clear M; rintro e w ⟨rfl, M⟩) | (go_at_call 55; refine (M.operand HE.out).mono ?_; clear M; rintro e w ⟨rfl, M⟩) | (go_at_call 41; refine M.sees HE.out _ _ ?_ ?_ <;> (clear M; intro w hs M)) | (go_at_call 48; refine (M.fail _ (by decide)).mono ?_; clear M; rintro e w ⟨rfl, M⟩))
  exact ⟨⟨0, 0, -1⟩, rfl, M.drop.drop, fun _ => rfl⟩
theorem gap_any {r : Int} {s : PS} (h : seesB T 4 mOpen s = true) (h2 : seesB T 1 wAny (mustS T 4 mComma (numS T (adv s)).2) = true) : gapS T r s = (⟨r, (numS T (adv s)).1, -1⟩, mustS T 4 mShut (adv (mustS T 4 mComma (numS T (adv s)).2))) := by
  unfold gapS; rw [if_pos h, if_pos h2]
theorem gap_num {r : Int} {s : PS} (h : seesB T 4 mOpen s = true) (h2 : seesB T 1 wAny (mustS T 4 mComma (numS T (adv s)).2) = false) : gapS T r s = (⟨r, (numS T (adv s)).1, (numS T (mustS T 4 mComma (numS T (adv s)).2)).1⟩, mustS T 4 mShut (numS T (mustS T 4 mComma (numS T (adv s)).2)).2) := by
  unfold gapS; rw [if_pos h, h2]; rfl
theorem gap_bare {r : Int} {s : PS} (h : seesB T 4 mOpen s = false) : gapS T r s = (⟨r, 0, -1⟩, s) := by
  unfold gapS; rw [h]; rfl
set_option maxRecDepth 8000 in
set_option maxHeartbeats 2000000 in
theorem option_word (M : Mem (RdAt b ao n cap) b u w s L) (hE : Env T b ao n cap u) {t : Tok} (hN : nxt T s = some t) (hk : t.kind = 1) :
    Calls Tryd.prog 54 #[.pointer (some ⟨b, 0, none⟩)] w (OptPost (RdAt b ao n cap) b u L (optS T s)) := by
  have HE := Lib.hid hE
  obtain ⟨he, hp, hTt⟩ := nxt_some hN
  obtain ⟨l1, l2, l3, l4⟩ := hE.len
  obtain ⟨c, off, hclt, hcb, hix, d0, d1, d2⟩ := hE.next2 hp
  rw [hTt] at d0 d1 d2
  have hkb : (t.kind == 1) = true := by simpa using hk
  have hp1 : (s.pos : Int) < n := by omega
  have hp7 : (s.pos : Int) ≤ 700 := by omega
  have hpd : decide (s.pos < n) = true := by simp; omega
  have O1 := Lib.hid he
  have HG : Hid (∀ wx, RdAt b ao n cap s wx → ∀ m, Calls Tryd.prog 20 #[.pointer (some ⟨b, 0, none⟩)] (wx.drewN m) fun e w' => e = .returned (.bool true) ∧ w' = wx.drewN m) := fun wx hb => going_is hb true (by simpa using he)
  have HI : Hid (∀ w, Env T b ao n cap w → Calls Tryd.prog 40 #[.slice (some ⟨2, 0, none⟩) 14 14, .string t.text] w fun e w' => e = .returned (.int .i64 (seekV relsL t.text - 1)) ∧ w = w') := fun w h => index_any _ _ _ _ _ _ w h.rels
  have HS := Lib.hid (relO_word hN hk)
  have HB := seek_beh t.text
  generalize seekV relsL t.text - 1 = v at HI HB
  rcases HB with ⟨hv, hb⟩ | ⟨hv, hb⟩
  · have HR := Lib.hid (opt_none (HS.out.trans hb))
    clear hE hN hk hTt he l1 hb HS
    go_enter Tryd.func54, Tryd.ntmps54
    go_wp2_with (first | ((with_reducible refine o_list rfl fun K hK => ?_); (first | (first | refine q_all M (by rfl) ?_ | refine q_get M (by exact rfl) ?_ | refine q_part M (by rfl) (by simp only [laid, opdC, List.take_succ_cons, List.take_zero, List.drop_succ_cons, List.drop_zero, List.length_cons, List.length_nil, List.cons_append, List.nil_append, Nat.reduceAdd] <;> rfl) ?_ | refine q_pos M ?_ | refine q_toks M ?_ | refine q_old M (by assumption) (by assumption) (by assumption) ?_) | (first | ((first | refine q_setc M (by rfl) (by rfl) ?_ | refine q_set M (by rfl) (by rfl) ?_ | refine q_put M (by rfl) (by rfl) (by rfl) ?_ | refine q_in M (by rfl) (by rfl) (by rfl) ?_); clear M; intro w M; (try simp only [List.set_cons_zero, List.set_cons_succ, laid, opdC, cndC, patC, optC, List.take_succ_cons, List.take_zero, List.drop_succ_cons, List.drop_zero, List.length_cons, List.length_nil, List.cons_append, List.nil_append, Nat.reduceAdd, Nat.zero_add] at M)) | (refine q_adv M O1.out ?_; clear M; intro w M)) | (refine q_var M ?_; clear M; intro z w M) | (refine q_row M (by rfl) ?_; clear M; intro q w M)); refine hK _ _ ?_; clear hK K))
    obtain ⟨c0, c1, c2, c3, fz⟩ := M.at_.open
    have hlt := M.at_.lt
    have HM := Lib.hid M.at_
    have d0' := M.old hclt hcb d0
    go_quiet ((go_at_call 20; with_reducible refine Calls.quiet_of_same (HG.out _ HM.out _)))
    replace M := M.draws nq
    clear c0 c1 c2 c3 fz hlt HM HG d0' d0 d2
    generalize World.drewN _ nq = w at M ⊢
    go_wp2_with (first | ((with_reducible refine o_list rfl fun K hK => ?_); (first | (first | refine q_all M (by rfl) ?_ | refine q_get M (by exact rfl) ?_ | refine q_part M (by rfl) (by simp only [laid, opdC, List.take_succ_cons, List.take_zero, List.drop_succ_cons, List.drop_zero, List.length_cons, List.length_nil, List.cons_append, List.nil_append, Nat.reduceAdd] <;> rfl) ?_ | refine q_pos M ?_ | refine q_toks M ?_ | refine q_old M (by assumption) (by assumption) (by assumption) ?_) | (first | ((first | refine q_setc M (by rfl) (by rfl) ?_ | refine q_set M (by rfl) (by rfl) ?_ | refine q_put M (by rfl) (by rfl) (by rfl) ?_ | refine q_in M (by rfl) (by rfl) (by rfl) ?_); clear M; intro w M; (try simp only [List.set_cons_zero, List.set_cons_succ, laid, opdC, cndC, patC, optC, List.take_succ_cons, List.take_zero, List.drop_succ_cons, List.drop_zero, List.length_cons, List.length_nil, List.cons_append, List.nil_append, Nat.reduceAdd, Nat.zero_add] at M)) | (refine q_adv M O1.out ?_; clear M; intro w M)) | (refine q_var M ?_; clear M; intro z w M) | (refine q_row M (by rfl) ?_; clear M; intro q w M)); refine hK _ _ ?_; clear hK K))
    (refine wp_region_any (by kernel_rfl) ?_; (try (change wpAny _ _ _ _ _ _ _ (World.drew _))); replace M := M.drew; generalize World.drew _ = w at M ⊢; (refine wpAny_take (i := 0) (v := ?_) (get_l rfl) (by kernel_rfl) (by kernel_rfl) (by kernel_rfl) (fun _ _ _ h => h) (Or.inl ⟨(by first | exact wanted_none rfl | rfl), ?_⟩) ?_; (rotate_left 1); focus (intro w; go_simp; try with_reducible rfl)); (try go_simp); (refine wpAny_take (i := 1) (v := ?_) (get_l rfl) (by kernel_rfl) (by kernel_rfl) (by kernel_rfl) (fun _ _ _ h => h) (Or.inl ⟨(by first | exact wanted_none rfl | rfl), ?_⟩) ?_; (rotate_left 1); focus (intro w; go_simp; try with_reducible rfl)); (try go_simp); (refine wpAny_take (i := 2) (v := ?_) (get_l rfl) (by kernel_rfl) (by kernel_rfl) (by kernel_rfl) (fun _ _ _ h => h) (Or.inl ⟨(by first | exact wanted_none rfl | rfl), ?_⟩) ?_; (rotate_left 1); focus (intro w; go_simp; try with_reducible rfl)); (try go_simp); (refine wpAny_take (i := 3) (v := ?_) (get_l rfl) (by kernel_rfl) (by kernel_rfl) (by kernel_rfl) (fun _ _ _ h => h) (Or.inl ⟨(by first | exact wanted_none rfl | rfl), ?_⟩) ?_; (rotate_left 1); focus (intro w; go_simp; try with_reducible rfl)); (try go_simp); (refine wpAny_take (i := 5) (v := ?_) (get_l rfl) (by kernel_rfl) (by kernel_rfl) (by kernel_rfl) (fun _ _ _ h => h) (Or.inl ⟨(by first | exact wanted_none rfl | rfl), ?_⟩) ?_; (rotate_left 1); focus (intro w; go_simp; try with_reducible rfl)); (try go_simp); (refine wpAny_take (i := 6) (v := ?_) (get_l rfl) (by kernel_rfl) (by kernel_rfl) (by kernel_rfl) (fun _ _ _ h => h) (Or.inl ⟨(by first | exact wanted_none rfl | rfl), ?_⟩) ?_; (rotate_left 1); focus (intro w; go_simp; try with_reducible rfl)); (try go_simp); (refine wpAny_take (i := 7) (v := ?_) (get_l rfl) (by kernel_rfl) (by kernel_rfl) (by kernel_rfl) (fun _ _ _ h => h) (Or.inl ⟨(by first | exact wanted_none rfl | rfl), ?_⟩) ?_; (rotate_left 1); focus (intro w; go_simp; try with_reducible rfl)); (try go_simp); (refine wpAny_ready (rs := [4, 8]) (by kernel_rfl) (by simp) ?_; refine (ready_cons (get_l rfl) rfl (fun K hK => ?_) (ready_cons (get_l rfl) rfl (fun K hK => ?_) AllReady.nil))); (all_goals (first | (refine o_dst (some 37) ?_; (first | (refine owp_of ?_; go_simp; (go_at_call 40; refine (HI.out _ (HE.out.but M.but)).mono ?_; rintro e w' ⟨rfl, rfl⟩); (try go_simp)) | (first | refine q_all M (by rfl) ?_ | refine q_get M (by exact rfl) ?_ | refine q_part M (by rfl) (by simp only [laid, opdC, List.take_succ_cons, List.take_zero, List.drop_succ_cons, List.drop_zero, List.length_cons, List.length_nil, List.cons_append, List.nil_append, Nat.reduceAdd] <;> rfl) ?_ | refine q_pos M ?_ | refine q_toks M ?_ | refine q_old M (by assumption) (by assumption) (by assumption) ?_)); (all_goals ((refine hK _ _ ?_); clear hK K)); (all_goals ((refine wpAny_ready (rs := [8]) (by kernel_rfl) (by simp) ?_; refine (ready_cons (get_l rfl) rfl (fun K hK => ?_) AllReady.nil)); (all_goals ((refine o_dst (some 41) ?_; (first | (refine owp_of ?_; go_simp; (go_at_call 40; refine (HI.out _ (HE.out.but M.but)).mono ?_; rintro e w' ⟨rfl, rfl⟩); (try go_simp)) | (first | refine q_all M (by rfl) ?_ | refine q_get M (by exact rfl) ?_ | refine q_part M (by rfl) (by simp only [laid, opdC, List.take_succ_cons, List.take_zero, List.drop_succ_cons, List.drop_zero, List.length_cons, List.length_nil, List.cons_append, List.nil_append, Nat.reduceAdd] <;> rfl) ?_ | refine q_pos M ?_ | refine q_toks M ?_ | refine q_old M (by assumption) (by assumption) (by assumption) ?_)); (all_goals ((refine hK _ _ ?_); clear hK K)); (all_goals ((refine wpAny_take (i := 9) (v := ?_) (get_l rfl) (by kernel_rfl) (by kernel_rfl) (by kernel_rfl) (fun _ _ _ h => h) (Or.inl ⟨(by first | exact wanted_none rfl | rfl), ?_⟩) ?_; (rotate_left 1); focus (intro w; go_simp; try with_reducible rfl)); (try go_simp); (refine wpAny_take (i := 10) (v := ?_) (get_l rfl) (by kernel_rfl) (by kernel_rfl) (by kernel_rfl) (fun _ _ _ h => h) (Or.inl ⟨(by first | exact wanted_none rfl | rfl), ?_⟩) ?_; (rotate_left 1); focus (intro w; go_simp; try with_reducible rfl)); (try go_simp); (refine wpAny_ready (rs := [11]) (by kernel_rfl) (by simp) ?_; refine (ready_cons (get_l rfl) rfl (fun K hK => ?_) AllReady.nil)); (all_goals ((refine o_dst (some 44) ?_; (first | (refine owp_of ?_; go_simp; (go_at_call 40; refine (HI.out _ (HE.out.but M.but)).mono ?_; rintro e w' ⟨rfl, rfl⟩); (try go_simp)) | (first | refine q_all M (by rfl) ?_ | refine q_get M (by exact rfl) ?_ | refine q_part M (by rfl) (by simp only [laid, opdC, List.take_succ_cons, List.take_zero, List.drop_succ_cons, List.drop_zero, List.length_cons, List.length_nil, List.cons_append, List.nil_append, Nat.reduceAdd] <;> rfl) ?_ | refine q_pos M ?_ | refine q_toks M ?_ | refine q_old M (by assumption) (by assumption) (by assumption) ?_)); (all_goals ((refine hK _ _ ?_); clear hK K)); (all_goals ((refine wpAny_ready (rs := [12]) (by kernel_rfl) (by simp) ?_; refine (ready_cons (get_l rfl) rfl (fun K hK => ?_) AllReady.nil)); (all_goals ((refine o_dst (some 45) ?_; (first | (refine owp_of ?_; go_simp; (go_at_call 40; refine (HI.out _ (HE.out.but M.but)).mono ?_; rintro e w' ⟨rfl, rfl⟩); (try go_simp)) | (refine owp_of ?_; (go_simp; (first | (go_at_call 21; refine M.eat HE.out _ _ ?_ ?_ <;> (clear M; intro w hs M)) | (go_at_call 22; refine (M.name HE.out).mono ?_; clear M; rintro e w ⟨rfl, M⟩) | (go_at_call 45; refine (M.number HE.out).mono ?_; clear M; rintro e w ⟨rfl, M⟩) | (go_at_call 26; refine (M.miss HE.out).mono ?_; clear M; rintro e w ⟨rfl, M⟩) | (go_at_call 24; refine (M.mark HE.out _).mono ?_; clear M; rintro e w ⟨rfl, M⟩) | (go_at_call 44; refine (M.word HE.out _).mono ?_; clear M; rintro e w ⟨rfl, M⟩) | (go_at_call 55; refine (M.operand HE.out).mono ?_; clear M; rintro e w ⟨rfl, M⟩) | (go_at_call 41; refine M.sees HE.out _ _ ?_ ?_ <;> (clear M; intro w hs M)) | (go_at_call 48; refine (M.fail _ (by decide)).mono ?_; clear M; rintro e w ⟨rfl, M⟩))); (all_goals (try go_simp)))); (all_goals ((refine hK _ _ ?_); clear hK K)); (all_goals ((refine wpAny_take (i := 13) (v := ?_) (get_l rfl) (by kernel_rfl) (by kernel_rfl) (by kernel_rfl) (fun _ _ _ h => h) (Or.inl ⟨(by first | exact wanted_none rfl | rfl), ?_⟩) ?_; (rotate_left 1); focus (intro w; go_simp; try with_reducible rfl)); (try go_simp); (refine wpAny_ready (rs := [14]) (by kernel_rfl) (by simp) ?_; refine (ready_cons (get_l rfl) rfl (fun K hK => ?_) AllReady.nil)); (all_goals ((refine o_dst none ?_; (first | (refine owp_of ?_; go_simp; (go_at_call 40; refine (HI.out _ (HE.out.but M.but)).mono ?_; rintro e w' ⟨rfl, rfl⟩); (try go_simp)) | (first | ((first | refine q_setc M (by rfl) (by rfl) ?_ | refine q_set M (by rfl) (by rfl) ?_ | refine q_put M (by rfl) (by rfl) (by rfl) ?_ | refine q_in M (by rfl) (by rfl) (by rfl) ?_); clear M; intro w M; (try simp only [List.set_cons_zero, List.set_cons_succ, laid, opdC, cndC, patC, optC, List.take_succ_cons, List.take_zero, List.drop_succ_cons, List.drop_zero, List.length_cons, List.length_nil, List.cons_append, List.nil_append, Nat.reduceAdd, Nat.zero_add] at M)) | (refine q_adv M O1.out ?_; clear M; intro w M))); (all_goals ((refine hK _ _ ?_); clear hK K)); (all_goals ((refine wpAny_done (by kernel_rfl) ?_ _)))))))))))))))))))))))) | (refine o_dst (some 41) ?_; (first | (refine owp_of ?_; go_simp; (go_at_call 40; refine (HI.out _ (HE.out.but M.but)).mono ?_; rintro e w' ⟨rfl, rfl⟩); (try go_simp)) | (first | refine q_all M (by rfl) ?_ | refine q_get M (by exact rfl) ?_ | refine q_part M (by rfl) (by simp only [laid, opdC, List.take_succ_cons, List.take_zero, List.drop_succ_cons, List.drop_zero, List.length_cons, List.length_nil, List.cons_append, List.nil_append, Nat.reduceAdd] <;> rfl) ?_ | refine q_pos M ?_ | refine q_toks M ?_ | refine q_old M (by assumption) (by assumption) (by assumption) ?_)); (all_goals ((refine hK _ _ ?_); clear hK K)); (all_goals ((refine wpAny_ready (rs := [4]) (by kernel_rfl) (by simp) ?_; refine (ready_cons (get_l rfl) rfl (fun K hK => ?_) AllReady.nil)); (all_goals ((refine o_dst (some 37) ?_; (first | (refine owp_of ?_; go_simp; (go_at_call 40; refine (HI.out _ (HE.out.but M.but)).mono ?_; rintro e w' ⟨rfl, rfl⟩); (try go_simp)) | (first | refine q_all M (by rfl) ?_ | refine q_get M (by exact rfl) ?_ | refine q_part M (by rfl) (by simp only [laid, opdC, List.take_succ_cons, List.take_zero, List.drop_succ_cons, List.drop_zero, List.length_cons, List.length_nil, List.cons_append, List.nil_append, Nat.reduceAdd] <;> rfl) ?_ | refine q_pos M ?_ | refine q_toks M ?_ | refine q_old M (by assumption) (by assumption) (by assumption) ?_)); (all_goals ((refine hK _ _ ?_); clear hK K)); (all_goals ((refine wpAny_take (i := 9) (v := ?_) (get_l rfl) (by kernel_rfl) (by kernel_rfl) (by kernel_rfl) (fun _ _ _ h => h) (Or.inl ⟨(by first | exact wanted_none rfl | rfl), ?_⟩) ?_; (rotate_left 1); focus (intro w; go_simp; try with_reducible rfl)); (try go_simp); (refine wpAny_take (i := 10) (v := ?_) (get_l rfl) (by kernel_rfl) (by kernel_rfl) (by kernel_rfl) (fun _ _ _ h => h) (Or.inl ⟨(by first | exact wanted_none rfl | rfl), ?_⟩) ?_; (rotate_left 1); focus (intro w; go_simp; try with_reducible rfl)); (try go_simp); (refine wpAny_ready (rs := [11]) (by kernel_rfl) (by simp) ?_; refine (ready_cons (get_l rfl) rfl (fun K hK => ?_) AllReady.nil)); (all_goals ((refine o_dst (some 44) ?_; (first | (refine owp_of ?_; go_simp; (go_at_call 40; refine (HI.out _ (HE.out.but M.but)).mono ?_; rintro e w' ⟨rfl, rfl⟩); (try go_simp)) | (first | refine q_all M (by rfl) ?_ | refine q_get M (by exact rfl) ?_ | refine q_part M (by rfl) (by simp only [laid, opdC, List.take_succ_cons, List.take_zero, List.drop_succ_cons, List.drop_zero, List.length_cons, List.length_nil, List.cons_append, List.nil_append, Nat.reduceAdd] <;> rfl) ?_ | refine q_pos M ?_ | refine q_toks M ?_ | refine q_old M (by assumption) (by assumption) (by assumption) ?_)); (all_goals ((refine hK _ _ ?_); clear hK K)); (all_goals ((refine wpAny_ready (rs := [12]) (by kernel_rfl) (by simp) ?_; refine (ready_cons (get_l rfl) rfl (fun K hK => ?_) AllReady.nil)); (all_goals ((refine o_dst (some 45) ?_; (first | (refine owp_of ?_; go_simp; (go_at_call 40; refine (HI.out _ (HE.out.but M.but)).mono ?_; rintro e w' ⟨rfl, rfl⟩); (try go_simp)) | (refine owp_of ?_; (go_simp; (first | (go_at_call 21; refine M.eat HE.out _ _ ?_ ?_ <;> (clear M; intro w hs M)) | (go_at_call 22; refine (M.name HE.out).mono ?_; clear M; rintro e w ⟨rfl, M⟩) | (go_at_call 45; refine (M.number HE.out).mono ?_; clear M; rintro e w ⟨rfl, M⟩) | (go_at_call 26; refine (M.miss HE.out).mono ?_; clear M; rintro e w ⟨rfl, M⟩) | (go_at_call 24; refine (M.mark HE.out _).mono ?_; clear M; rintro e w ⟨rfl, M⟩) | (go_at_call 44; refine (M.word HE.out _).mono ?_; clear M; rintro e w ⟨rfl, M⟩) | (go_at_call 55; refine (M.operand HE.out).mono ?_; clear M; rintro e w ⟨rfl, M⟩) | (go_at_call 41; refine M.sees HE.out _ _ ?_ ?_ <;> (clear M; intro w hs M)) | (go_at_call 48; refine (M.fail _ (by decide)).mono ?_; clear M; rintro e w ⟨rfl, M⟩))); (all_goals (try go_simp)))); (all_goals ((refine hK _ _ ?_); clear hK K)); (all_goals ((refine wpAny_take (i := 13) (v := ?_) (get_l rfl) (by kernel_rfl) (by kernel_rfl) (by kernel_rfl) (fun _ _ _ h => h) (Or.inl ⟨(by first | exact wanted_none rfl | rfl), ?_⟩) ?_; (rotate_left 1); focus (intro w; go_simp; try with_reducible rfl)); (try go_simp); (refine wpAny_ready (rs := [14]) (by kernel_rfl) (by simp) ?_; refine (ready_cons (get_l rfl) rfl (fun K hK => ?_) AllReady.nil)); (all_goals ((refine o_dst none ?_; (first | (refine owp_of ?_; go_simp; (go_at_call 40; refine (HI.out _ (HE.out.but M.but)).mono ?_; rintro e w' ⟨rfl, rfl⟩); (try go_simp)) | (first | ((first | refine q_setc M (by rfl) (by rfl) ?_ | refine q_set M (by rfl) (by rfl) ?_ | refine q_put M (by rfl) (by rfl) (by rfl) ?_ | refine q_in M (by rfl) (by rfl) (by rfl) ?_); clear M; intro w M; (try simp only [List.set_cons_zero, List.set_cons_succ, laid, opdC, cndC, patC, optC, List.take_succ_cons, List.take_zero, List.drop_succ_cons, List.drop_zero, List.length_cons, List.length_nil, List.cons_append, List.nil_append, Nat.reduceAdd, Nat.zero_add] at M)) | (refine q_adv M O1.out ?_; clear M; intro w M))); (all_goals ((refine hK _ _ ?_); clear hK K)); (all_goals ((refine wpAny_done (by kernel_rfl) ?_ _)))))))))))))))))))))))))))
    all_goals clear d1 hix
    all_goals go_wp2_with (first | ((try show bodyPost _ _ _ _ _ _); (refine q_ret M Tryd.results54 (by rfl) ?_)) | ((with_reducible refine o_list rfl fun K hK => ?_); (first | (first | refine q_all M (by rfl) ?_ | refine q_get M (by exact rfl) ?_ | refine q_part M (by rfl) (by simp only [laid, opdC, List.take_succ_cons, List.take_zero, List.drop_succ_cons, List.drop_zero, List.length_cons, List.length_nil, List.cons_append, List.nil_append, Nat.reduceAdd] <;> rfl) ?_ | refine q_pos M ?_ | refine q_toks M ?_ | refine q_old M (by assumption) (by assumption) (by assumption) ?_) | (first | ((first | refine q_setc M (by rfl) (by rfl) ?_ | refine q_set M (by rfl) (by rfl) ?_ | refine q_put M (by rfl) (by rfl) (by rfl) ?_ | refine q_in M (by rfl) (by rfl) (by rfl) ?_); clear M; intro w M; (try simp only [List.set_cons_zero, List.set_cons_succ, laid, opdC, cndC, patC, optC, List.take_succ_cons, List.take_zero, List.drop_succ_cons, List.drop_zero, List.length_cons, List.length_nil, List.cons_append, List.nil_append, Nat.reduceAdd, Nat.zero_add] at M)) | (refine q_adv M O1.out ?_; clear M; intro w M)) | (refine q_var M ?_; clear M; intro z w M) | (refine q_row M (by rfl) ?_; clear M; intro q w M)); refine hK _ _ ?_; clear hK K) | (go_at_call 21; refine M.eat HE.out _ _ ?_ ?_ <;> (clear M; intro w hs M)) | (go_at_call 22; refine (M.name HE.out).mono ?_; clear M; rintro e w ⟨rfl, M⟩) | (go_at_call 45; refine (M.number HE.out).mono ?_; clear M; rintro e w ⟨rfl, M⟩) | (go_at_call 26; refine (M.miss HE.out).mono ?_; clear M; rintro e w ⟨rfl, M⟩) | (go_at_call 24; refine (M.mark HE.out _).mono ?_; clear M; rintro e w ⟨rfl, M⟩) | (go_at_call 44; refine (M.word HE.out _).mono ?_; clear M; rintro e w ⟨rfl, M⟩) | (go_at_call 55; refine (M.operand HE.out).mono ?_; clear M; rintro e w ⟨rfl, M⟩) | (go_at_call 41; refine M.sees HE.out _ _ ?_ ?_ <;> (clear M; intro w hs M)) | (go_at_call 48; refine (M.fail _ (by decide)).mono ?_; clear M; rintro e w ⟨rfl, M⟩))
    all_goals rw [HR.out]
    all_goals exact ⟨⟨v, 0, -1⟩, rfl, M.drop.drop, fun h => absurd h (miss_bad _)⟩
  · have HR : Hid (optS T s = gapS T v (adv s)) := by
      show _ = _
      unfold optS
      rw [HS.out, hv, if_neg (by omega)]
    have hv1 : 1 ≤ v := by omega
    clear hE hN hk hTt he l1 hb hv HS
    go_enter Tryd.func54, Tryd.ntmps54
    go_wp2_with (first | ((with_reducible refine o_list rfl fun K hK => ?_); (first | (first | refine q_all M (by rfl) ?_ | refine q_get M (by exact rfl) ?_ | refine q_part M (by rfl) (by simp only [laid, opdC, List.take_succ_cons, List.take_zero, List.drop_succ_cons, List.drop_zero, List.length_cons, List.length_nil, List.cons_append, List.nil_append, Nat.reduceAdd] <;> rfl) ?_ | refine q_pos M ?_ | refine q_toks M ?_ | refine q_old M (by assumption) (by assumption) (by assumption) ?_) | (first | ((first | refine q_setc M (by rfl) (by rfl) ?_ | refine q_set M (by rfl) (by rfl) ?_ | refine q_put M (by rfl) (by rfl) (by rfl) ?_ | refine q_in M (by rfl) (by rfl) (by rfl) ?_); clear M; intro w M; (try simp only [List.set_cons_zero, List.set_cons_succ, laid, opdC, cndC, patC, optC, List.take_succ_cons, List.take_zero, List.drop_succ_cons, List.drop_zero, List.length_cons, List.length_nil, List.cons_append, List.nil_append, Nat.reduceAdd, Nat.zero_add] at M)) | (refine q_adv M O1.out ?_; clear M; intro w M)) | (refine q_var M ?_; clear M; intro z w M) | (refine q_row M (by rfl) ?_; clear M; intro q w M)); refine hK _ _ ?_; clear hK K))
    obtain ⟨c0, c1, c2, c3, fz⟩ := M.at_.open
    have hlt := M.at_.lt
    have HM := Lib.hid M.at_
    have d0' := M.old hclt hcb d0
    go_quiet ((go_at_call 20; with_reducible refine Calls.quiet_of_same (HG.out _ HM.out _)))
    replace M := M.draws nq
    clear c0 c1 c2 c3 fz hlt HM HG d0' d0 d2
    generalize World.drewN _ nq = w at M ⊢
    go_wp2_with (first | ((with_reducible refine o_list rfl fun K hK => ?_); (first | (first | refine q_all M (by rfl) ?_ | refine q_get M (by exact rfl) ?_ | refine q_part M (by rfl) (by simp only [laid, opdC, List.take_succ_cons, List.take_zero, List.drop_succ_cons, List.drop_zero, List.length_cons, List.length_nil, List.cons_append, List.nil_append, Nat.reduceAdd] <;> rfl) ?_ | refine q_pos M ?_ | refine q_toks M ?_ | refine q_old M (by assumption) (by assumption) (by assumption) ?_) | (first | ((first | refine q_setc M (by rfl) (by rfl) ?_ | refine q_set M (by rfl) (by rfl) ?_ | refine q_put M (by rfl) (by rfl) (by rfl) ?_ | refine q_in M (by rfl) (by rfl) (by rfl) ?_); clear M; intro w M; (try simp only [List.set_cons_zero, List.set_cons_succ, laid, opdC, cndC, patC, optC, List.take_succ_cons, List.take_zero, List.drop_succ_cons, List.drop_zero, List.length_cons, List.length_nil, List.cons_append, List.nil_append, Nat.reduceAdd, Nat.zero_add] at M)) | (refine q_adv M O1.out ?_; clear M; intro w M)) | (refine q_var M ?_; clear M; intro z w M) | (refine q_row M (by rfl) ?_; clear M; intro q w M)); refine hK _ _ ?_; clear hK K))
    (refine wp_region_any (by kernel_rfl) ?_; (try (change wpAny _ _ _ _ _ _ _ (World.drew _))); replace M := M.drew; generalize World.drew _ = w at M ⊢; (refine wpAny_take (i := 0) (v := ?_) (get_l rfl) (by kernel_rfl) (by kernel_rfl) (by kernel_rfl) (fun _ _ _ h => h) (Or.inl ⟨(by first | exact wanted_none rfl | rfl), ?_⟩) ?_; (rotate_left 1); focus (intro w; go_simp; try with_reducible rfl)); (try go_simp); (refine wpAny_take (i := 1) (v := ?_) (get_l rfl) (by kernel_rfl) (by kernel_rfl) (by kernel_rfl) (fun _ _ _ h => h) (Or.inl ⟨(by first | exact wanted_none rfl | rfl), ?_⟩) ?_; (rotate_left 1); focus (intro w; go_simp; try with_reducible rfl)); (try go_simp); (refine wpAny_take (i := 2) (v := ?_) (get_l rfl) (by kernel_rfl) (by kernel_rfl) (by kernel_rfl) (fun _ _ _ h => h) (Or.inl ⟨(by first | exact wanted_none rfl | rfl), ?_⟩) ?_; (rotate_left 1); focus (intro w; go_simp; try with_reducible rfl)); (try go_simp); (refine wpAny_take (i := 3) (v := ?_) (get_l rfl) (by kernel_rfl) (by kernel_rfl) (by kernel_rfl) (fun _ _ _ h => h) (Or.inl ⟨(by first | exact wanted_none rfl | rfl), ?_⟩) ?_; (rotate_left 1); focus (intro w; go_simp; try with_reducible rfl)); (try go_simp); (refine wpAny_take (i := 5) (v := ?_) (get_l rfl) (by kernel_rfl) (by kernel_rfl) (by kernel_rfl) (fun _ _ _ h => h) (Or.inl ⟨(by first | exact wanted_none rfl | rfl), ?_⟩) ?_; (rotate_left 1); focus (intro w; go_simp; try with_reducible rfl)); (try go_simp); (refine wpAny_take (i := 6) (v := ?_) (get_l rfl) (by kernel_rfl) (by kernel_rfl) (by kernel_rfl) (fun _ _ _ h => h) (Or.inl ⟨(by first | exact wanted_none rfl | rfl), ?_⟩) ?_; (rotate_left 1); focus (intro w; go_simp; try with_reducible rfl)); (try go_simp); (refine wpAny_take (i := 7) (v := ?_) (get_l rfl) (by kernel_rfl) (by kernel_rfl) (by kernel_rfl) (fun _ _ _ h => h) (Or.inl ⟨(by first | exact wanted_none rfl | rfl), ?_⟩) ?_; (rotate_left 1); focus (intro w; go_simp; try with_reducible rfl)); (try go_simp); (refine wpAny_ready (rs := [4, 8]) (by kernel_rfl) (by simp) ?_; refine (ready_cons (get_l rfl) rfl (fun K hK => ?_) (ready_cons (get_l rfl) rfl (fun K hK => ?_) AllReady.nil))); (all_goals (first | (refine o_dst (some 37) ?_; (first | (refine owp_of ?_; go_simp; (go_at_call 40; refine (HI.out _ (HE.out.but M.but)).mono ?_; rintro e w' ⟨rfl, rfl⟩); (try go_simp)) | (first | refine q_all M (by rfl) ?_ | refine q_get M (by exact rfl) ?_ | refine q_part M (by rfl) (by simp only [laid, opdC, List.take_succ_cons, List.take_zero, List.drop_succ_cons, List.drop_zero, List.length_cons, List.length_nil, List.cons_append, List.nil_append, Nat.reduceAdd] <;> rfl) ?_ | refine q_pos M ?_ | refine q_toks M ?_ | refine q_old M (by assumption) (by assumption) (by assumption) ?_)); (all_goals ((refine hK _ _ ?_); clear hK K)); (all_goals ((refine wpAny_ready (rs := [8]) (by kernel_rfl) (by simp) ?_; refine (ready_cons (get_l rfl) rfl (fun K hK => ?_) AllReady.nil)); (all_goals ((refine o_dst (some 41) ?_; (first | (refine owp_of ?_; go_simp; (go_at_call 40; refine (HI.out _ (HE.out.but M.but)).mono ?_; rintro e w' ⟨rfl, rfl⟩); (try go_simp)) | (first | refine q_all M (by rfl) ?_ | refine q_get M (by exact rfl) ?_ | refine q_part M (by rfl) (by simp only [laid, opdC, List.take_succ_cons, List.take_zero, List.drop_succ_cons, List.drop_zero, List.length_cons, List.length_nil, List.cons_append, List.nil_append, Nat.reduceAdd] <;> rfl) ?_ | refine q_pos M ?_ | refine q_toks M ?_ | refine q_old M (by assumption) (by assumption) (by assumption) ?_)); (all_goals ((refine hK _ _ ?_); clear hK K)); (all_goals ((refine wpAny_take (i := 9) (v := ?_) (get_l rfl) (by kernel_rfl) (by kernel_rfl) (by kernel_rfl) (fun _ _ _ h => h) (Or.inl ⟨(by first | exact wanted_none rfl | rfl), ?_⟩) ?_; (rotate_left 1); focus (intro w; go_simp; try with_reducible rfl)); (try go_simp); (refine wpAny_take (i := 10) (v := ?_) (get_l rfl) (by kernel_rfl) (by kernel_rfl) (by kernel_rfl) (fun _ _ _ h => h) (Or.inl ⟨(by first | exact wanted_none rfl | rfl), ?_⟩) ?_; (rotate_left 1); focus (intro w; go_simp; try with_reducible rfl)); (try go_simp); (refine wpAny_ready (rs := [11]) (by kernel_rfl) (by simp) ?_; refine (ready_cons (get_l rfl) rfl (fun K hK => ?_) AllReady.nil)); (all_goals ((refine o_dst (some 44) ?_; (first | (refine owp_of ?_; go_simp; (go_at_call 40; refine (HI.out _ (HE.out.but M.but)).mono ?_; rintro e w' ⟨rfl, rfl⟩); (try go_simp)) | (first | refine q_all M (by rfl) ?_ | refine q_get M (by exact rfl) ?_ | refine q_part M (by rfl) (by simp only [laid, opdC, List.take_succ_cons, List.take_zero, List.drop_succ_cons, List.drop_zero, List.length_cons, List.length_nil, List.cons_append, List.nil_append, Nat.reduceAdd] <;> rfl) ?_ | refine q_pos M ?_ | refine q_toks M ?_ | refine q_old M (by assumption) (by assumption) (by assumption) ?_)); (all_goals ((refine hK _ _ ?_); clear hK K)); (all_goals ((refine wpAny_ready (rs := [12]) (by kernel_rfl) (by simp) ?_; refine (ready_cons (get_l rfl) rfl (fun K hK => ?_) AllReady.nil)); (all_goals ((refine o_dst (some 45) ?_; (first | (refine owp_of ?_; go_simp; (go_at_call 40; refine (HI.out _ (HE.out.but M.but)).mono ?_; rintro e w' ⟨rfl, rfl⟩); (try go_simp)) | (refine owp_of ?_; (go_simp; (first | (go_at_call 21; refine M.eat HE.out _ _ ?_ ?_ <;> (clear M; intro w hs M)) | (go_at_call 22; refine (M.name HE.out).mono ?_; clear M; rintro e w ⟨rfl, M⟩) | (go_at_call 45; refine (M.number HE.out).mono ?_; clear M; rintro e w ⟨rfl, M⟩) | (go_at_call 26; refine (M.miss HE.out).mono ?_; clear M; rintro e w ⟨rfl, M⟩) | (go_at_call 24; refine (M.mark HE.out _).mono ?_; clear M; rintro e w ⟨rfl, M⟩) | (go_at_call 44; refine (M.word HE.out _).mono ?_; clear M; rintro e w ⟨rfl, M⟩) | (go_at_call 55; refine (M.operand HE.out).mono ?_; clear M; rintro e w ⟨rfl, M⟩) | (go_at_call 41; refine M.sees HE.out _ _ ?_ ?_ <;> (clear M; intro w hs M)) | (go_at_call 48; refine (M.fail _ (by decide)).mono ?_; clear M; rintro e w ⟨rfl, M⟩))); (all_goals (try go_simp)))); (all_goals ((refine hK _ _ ?_); clear hK K)); (all_goals ((refine wpAny_take (i := 13) (v := ?_) (get_l rfl) (by kernel_rfl) (by kernel_rfl) (by kernel_rfl) (fun _ _ _ h => h) (Or.inl ⟨(by first | exact wanted_none rfl | rfl), ?_⟩) ?_; (rotate_left 1); focus (intro w; go_simp; try with_reducible rfl)); (try go_simp); (refine wpAny_ready (rs := [14]) (by kernel_rfl) (by simp) ?_; refine (ready_cons (get_l rfl) rfl (fun K hK => ?_) AllReady.nil)); (all_goals ((refine o_dst none ?_; (first | (refine owp_of ?_; go_simp; (go_at_call 40; refine (HI.out _ (HE.out.but M.but)).mono ?_; rintro e w' ⟨rfl, rfl⟩); (try go_simp)) | (first | ((first | refine q_setc M (by rfl) (by rfl) ?_ | refine q_set M (by rfl) (by rfl) ?_ | refine q_put M (by rfl) (by rfl) (by rfl) ?_ | refine q_in M (by rfl) (by rfl) (by rfl) ?_); clear M; intro w M; (try simp only [List.set_cons_zero, List.set_cons_succ, laid, opdC, cndC, patC, optC, List.take_succ_cons, List.take_zero, List.drop_succ_cons, List.drop_zero, List.length_cons, List.length_nil, List.cons_append, List.nil_append, Nat.reduceAdd, Nat.zero_add] at M)) | (refine q_adv M O1.out ?_; clear M; intro w M))); (all_goals ((refine hK _ _ ?_); clear hK K)); (all_goals ((refine wpAny_done (by kernel_rfl) ?_ _)))))))))))))))))))))))) | (refine o_dst (some 41) ?_; (first | (refine owp_of ?_; go_simp; (go_at_call 40; refine (HI.out _ (HE.out.but M.but)).mono ?_; rintro e w' ⟨rfl, rfl⟩); (try go_simp)) | (first | refine q_all M (by rfl) ?_ | refine q_get M (by exact rfl) ?_ | refine q_part M (by rfl) (by simp only [laid, opdC, List.take_succ_cons, List.take_zero, List.drop_succ_cons, List.drop_zero, List.length_cons, List.length_nil, List.cons_append, List.nil_append, Nat.reduceAdd] <;> rfl) ?_ | refine q_pos M ?_ | refine q_toks M ?_ | refine q_old M (by assumption) (by assumption) (by assumption) ?_)); (all_goals ((refine hK _ _ ?_); clear hK K)); (all_goals ((refine wpAny_ready (rs := [4]) (by kernel_rfl) (by simp) ?_; refine (ready_cons (get_l rfl) rfl (fun K hK => ?_) AllReady.nil)); (all_goals ((refine o_dst (some 37) ?_; (first | (refine owp_of ?_; go_simp; (go_at_call 40; refine (HI.out _ (HE.out.but M.but)).mono ?_; rintro e w' ⟨rfl, rfl⟩); (try go_simp)) | (first | refine q_all M (by rfl) ?_ | refine q_get M (by exact rfl) ?_ | refine q_part M (by rfl) (by simp only [laid, opdC, List.take_succ_cons, List.take_zero, List.drop_succ_cons, List.drop_zero, List.length_cons, List.length_nil, List.cons_append, List.nil_append, Nat.reduceAdd] <;> rfl) ?_ | refine q_pos M ?_ | refine q_toks M ?_ | refine q_old M (by assumption) (by assumption) (by assumption) ?_)); (all_goals ((refine hK _ _ ?_); clear hK K)); (all_goals ((refine wpAny_take (i := 9) (v := ?_) (get_l rfl) (by kernel_rfl) (by kernel_rfl) (by kernel_rfl) (fun _ _ _ h => h) (Or.inl ⟨(by first | exact wanted_none rfl | rfl), ?_⟩) ?_; (rotate_left 1); focus (intro w; go_simp; try with_reducible rfl)); (try go_simp); (refine wpAny_take (i := 10) (v := ?_) (get_l rfl) (by kernel_rfl) (by kernel_rfl) (by kernel_rfl) (fun _ _ _ h => h) (Or.inl ⟨(by first | exact wanted_none rfl | rfl), ?_⟩) ?_; (rotate_left 1); focus (intro w; go_simp; try with_reducible rfl)); (try go_simp); (refine wpAny_ready (rs := [11]) (by kernel_rfl) (by simp) ?_; refine (ready_cons (get_l rfl) rfl (fun K hK => ?_) AllReady.nil)); (all_goals ((refine o_dst (some 44) ?_; (first | (refine owp_of ?_; go_simp; (go_at_call 40; refine (HI.out _ (HE.out.but M.but)).mono ?_; rintro e w' ⟨rfl, rfl⟩); (try go_simp)) | (first | refine q_all M (by rfl) ?_ | refine q_get M (by exact rfl) ?_ | refine q_part M (by rfl) (by simp only [laid, opdC, List.take_succ_cons, List.take_zero, List.drop_succ_cons, List.drop_zero, List.length_cons, List.length_nil, List.cons_append, List.nil_append, Nat.reduceAdd] <;> rfl) ?_ | refine q_pos M ?_ | refine q_toks M ?_ | refine q_old M (by assumption) (by assumption) (by assumption) ?_)); (all_goals ((refine hK _ _ ?_); clear hK K)); (all_goals ((refine wpAny_ready (rs := [12]) (by kernel_rfl) (by simp) ?_; refine (ready_cons (get_l rfl) rfl (fun K hK => ?_) AllReady.nil)); (all_goals ((refine o_dst (some 45) ?_; (first | (refine owp_of ?_; go_simp; (go_at_call 40; refine (HI.out _ (HE.out.but M.but)).mono ?_; rintro e w' ⟨rfl, rfl⟩); (try go_simp)) | (refine owp_of ?_; (go_simp; (first | (go_at_call 21; refine M.eat HE.out _ _ ?_ ?_ <;> (clear M; intro w hs M)) | (go_at_call 22; refine (M.name HE.out).mono ?_; clear M; rintro e w ⟨rfl, M⟩) | (go_at_call 45; refine (M.number HE.out).mono ?_; clear M; rintro e w ⟨rfl, M⟩) | (go_at_call 26; refine (M.miss HE.out).mono ?_; clear M; rintro e w ⟨rfl, M⟩) | (go_at_call 24; refine (M.mark HE.out _).mono ?_; clear M; rintro e w ⟨rfl, M⟩) | (go_at_call 44; refine (M.word HE.out _).mono ?_; clear M; rintro e w ⟨rfl, M⟩) | (go_at_call 55; refine (M.operand HE.out).mono ?_; clear M; rintro e w ⟨rfl, M⟩) | (go_at_call 41; refine M.sees HE.out _ _ ?_ ?_ <;> (clear M; intro w hs M)) | (go_at_call 48; refine (M.fail _ (by decide)).mono ?_; clear M; rintro e w ⟨rfl, M⟩))); (all_goals (try go_simp)))); (all_goals ((refine hK _ _ ?_); clear hK K)); (all_goals ((refine wpAny_take (i := 13) (v := ?_) (get_l rfl) (by kernel_rfl) (by kernel_rfl) (by kernel_rfl) (fun _ _ _ h => h) (Or.inl ⟨(by first | exact wanted_none rfl | rfl), ?_⟩) ?_; (rotate_left 1); focus (intro w; go_simp; try with_reducible rfl)); (try go_simp); (refine wpAny_ready (rs := [14]) (by kernel_rfl) (by simp) ?_; refine (ready_cons (get_l rfl) rfl (fun K hK => ?_) AllReady.nil)); (all_goals ((refine o_dst none ?_; (first | (refine owp_of ?_; go_simp; (go_at_call 40; refine (HI.out _ (HE.out.but M.but)).mono ?_; rintro e w' ⟨rfl, rfl⟩); (try go_simp)) | (first | ((first | refine q_setc M (by rfl) (by rfl) ?_ | refine q_set M (by rfl) (by rfl) ?_ | refine q_put M (by rfl) (by rfl) (by rfl) ?_ | refine q_in M (by rfl) (by rfl) (by rfl) ?_); clear M; intro w M; (try simp only [List.set_cons_zero, List.set_cons_succ, laid, opdC, cndC, patC, optC, List.take_succ_cons, List.take_zero, List.drop_succ_cons, List.drop_zero, List.length_cons, List.length_nil, List.cons_append, List.nil_append, Nat.reduceAdd, Nat.zero_add] at M)) | (refine q_adv M O1.out ?_; clear M; intro w M))); (all_goals ((refine hK _ _ ?_); clear hK K)); (all_goals ((refine wpAny_done (by kernel_rfl) ?_ _)))))))))))))))))))))))))))
    all_goals clear d1 hix
    all_goals go_wp2_with (first | ((try show bodyPost _ _ _ _ _ _); (refine q_ret M Tryd.results54 (by rfl) ?_)) | ((with_reducible refine o_list rfl fun K hK => ?_); (first | (first | refine q_all M (by rfl) ?_ | refine q_get M (by exact rfl) ?_ | refine q_part M (by rfl) (by simp only [laid, opdC, List.take_succ_cons, List.take_zero, List.drop_succ_cons, List.drop_zero, List.length_cons, List.length_nil, List.cons_append, List.nil_append, Nat.reduceAdd] <;> rfl) ?_ | refine q_pos M ?_ | refine q_toks M ?_ | refine q_old M (by assumption) (by assumption) (by assumption) ?_) | (first | ((first | refine q_setc M (by rfl) (by rfl) ?_ | refine q_set M (by rfl) (by rfl) ?_ | refine q_put M (by rfl) (by rfl) (by rfl) ?_ | refine q_in M (by rfl) (by rfl) (by rfl) ?_); clear M; intro w M; (try simp only [List.set_cons_zero, List.set_cons_succ, laid, opdC, cndC, patC, optC, List.take_succ_cons, List.take_zero, List.drop_succ_cons, List.drop_zero, List.length_cons, List.length_nil, List.cons_append, List.nil_append, Nat.reduceAdd, Nat.zero_add] at M)) | (refine q_adv M O1.out ?_; clear M; intro w M)) | (refine q_var M ?_; clear M; intro z w M) | (refine q_row M (by rfl) ?_; clear M; intro q w M)); refine hK _ _ ?_; clear hK K) | (go_at_call 21; refine M.eat HE.out _ _ ?_ ?_ <;> (clear M; intro w hs M)) | (go_at_call 22; refine (M.name HE.out).mono ?_; clear M; rintro e w ⟨rfl, M⟩) | (go_at_call 45; refine (M.number HE.out).mono ?_; clear M; rintro e w ⟨rfl, M⟩) | (go_at_call 26; refine (M.miss HE.out).mono ?_; clear M; rintro e w ⟨rfl, M⟩) | (go_at_call 24; refine (M.mark HE.out _).mono ?_; clear M; rintro e w ⟨rfl, M⟩) | (go_at_call 44; refine (M.word HE.out _).mono ?_; clear M; rintro e w ⟨rfl, M⟩) | (go_at_call 55; refine (M.operand HE.out).mono ?_; clear M; rintro e w ⟨rfl, M⟩) | (go_at_call 41; refine M.sees HE.out _ _ ?_ ?_ <;> (clear M; intro w hs M)) | (go_at_call 48; refine (M.fail _ (by decide)).mono ?_; clear M; rintro e w ⟨rfl, M⟩))
    all_goals rw [HR.out]
    all_goals first
      | (rw [gap_any (Dec.out (by assumption)) hs.out]; exact ⟨⟨v, _, -1⟩, rfl, M.drop.drop, fun _ => rfl⟩)
      | (rw [gap_num (Dec.out (by assumption)) hs.out]; exact ⟨⟨v, _, _⟩, rfl, M.drop.drop, fun _ => rfl⟩)
      | (rw [gap_bare hs.out]; exact ⟨⟨v, 0, -1⟩, rfl, M.drop.drop, fun _ => rfl⟩)
theorem option_any (M : Mem (RdAt b ao n cap) b u w s L) (hE : Env T b ao n cap u) :
    Calls Tryd.prog 54 #[.pointer (some ⟨b, 0, none⟩)] w (OptPost (RdAt b ao n cap) b u L (optS T s)) := by
  cases hN : nxt T s with
  | none => exact option_none M hE hN
  | some t =>
    by_cases hk : t.kind = 1
    · exact option_word M hE hN hk
    · exact option_other M hE hN hk
end
end Go.Proofs.YtobnaokknkmlcaaDoor
