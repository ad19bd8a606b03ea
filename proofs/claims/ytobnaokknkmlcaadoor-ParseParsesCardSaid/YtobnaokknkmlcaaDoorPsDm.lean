/-
  The law ParseParses walked: the program's book and the reference's are the same, and the tokens are not changed.
-/
import Derived.Test.YtobnaokknkmlcaaDoorPsCm
import Derived.Test.YtobnaokknkmlcaaDoorCopy
namespace Go.Proofs.YtobnaokknkmlcaaDoor
open Go.ChangeShapes Go.WideShapes Go.ChangeAt Go.RowKit Go.Joins Go.Deep
set_option linter.unusedVariables false
set_option linter.unusedSimpArgs false

theorem info_tok : (Tryd.prog.info? 34).map (fun i => (i.zero, i.size, i.bytes)) = some (some (.agg #[.int .i64 0, .string ByteArray.empty, .int .i64 0]), 3, 32) := by kernel_rfl
set_option maxRecDepth 100000 in
theorem open_tokens {H : Type} {enc : TypeId × Value → H} {W : World} {base : Nat} {v : Value} {d : DataW H} {ps : List MemPlace} (hv : Value.okWide Tryd.prog W .any base 22 v) (h : DataW.Trod enc Tryd.prog W 0 (fun _ => true) true 22 v d ps) (hlt : ∀ p ∈ ps, p.block < W.heap.size) (hB : ∀ q ∈ d.weights Tryd.prog 22, q ≤ reachBytes) :
    ∃ l ao n cap, v = .slice ao n cap ∧ SlF (under W.heap.size) W 3 tokF ao n cap l ∧ n * 32 ≤ 140737488355328 := by
  obtain ⟨qa, qb, qc, rfl⟩ := okWide_slice Tryd.underlying22 hv
  obtain ⟨m, ao, n, cap, e, hS, h8⟩ := open_arg opens_tokens (by simp [Value.cells]) h hlt hB
  simp only [Value.cells, List.cons.injEq, and_true, Value.slice.injEq] at e
  obtain ⟨rfl, rfl, rfl⟩ := e
  exact ⟨m, qa, qb, qc, rfl, hS, by rw [hS.len]; omega⟩
theorem parse_hg {F : Nat → Prop} {w : World} (hM : SlF F w 1 wordF (some ⟨0, 0, none⟩) 17 17 marksL) : 0 < w.heap.size := by
  obtain ⟨b, off, row, e, hF, hlt, _⟩ := hM.2.2.2.2 0 (by decide)
  injection e with e; injection e with e1 e2
  rw [e1]; exact hlt
theorem tokF_one : ∀ F w row x, tokF F w row x → ∀ u ∈ row, u.oneCell' = true := fun F w row t h u hu => by
  obtain ⟨h, _⟩ := h
  subst h
  exact ones_of (vs := [.int .i64 t.kind, .string t.text, .int .i64 t.int]) rfl u hu
set_option maxRecDepth 8000 in
set_option maxHeartbeats 4000000 in
theorem parseParses_walk (F G : Nat → Prop) (ao : Option Addr) (n cap : Nat) (l : List Tok) (w0 : World) (hL : SlF F w0 3 tokF ao n cap l) (hn : n * 32 ≤ 140737488355328) (hM : SlF G w0 1 wordF (some ⟨0, 0, none⟩) 17 17 marksL)
    (hK : SlF G w0 1 wordF (some ⟨1, 0, none⟩) 17 17 keptL) (hR : SlF G w0 1 wordF (some ⟨2, 0, none⟩) 14 14 relsL) :
    Calls Tryd.prog 3 #[.slice ao n cap] w0 fun e w' => e = .returned (.bool true) ∧ Below w0.heap.size w0 w' := by
  obtain ⟨i0, hi, hz0, hz1, hz2⟩ := info_parts info_tok
  obtain ⟨ao', cap', w', hrun, hS, hb⟩ := run_copy_to (G := from_ w0.heap.size) Tryd.underlying22 hi hz0 hz1 hz2 rfl (by omega) tokF_firm tokF_one hL hn (Nat.le_refl _) none (World.ownsRow_nil _ _ _ _) (fun b h => h) (fun _ _ h => h)
  have hg := parse_hg hM
  have HG := Lib.hid hg
  have M := (Mem.begin hg ⟨0, 0⟩).below hb
  have HP := Lib.hid (parse_any l _ G ao' n cap' w' hS (hM.below wordF_firm hb) (hK.below wordF_firm hb) (hR.below wordF_firm hb))
  have HQ : Hid (∀ wx, Below w0.heap.size w0 wx → Calls Tryd.prog 5 #[.slice ao n cap] wx (ParPost wx (parB l, parE l))) := fun wx hbx => parseOf_any l F G ao n cap wx (hL.below tokF_firm hbx) (hM.below wordF_firm hbx) (hK.below wordF_firm hbx) (hR.below wordF_firm hbx)
  generalize (parB l, parE l) = r at HP HQ
  have hsz := hb.size
  replace M := M.adopt (fnd tokF_firm) hS (fun k hk hlt => ⟨hk, hlt, fun e he => (by cases he)⟩)
  have HL := Lib.hid hL
  clear hL hM hK hR hS hg hb
  go_enter Tryd.func3, Tryd.ntmps3
  go_wp2_with (first | (at_builtin; refine wpList_append_run rfl _ _ 22 rfl rfl rfl rfl hrun ?_) | fail)
  refine HP.out.mono ?_
  rintro e w1 ⟨a1, n1, c1, a2, n2, c2, rfl, hb1, hA1, hA2⟩
  replace M := M.below hb1
  replace M := M.adopt (fnd_and (fnd typF_firm) (fnd rulF_firm)) (F := from_ w'.heap.size) ⟨hA1, hA2⟩ (fun k hk hlt => ⟨Nat.le_trans hsz hk, hlt, fun e he => by rw [List.mem_singleton.1 he]; exact fun h => by cases h⟩)
  clear hrun hb1 hA1 hA2 HP hsz
  unfold bokC
  go_wp2_with (first | ((with_reducible refine o_list rfl fun K hK => ?_); (refine q_var (L := [_, _]) M ?_; clear M; intro za w M); refine hK _ _ ?_; clear hK K) | (first | ((with_reducible refine o_list rfl fun K hK => ?_); (first | (first | refine q_all M (by rfl) ?_ | refine q_get M (by exact rfl) ?_ | refine q_part M (by rfl) (by simp only [laid, opdC, List.take_succ_cons, List.take_zero, List.drop_succ_cons, List.drop_zero, List.length_cons, List.length_nil, List.cons_append, List.nil_append, Nat.reduceAdd] <;> rfl) ?_ | refine q_ep M ?_ | refine q_ee M ?_ | refine q_et M ?_ | refine q_eo M (by assumption) (by assumption) (by assumption) ?_) | (first | ((first | refine q_setc M (by rfl) (by rfl) ?_ | refine q_set M (by rfl) (by rfl) ?_ | refine q_put M (by rfl) (by rfl) (by rfl) ?_ | refine q_in M (by rfl) (by rfl) (by rfl) ?_); clear M; intro w M; (try simp only [List.set_cons_zero, List.set_cons_succ, laid, opdC, List.take_succ_cons, List.take_zero, List.drop_succ_cons, List.drop_zero, List.length_cons, List.length_nil, List.cons_append, List.nil_append, Nat.reduceAdd, Nat.zero_add] at M)) | (refine q_eadv M ?_; clear M; intro w M) | (refine q_eset M ?_; clear M; intro w M)) | (refine q_var M ?_; clear M; intro z w M) | (refine q_row M (by rfl) ?_; clear M; intro q w M)); refine hK _ _ ?_; clear hK K) | ((with_reducible refine o_listg fun K hK => ?_); (first | (first | refine q_all M (by rfl) ?_ | refine q_get M (by exact rfl) ?_ | refine q_part M (by rfl) (by simp only [laid, opdC, List.take_succ_cons, List.take_zero, List.drop_succ_cons, List.drop_zero, List.length_cons, List.length_nil, List.cons_append, List.nil_append, Nat.reduceAdd] <;> rfl) ?_ | refine q_ep M ?_ | refine q_ee M ?_ | refine q_et M ?_ | refine q_eo M (by assumption) (by assumption) (by assumption) ?_)); refine hK _ _ ?_; clear hK K) | (with_reducible refine o_skipT ?_) | (with_reducible refine o_skipF ?_)))
  refine (HQ.out _ M.new).mono ?_
  rintro e w2 ⟨b1, m1, d1, b2, m2, d2, rfl, hb2, hB1, hB2⟩
  have hz := (M.ne (z := za) (List.mem_cons_self ..)).2.2
  have hsz := M.size
  replace M := M.below hb2
  replace M := M.adopt (fnd_and (fnd typF_firm) (fnd rulF_firm)) (F := from_ w.heap.size) ⟨hB1, hB2⟩ (fun k hk hlt => ⟨Nat.le_trans hsz hk, hlt, fun e he => by
    have hk' : w.heap.size ≤ k := hk
    simp only [List.mem_cons, List.not_mem_nil, or_false] at he
    rcases he with rfl | rfl | rfl
    · intro h; injection h with h; omega
    · intro h; cases h
    · intro h; cases h⟩)
  clear hb2 hB1 hB2 HQ hz hsz
  unfold bokC
  go_wp2_with (first | (first | ((with_reducible refine o_list rfl fun K hK => ?_); (first | (first | refine q_all M (by rfl) ?_ | refine q_get M (by exact rfl) ?_ | refine q_part M (by rfl) (by simp only [laid, opdC, List.take_succ_cons, List.take_zero, List.drop_succ_cons, List.drop_zero, List.length_cons, List.length_nil, List.cons_append, List.nil_append, Nat.reduceAdd] <;> rfl) ?_ | refine q_ep M ?_ | refine q_ee M ?_ | refine q_et M ?_ | refine q_eo M (by assumption) (by assumption) (by assumption) ?_) | (first | ((first | refine q_setc M (by rfl) (by rfl) ?_ | refine q_set M (by rfl) (by rfl) ?_ | refine q_put M (by rfl) (by rfl) (by rfl) ?_ | refine q_in M (by rfl) (by rfl) (by rfl) ?_); clear M; intro w M; (try simp only [List.set_cons_zero, List.set_cons_succ, laid, opdC, List.take_succ_cons, List.take_zero, List.drop_succ_cons, List.drop_zero, List.length_cons, List.length_nil, List.cons_append, List.nil_append, Nat.reduceAdd, Nat.zero_add] at M)) | (refine q_eadv M ?_; clear M; intro w M) | (refine q_eset M ?_; clear M; intro w M)) | (refine q_var M ?_; clear M; intro z w M) | (refine q_row M (by rfl) ?_; clear M; intro q w M)); refine hK _ _ ?_; clear hK K) | ((with_reducible refine o_listg fun K hK => ?_); (first | (first | refine q_all M (by rfl) ?_ | refine q_get M (by exact rfl) ?_ | refine q_part M (by rfl) (by simp only [laid, opdC, List.take_succ_cons, List.take_zero, List.drop_succ_cons, List.drop_zero, List.length_cons, List.length_nil, List.cons_append, List.nil_append, Nat.reduceAdd] <;> rfl) ?_ | refine q_ep M ?_ | refine q_ee M ?_ | refine q_et M ?_ | refine q_eo M (by assumption) (by assumption) (by assumption) ?_)); refine hK _ _ ?_; clear hK K) | (with_reducible refine o_skipT ?_) | (with_reducible refine o_skipF ?_)) | (go_at_call 6; refine (sameBook_yes 0 r.1.types r.1.rules _ _ a1 n1 c1 a2 n2 c2 b1 m1 d1 b2 m2 d2 _ (Nat.lt_of_lt_of_le HG.out M.new.size) (show _ ∧ _ from M.dat_ (i := 3) rfl).1 (show _ ∧ _ from M.dat_ (i := 3) rfl).2 (show _ ∧ _ from M.dat_ (i := 1) rfl).1 (show _ ∧ _ from M.dat_ (i := 1) rfl).2).mono ?_; rintro e w3 ⟨rfl, hb3⟩; replace M := M.below hb3; clear hb3) | (go_at_call 7; refine (sameTokens_yes _ _ ao' n cap' ao n cap l _ (show SlF _ _ 3 tokF ao' n cap' l from M.dat_ (i := 4) rfl) (HL.out.below tokF_firm M.new)).mono ?_; rintro e w3 ⟨rfl, hb3⟩; replace M := M.below hb3; clear hb3))
  go_ret
  exact ⟨rfl, M.new⟩
end Go.Proofs.YtobnaokknkmlcaaDoor
