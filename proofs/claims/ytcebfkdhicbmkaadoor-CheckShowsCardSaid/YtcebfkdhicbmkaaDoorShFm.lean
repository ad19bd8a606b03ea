/-
  A rule as tokens (the reference). Printed by shf.py.
-/
import Derived.Test.YtcebfkdhicbmkaaDoorShBE
import Derived.Test.YtcebfkdhicbmkaaDoorShUm
namespace Go.Proofs.YtcebfkdhicbmkaaDoor
open Go.RowKit
set_option linter.unusedVariables false
set_option linter.unusedSimpArgs false

theorem em_facts {s : ByteArray} (h : emS s = true) : s.toList.isEmpty = true ∧ (s.toList != (⟨#[]⟩ : ByteArray).toList) = false ∧ (s.toList == (⟨#[]⟩ : ByteArray).toList) = true := by
  have hf : s.toList = [] := by simpa [emS] using h
  exact ⟨by rw [hf]; rfl, by rw [hf, ByteArray.toList_eq]; rfl, by rw [hf, ByteArray.toList_eq]; rfl⟩
theorem nm_facts {s : ByteArray} (h : Nm s) : emS s = false ∧ s.toList.isEmpty = false ∧ (s.toList != (⟨#[]⟩ : ByteArray).toList) = true ∧ (s.toList == (⟨#[]⟩ : ByteArray).toList) = false := by
  have hp : 0 < s.data.size := h.pos
  have hl : s.toList ≠ [] := fun e => by
    rw [ByteArray.toList_eq] at e
    rw [← Array.length_toList, e] at hp
    exact absurd hp (by simp)
  have hn : (⟨#[]⟩ : ByteArray).toList = [] := by rw [ByteArray.toList_eq]
  rw [hn]
  unfold emS
  cases h2 : s.toList with
  | nil => exact absurd h2 hl
  | cons a b => simp
theorem relk {k : Int} (h0 : 1 ≤ k) (h1 : k ≤ 13) : SpkI (relT k) [wordT (relT k)] := by
  obtain ⟨n, rfl⟩ : ∃ n : Nat, k = (n : Int) := ⟨k.toNat, by omega⟩
  have : n = 1 ∨ n = 2 ∨ n = 3 ∨ n = 4 ∨ n = 5 ∨ n = 6 ∨ n = 7 ∨ n = 8 ∨ n = 9 ∨ n = 10 ∨ n = 11 ∨ n = 12 ∨ n = 13 := by omega
  rcases this with rfl | rfl | rfl | rfl | rfl | rfl | rfl | rfl | rfl | rfl | rfl | rfl | rfl <;> exact ⟨rfl, by decide⟩
/-- The reference's list of relations, made anew. -/
def tkw (q : Nat) : Ent := dat fun F w => SlF F w 1 wordF (some ⟨q, 0, none⟩) 14 14 relsL
section
variable {At : PS → World → Prop} {b : Nat} {u w : World} {s : PS} {L : List Ent}
theorem Mem.relm (M : Mem At b u w s L) : Calls Tryd.prog 30 #[] w fun e w' => ∃ q, e = .returned (.slice (some ⟨q, 0, none⟩) 14 14) ∧ Mem At b u w' s (tkw q :: L) :=
  (relWords_any w).mono fun e w' ⟨h1, h2, h3⟩ => ⟨_, h1, (M.below h2).adopt (fnd wordF_firm) h3 fun k hk hlt => ⟨Nat.le_trans M.size hk, hlt, fun e he hz => Nat.lt_irrefl _ (Nat.lt_of_lt_of_le (M.low e he k hz).2 hk)⟩⟩
theorem Mem.relc {q rk : Nat} {k : Int} (M : Mem At b u w s (tkw q :: L)) (hk : k = rk) (h : rk < 14) : w.cell? ⟨q, rk, none⟩ = some (.string (relT k)) := by
  have X : SlF _ w 1 wordF (some ⟨q, 0, none⟩) 14 14 relsL := M.dat_ (i := 0) rfl
  subst hk
  have h' : rk < relsL.length := h
  obtain ⟨c, o, row, h1, -, -, h2, h3⟩ := X.2.2.2.2 rk h'
  injection h1 with h1
  injection h1 with e1 e2
  subst e1 e2
  have h4 : row = [Value.string relsL[rk]] := h3
  subst h4
  have h5 := h2.2 0 (by omega)
  have e : relT (rk : Int) = relsL[rk] := by
    unfold relT
    rw [Int.toNat_natCast, List.getD, List.getElem?_eq_getElem h']
    rfl
  rw [Nat.mul_one, Nat.add_zero, Nat.zero_add] at h5
  rw [h5, e]
  rfl
theorem rel_ix {k : Nat} (h0 : 1 ≤ (k : Int)) (h1 : (k : Int) ≤ 13) (q : Nat) (wx : World) : (Instr.indexAt 60 (.slice (some ⟨q, 0, none⟩) 14 14) (.int .i64 k)).run Tryd.prog wx = .ok (.pointer (some ⟨q, k, none⟩)) wx := by
  have hsw := size_str wx
  simp [Instr.indexAt, run_underlying Tryd.underlying60, asIntOf, hsw, Addr.add]
  rw [if_pos (by omega)]
  simp [show k ≠ 0 by omega]
theorem Mem.tkr {a : Option Addr} {n c : Nat} {ts b' : List Tkn} (M : Mem At b u w s (tkd a n c ts :: L)) (h : b' = ts) : Mem At b u w s (tkd a n c b' :: L) := h ▸ M
end
section
variable {F : Nat → Prop} {g : Nat} {w0 : World} {x : Rul} {b1 b2 b3 b4 b6 : Option Addr} {m1 e1 m2 e2 m3 e3 m4 e4 m6 e6 : Nat}
set_option maxRecDepth 8000 in
set_option maxHeartbeats 64000000 in
theorem rule_ref (hg : g < w0.heap.size) (hx : RulSh x) (Y1 : SlF F w0 18 patF b1 m1 e1 x.whens) (Y2 : SlF F w0 18 patF b2 m2 e2 x.nots) (Y3 : SlF F w0 20 manF b3 m3 e3 x.manies) (Y4 : SlF F w0 3 lnkF b4 m4 e4 x.links) (Y6 : SlF F w0 6 opdF b6 m6 e6 x.evals) : Calls Tryd.prog 13 #[.agg #[.string x.name, .slice b1 m1 e1, .slice b2 m2 e2, .slice b3 m3 e3, .slice b4 m4 e4, .string x.etype, .slice b6 m6 e6]] w0 (TkP w0 (shRule x)) := by
  have M := Mem.begin hg ⟨0, 0⟩
  have HX := Lib.hid hx
  have HY1 := Lib.hid Y1
  have hl1 := Y1.le
  have HY2 := Lib.hid Y2
  have hl2 := Y2.le
  have HY3 := Lib.hid Y3
  have hl3 := Y3.le
  have HY4 := Lib.hid Y4
  have hl4 := Y4.le
  have HY6 := Lib.hid Y6
  have hl6 := Y6.le
  have N1 : Hid (m1 = x.whens.length) := Y1.len
  have N2 : Hid (m2 = x.nots.length) := Y2.len
  have N3 : Hid (m3 = x.manies.length) := Y3.len
  have N4 : Hid (m4 = x.links.length) := Y4.len
  have N6 : Hid (m6 = x.evals.length) := Y6.len
  have S0 : SpkI (⟨#[114, 117, 108, 101, 32]⟩ ++ x.name ++ ⟨#[32, 123]⟩) [wordT ⟨#[114, 117, 108, 101]⟩, wordT x.name, wordT ⟨#[123]⟩] := spk_in hx.name [114, 117, 108, 101] [123] (by decide) (by decide)
  have z1 : (5 : Nat) + x.name.size ≤ 9223372036854775807 := by have := hx.name.few; omega
  have z2 : (5 : Nat) + x.name.size + 2 ≤ 9223372036854775807 := by have := hx.name.few; omega
  clear hx Y1 Y2 Y3 Y4 Y6 hg
  obtain ⟨T0, hT0⟩ : ∃ T0, T0 = [wordT ⟨#[114, 117, 108, 101]⟩, wordT x.name, wordT ⟨#[123]⟩] := ⟨_, rfl⟩
  have HT0 := Lib.hid hT0
  have HT0L : Hid (T0.length ≤ 3) := by show _ ≤ _; rw [hT0]; simp
  clear hT0
  go_enter Tryd.func13, Tryd.ntmps13
  go_wp2_with (first | (go_at_call 12; with_reducible refine (spkI M).mono ?_; clear M; rintro e w ⟨ta, tn, tc, rfl, M⟩) | (with_reducible (first | (refine wB (L := []) M ?_; clear M; intro zb w1 M) | refine wq M ?_ | (refine wS M ?_; clear M; intro w M) | (refine wV M ?_; clear M; intro z w M) | (refine wR M ?_; clear M; intro q w M))))
  replace M := M.tkr (b' := T0) (by rw [HT0.out])
  go_loopg [3, 4] m1 (fun fu v i wr => ∃ (j : Nat) (a : Option Addr) (m c : Nat) (ts : List Tkn), j + fu = m1 ∧ v = .slice a m c ∧ i = .int .i64 j ∧ Mem (StaysB g w0) g w0 wr ⟨0, 0⟩ (tkd a m c ts :: own zb [.string x.name, .slice b1 m1 e1, .slice b2 m2 e2, .slice b3 m3 e3, .slice b4 m4 e4, .string x.etype, .slice b6 m6 e6] 50 :: []) ∧ Hid (ts = T0 ++ shCat whenT (x.whens.take j)))
  case atStart => exact ⟨0, _, _, _, T0, by omega, rfl, rfl, M, Lib.hid (by simp [shCat_nil])⟩
  case round =>
    clear M
    obtain ⟨j, a5, m5, c5, ts, hj, rfl, rfl, M, HT⟩ := hrel
    by_cases hlt : j < m1
    · have hjl : j < x.whens.length := by have := N1.out; omega
      obtain ⟨cp, op, rowp, hixp, -, hrrp, hwp⟩ := SlF.rowAt (P := Tryd.prog) HY1.out patF_firm Tryd.underlying43 size_pat (i := j) hjl
      obtain ⟨a2, n2, c2, ep, hS2⟩ := patF.open18 hrrp
      subst ep
      have HRP := Lib.hid (fun wx hb => (hwp wx hb).1)
      obtain ⟨TN, hTN⟩ : ∃ TN, TN = T0 ++ shCat whenT (x.whens.take (j + 1)) := ⟨_, rfl⟩
      have HTN := Lib.hid hTN
      have HTS : Hid (TN = ts ++ whenT j x.whens[j]) := by show _ = _; rw [hTN, shCat_snoc hjl, HT.out, List.append_assoc]
      have hts : ts.length ≤ 3100 := by have h1 := take_cat_le (f := whenT) (l := x.whens) (K := 1010) (n := 3) (j := j) (fun i p hp => whenT_le (HX.out.whens p hp).2.1) HX.out.nW; have h2 := congrArg List.length HT.out; rw [List.length_append] at h2; have := HT0L.out; omega
      clear hTN HT
      obtain ⟨hps, hpl, hw0, hw2, hn⟩ := HX.out.whens _ (List.getElem_mem hjl)
      have HTP : Hid (∀ wx, g < wx.heap.size → Below w0.heap.size w0 wx → Calls Tryd.prog 28 #[.agg (pat18 x.whens[j] a2 n2 c2).toArray] wx (TkP wx (shPat x.whens[j]))) := fun wx h hb => pattern_ref h _ hps (hS2.below condF_firm hb) (by omega)
      unfold whenT at HTS
      unfold pat18 at HRP HTP
      clear hrrp hwp hS2 hps
      generalize shPat x.whens[j] = tp at HTP HTS hpl
      generalize x.whens[j] = p at HRP HTP HTS hw0 hw2 hn
      clear hjl
      have : NumI p.n := ⟨hn⟩
      have hnl := shNum_le p.n
      have hw : p.window = 0 ∨ p.window = 1 ∨ p.window = 2 := by omega
      clear hw0 hw2 hn
      rcases hw with hw | hw | hw
      · rw [hw] at HRP HTP HTS
        clear hw
        go_upto_region 6 with (first | ((with_reducible refine o_list rfl fun K hK => ?_); refine q_in M (by rfl) (by rfl) (by rfl) ?_; clear M; intro w M; (try simp only [List.set_cons_zero, List.set_cons_succ, laid, opdC, List.take_succ_cons, List.take_zero, List.drop_succ_cons, List.drop_zero, List.length_cons, List.length_nil, List.cons_append, List.nil_append, Nat.reduceAdd, Nat.zero_add] at M); refine hK _ _ ?_; clear hK K) | (with_reducible (first | (refine wV M ?_; clear M; intro zx w M) | refine wA (HRP.out _ M.new) ?_ | refine wq M ?_ | (refine wS M ?_; clear M; intro w M) | (refine wV M ?_; clear M; intro z w M) | (refine wR M ?_; clear M; intro q w M))))
        replace M := M.swap
        ((refine wp_region_first [0, 2] [1, 3, 4, 5, 6] (fun _ M => M.drop) M (by kernel_rfl) (by kernel_rfl) (fun _ _ _ _ _ h => h) ?_); clear M; intro w M; (repeat ((with_reducible refine r_list rfl fun K hK => ?_); (first | (refine r_load (l' := ?_) ⟨_, M.kept⟩ (fun w M => ?_) ?_; rotate_left; focus ((first | refine q_get M (by exact rfl) ?_ | refine q_all M (by rfl) ?_ | refine q_prt M (by rfl) ?_); refine ⟨rfl, ?_⟩; with_reducible rfl)) | (refine r_pure (v := ?_) rfl (fun w => ?_) ?_; rotate_left; focus (go_simp; try with_reducible rfl))); (try go_simp); with_reducible refine hK _ ?_; clear hK K)); (with_reducible refine r_nil ?_); (repeat ((with_reducible refine s_step rfl rfl fun K hK => ?_); (first | ((refine owp_of ?_; go_simp; (go_at_call 28; with_reducible refine (HTP.out _ M.gt M.new).mono ?_; rintro e w h5; replace M := M.tkq h5; clear h5; obtain ⟨ta, tn, tc, rfl, M⟩ := M))) | ((refine owp_of ?_; go_simp; (go_at_call 12; with_reducible refine (spkI M).mono ?_; clear M; rintro e w ⟨ta, tn, tc, rfl, M⟩))) | ((refine owp_of ?_; go_simp; (go_at_call 11; (with_reducible refine (tkn ?_ M).mono ?_); (focus (refine ⟨?_, by decide⟩; simp only [List.flatten_cons, List.flatten_nil, List.length_append, List.length_cons, List.length_nil]; omega)); clear M; rintro e w ⟨ta, tn, tc, rfl, M⟩))) | ((refine q_rows M ?_; clear M; intro q w M)) | (refine owp_of ?_; go_simp)); (try go_simp); with_reducible refine hK _ _ M.kept ?_; clear hK K)); (with_reducible refine s_nil ?_))
        go_wp2_with (first | (go_at_call 12; with_reducible refine (spkI M).mono ?_; clear M; rintro e w ⟨ta, tn, tc, rfl, M⟩) | (go_at_call 11; (with_reducible refine (tkn ?_ M).mono ?_); (focus (refine ⟨?_, by decide⟩; simp only [List.flatten_cons, List.flatten_nil, List.length_append, List.length_cons, List.length_nil]; omega)); clear M; rintro e w ⟨ta, tn, tc, rfl, M⟩) | (with_reducible (first | (refine w_ (q_rows M ?_); clear M; intro q w M) | refine wq M ?_ | (refine wS M ?_; clear M; intro w M) | (refine wV M ?_; clear M; intro z w M) | (refine wR M ?_; clear M; intro q w M))))
        go_roundg (m1 - (j + 1))
        case measure => omega
        case rel => exact ⟨j + 1, _, _, _, _, by omega, rfl, by go_num, M.skip, Lib.hid (by rw [← HTN.out, HTS.out]; simp [winW])⟩
      · rw [hw] at HRP HTP HTS
        clear hw
        go_upto_region 6 with (first | ((with_reducible refine o_list rfl fun K hK => ?_); refine q_in M (by rfl) (by rfl) (by rfl) ?_; clear M; intro w M; (try simp only [List.set_cons_zero, List.set_cons_succ, laid, opdC, List.take_succ_cons, List.take_zero, List.drop_succ_cons, List.drop_zero, List.length_cons, List.length_nil, List.cons_append, List.nil_append, Nat.reduceAdd, Nat.zero_add] at M); refine hK _ _ ?_; clear hK K) | (with_reducible (first | (refine wV M ?_; clear M; intro zx w M) | refine wA (HRP.out _ M.new) ?_ | refine wq M ?_ | (refine wS M ?_; clear M; intro w M) | (refine wV M ?_; clear M; intro z w M) | (refine wR M ?_; clear M; intro q w M))))
        replace M := M.swap
        ((refine wp_region_first [0, 2] [1, 3, 4, 5, 6] (fun _ M => M.drop) M (by kernel_rfl) (by kernel_rfl) (fun _ _ _ _ _ h => h) ?_); clear M; intro w M; (repeat ((with_reducible refine r_list rfl fun K hK => ?_); (first | (refine r_load (l' := ?_) ⟨_, M.kept⟩ (fun w M => ?_) ?_; rotate_left; focus ((first | refine q_get M (by exact rfl) ?_ | refine q_all M (by rfl) ?_ | refine q_prt M (by rfl) ?_); refine ⟨rfl, ?_⟩; with_reducible rfl)) | (refine r_pure (v := ?_) rfl (fun w => ?_) ?_; rotate_left; focus (go_simp; try with_reducible rfl))); (try go_simp); with_reducible refine hK _ ?_; clear hK K)); (with_reducible refine r_nil ?_); (repeat ((with_reducible refine s_step rfl rfl fun K hK => ?_); (first | ((refine owp_of ?_; go_simp; (go_at_call 28; with_reducible refine (HTP.out _ M.gt M.new).mono ?_; rintro e w h5; replace M := M.tkq h5; clear h5; obtain ⟨ta, tn, tc, rfl, M⟩ := M))) | ((refine owp_of ?_; go_simp; (go_at_call 12; with_reducible refine (spkI M).mono ?_; clear M; rintro e w ⟨ta, tn, tc, rfl, M⟩))) | ((refine owp_of ?_; go_simp; (go_at_call 11; (with_reducible refine (tkn ?_ M).mono ?_); (focus (refine ⟨?_, by decide⟩; simp only [List.flatten_cons, List.flatten_nil, List.length_append, List.length_cons, List.length_nil]; omega)); clear M; rintro e w ⟨ta, tn, tc, rfl, M⟩))) | ((refine q_rows M ?_; clear M; intro q w M)) | (refine owp_of ?_; go_simp)); (try go_simp); with_reducible refine hK _ _ M.kept ?_; clear hK K)); (with_reducible refine s_nil ?_))
        go_upto_region 8 with (first | (with_reducible (first | refine wq M ?_ | (refine wS M ?_; clear M; intro w M) | (refine wV M ?_; clear M; intro z w M) | (refine wR M ?_; clear M; intro q w M))))
        ((refine wp_region_first [0, 2, 3] [1, 4, 5, 6, 7] (fun _ M => M.drop) M (by kernel_rfl) (by kernel_rfl) (fun _ _ _ _ _ h => h) ?_); clear M; intro w M; (repeat ((with_reducible refine r_list rfl fun K hK => ?_); (first | (refine r_load (l' := ?_) ⟨_, M.kept⟩ (fun w M => ?_) ?_; rotate_left; focus ((first | refine q_get M (by exact rfl) ?_ | refine q_all M (by rfl) ?_ | refine q_prt M (by rfl) ?_); refine ⟨rfl, ?_⟩; with_reducible rfl)) | (refine r_pure (v := ?_) rfl (fun w => ?_) ?_; rotate_left; focus (go_simp; try with_reducible rfl))); (try go_simp); with_reducible refine hK _ ?_; clear hK K)); (with_reducible refine r_nil ?_); (repeat ((with_reducible refine s_step rfl rfl fun K hK => ?_); (first | ((refine owp_of ?_; go_simp; (go_at_call 12; with_reducible refine (spkI M).mono ?_; clear M; rintro e w ⟨ta, tn, tc, rfl, M⟩))) | ((refine owp_of ?_; go_simp; (go_at_call 29; with_reducible refine (numI M).mono ?_; clear M; rintro e w ⟨ta, tn, tc, rfl, M⟩))) | ((refine owp_of ?_; go_simp; (go_at_call 11; (with_reducible refine (tkn ?_ M).mono ?_); (focus (refine ⟨?_, by decide⟩; simp only [List.flatten_cons, List.flatten_nil, List.length_append, List.length_cons, List.length_nil]; omega)); clear M; rintro e w ⟨ta, tn, tc, rfl, M⟩))) | ((refine q_rows M ?_; clear M; intro q w M)) | (refine owp_of ?_; go_simp)); (try go_simp); with_reducible refine hK _ _ M.kept ?_; clear hK K)); (with_reducible refine s_nil ?_))
        go_wp2_with (first | (go_at_call 12; with_reducible refine (spkI M).mono ?_; clear M; rintro e w ⟨ta, tn, tc, rfl, M⟩) | (go_at_call 11; (with_reducible refine (tkn ?_ M).mono ?_); (focus (refine ⟨?_, by decide⟩; simp only [List.flatten_cons, List.flatten_nil, List.length_append, List.length_cons, List.length_nil]; omega)); clear M; rintro e w ⟨ta, tn, tc, rfl, M⟩) | (with_reducible (first | (refine w_ (q_rows M ?_); clear M; intro q w M) | refine wq M ?_ | (refine wS M ?_; clear M; intro w M) | (refine wV M ?_; clear M; intro z w M) | (refine wR M ?_; clear M; intro q w M))))
        go_roundg (m1 - (j + 1))
        case measure => omega
        case rel => exact ⟨j + 1, _, _, _, _, by omega, rfl, by go_num, M.skip, Lib.hid (by rw [← HTN.out, HTS.out]; simp [winW])⟩
      · rw [hw] at HRP HTP HTS
        clear hw
        go_upto_region 6 with (first | ((with_reducible refine o_list rfl fun K hK => ?_); refine q_in M (by rfl) (by rfl) (by rfl) ?_; clear M; intro w M; (try simp only [List.set_cons_zero, List.set_cons_succ, laid, opdC, List.take_succ_cons, List.take_zero, List.drop_succ_cons, List.drop_zero, List.length_cons, List.length_nil, List.cons_append, List.nil_append, Nat.reduceAdd, Nat.zero_add] at M); refine hK _ _ ?_; clear hK K) | (with_reducible (first | (refine wV M ?_; clear M; intro zx w M) | refine wA (HRP.out _ M.new) ?_ | refine wq M ?_ | (refine wS M ?_; clear M; intro w M) | (refine wV M ?_; clear M; intro z w M) | (refine wR M ?_; clear M; intro q w M))))
        replace M := M.swap
        ((refine wp_region_first [0, 2] [1, 3, 4, 5, 6] (fun _ M => M.drop) M (by kernel_rfl) (by kernel_rfl) (fun _ _ _ _ _ h => h) ?_); clear M; intro w M; (repeat ((with_reducible refine r_list rfl fun K hK => ?_); (first | (refine r_load (l' := ?_) ⟨_, M.kept⟩ (fun w M => ?_) ?_; rotate_left; focus ((first | refine q_get M (by exact rfl) ?_ | refine q_all M (by rfl) ?_ | refine q_prt M (by rfl) ?_); refine ⟨rfl, ?_⟩; with_reducible rfl)) | (refine r_pure (v := ?_) rfl (fun w => ?_) ?_; rotate_left; focus (go_simp; try with_reducible rfl))); (try go_simp); with_reducible refine hK _ ?_; clear hK K)); (with_reducible refine r_nil ?_); (repeat ((with_reducible refine s_step rfl rfl fun K hK => ?_); (first | ((refine owp_of ?_; go_simp; (go_at_call 28; with_reducible refine (HTP.out _ M.gt M.new).mono ?_; rintro e w h5; replace M := M.tkq h5; clear h5; obtain ⟨ta, tn, tc, rfl, M⟩ := M))) | ((refine owp_of ?_; go_simp; (go_at_call 12; with_reducible refine (spkI M).mono ?_; clear M; rintro e w ⟨ta, tn, tc, rfl, M⟩))) | ((refine owp_of ?_; go_simp; (go_at_call 11; (with_reducible refine (tkn ?_ M).mono ?_); (focus (refine ⟨?_, by decide⟩; simp only [List.flatten_cons, List.flatten_nil, List.length_append, List.length_cons, List.length_nil]; omega)); clear M; rintro e w ⟨ta, tn, tc, rfl, M⟩))) | ((refine q_rows M ?_; clear M; intro q w M)) | (refine owp_of ?_; go_simp)); (try go_simp); with_reducible refine hK _ _ M.kept ?_; clear hK K)); (with_reducible refine s_nil ?_))
        go_upto_region 10 with (first | (with_reducible (first | refine wq M ?_ | (refine wS M ?_; clear M; intro w M) | (refine wV M ?_; clear M; intro z w M) | (refine wR M ?_; clear M; intro q w M))))
        ((refine wp_region_first [0, 2, 3] [1, 4, 5, 6, 7] (fun _ M => M.drop) M (by kernel_rfl) (by kernel_rfl) (fun _ _ _ _ _ h => h) ?_); clear M; intro w M; (repeat ((with_reducible refine r_list rfl fun K hK => ?_); (first | (refine r_load (l' := ?_) ⟨_, M.kept⟩ (fun w M => ?_) ?_; rotate_left; focus ((first | refine q_get M (by exact rfl) ?_ | refine q_all M (by rfl) ?_ | refine q_prt M (by rfl) ?_); refine ⟨rfl, ?_⟩; with_reducible rfl)) | (refine r_pure (v := ?_) rfl (fun w => ?_) ?_; rotate_left; focus (go_simp; try with_reducible rfl))); (try go_simp); with_reducible refine hK _ ?_; clear hK K)); (with_reducible refine r_nil ?_); (repeat ((with_reducible refine s_step rfl rfl fun K hK => ?_); (first | ((refine owp_of ?_; go_simp; (go_at_call 12; with_reducible refine (spkI M).mono ?_; clear M; rintro e w ⟨ta, tn, tc, rfl, M⟩))) | ((refine owp_of ?_; go_simp; (go_at_call 29; with_reducible refine (numI M).mono ?_; clear M; rintro e w ⟨ta, tn, tc, rfl, M⟩))) | ((refine owp_of ?_; go_simp; (go_at_call 11; (with_reducible refine (tkn ?_ M).mono ?_); (focus (refine ⟨?_, by decide⟩; simp only [List.flatten_cons, List.flatten_nil, List.length_append, List.length_cons, List.length_nil]; omega)); clear M; rintro e w ⟨ta, tn, tc, rfl, M⟩))) | ((refine q_rows M ?_; clear M; intro q w M)) | (refine owp_of ?_; go_simp)); (try go_simp); with_reducible refine hK _ _ M.kept ?_; clear hK K)); (with_reducible refine s_nil ?_))
        go_wp2_with (first | (go_at_call 12; with_reducible refine (spkI M).mono ?_; clear M; rintro e w ⟨ta, tn, tc, rfl, M⟩) | (go_at_call 11; (with_reducible refine (tkn ?_ M).mono ?_); (focus (refine ⟨?_, by decide⟩; simp only [List.flatten_cons, List.flatten_nil, List.length_append, List.length_cons, List.length_nil]; omega)); clear M; rintro e w ⟨ta, tn, tc, rfl, M⟩) | (with_reducible (first | (refine w_ (q_rows M ?_); clear M; intro q w M) | refine wq M ?_ | (refine wS M ?_; clear M; intro w M) | (refine wV M ?_; clear M; intro z w M) | (refine wR M ?_; clear M; intro q w M))))
        go_roundg (m1 - (j + 1))
        case measure => omega
        case rel => exact ⟨j + 1, _, _, _, _, by omega, rfl, by go_num, M.skip, Lib.hid (by rw [← HTN.out, HTS.out]; simp [winW])⟩
    · have hte : ts = T0 ++ shCat whenT x.whens := by rw [HT.out, List.take_of_length_le (by have := N1.out; omega)]
      have HT1L : Hid (ts.length ≤ 3100) := by show _ ≤ _; have h1 := shCat_le (f := whenT) (l := x.whens) (K := 1010) (fun i p hp => whenT_le (HX.out.whens p hp).2.1); have h3 := HX.out.nW; rw [hte, List.length_append]; have := HT0L.out; omega
      have HT1 := Lib.hid hte
      clear hte HT
      obtain ⟨T1, rfl⟩ : ∃ q, q = ts := ⟨_, rfl⟩
      go_wp2_with (first | (with_reducible (first | refine wq M ?_ | (refine wS M ?_; clear M; intro w M) | (refine wV M ?_; clear M; intro z w M) | (refine wR M ?_; clear M; intro q w M))))
      go_loopg [3, 6] m2 (fun fu v i wr => ∃ (j : Nat) (a : Option Addr) (m c : Nat) (ts : List Tkn), j + fu = m2 ∧ v = .slice a m c ∧ i = .int .i64 j ∧ Mem (StaysB g w0) g w0 wr ⟨0, 0⟩ (tkd a m c ts :: own zb [.string x.name, .slice b1 m1 e1, .slice b2 m2 e2, .slice b3 m3 e3, .slice b4 m4 e4, .string x.etype, .slice b6 m6 e6] 50 :: []) ∧ Hid (ts = T1 ++ shCat notT (x.nots.take j)))
      case atStart => exact ⟨0, _, _, _, T1, by omega, rfl, rfl, M, Lib.hid (by simp [shCat_nil])⟩
      case round =>
        clear M
        obtain ⟨j, a5, m5, c5, ts, hj, rfl, rfl, M, HT⟩ := hrel
        by_cases hlt : j < m2
        · have hjl : j < x.nots.length := by have := N2.out; omega
          obtain ⟨cp, op, rowp, hixp, -, hrrp, hwp⟩ := SlF.rowAt (P := Tryd.prog) HY2.out patF_firm Tryd.underlying43 size_pat (i := j) hjl
          obtain ⟨a2, n2, c2, ep, hS2⟩ := patF.open18 hrrp
          subst ep
          have HRP := Lib.hid (fun wx hb => (hwp wx hb).1)
          obtain ⟨TN, hTN⟩ : ∃ TN, TN = T1 ++ shCat notT (x.nots.take (j + 1)) := ⟨_, rfl⟩
          have HTN := Lib.hid hTN
          have HTS : Hid (TN = ts ++ notT j x.nots[j]) := by show _ = _; rw [hTN, shCat_snoc hjl, HT.out, List.append_assoc]
          have hts : ts.length ≤ 6000 := by have h1 := take_cat_le (f := notT) (l := x.nots) (K := 1010) (n := 2) (j := j) (fun i p hp => notT_le (HX.out.nots p hp).2) HX.out.nN; have h2 := congrArg List.length HT.out; rw [List.length_append] at h2; have := HT1L.out; omega
          clear hTN HT
          obtain ⟨hps, hpl⟩ := HX.out.nots _ (List.getElem_mem hjl)
          have HTP : Hid (∀ wx, g < wx.heap.size → Below w0.heap.size w0 wx → Calls Tryd.prog 28 #[.agg (pat18 x.nots[j] a2 n2 c2).toArray] wx (TkP wx (shPat x.nots[j]))) := fun wx h hb => pattern_ref h _ hps (hS2.below condF_firm hb) (by omega)
          unfold notT at HTS
          unfold pat18 at HRP HTP
          clear hrrp hwp hS2 hps
          generalize shPat x.nots[j] = tp at HTP HTS hpl
          generalize x.nots[j] = p at HRP HTP HTS
          clear hjl
          go_upto_region 15 with (first | (with_reducible (first | refine wq M ?_ | (refine wS M ?_; clear M; intro w M) | (refine wV M ?_; clear M; intro z w M) | (refine wR M ?_; clear M; intro q w M))))
          ((refine wp_region_first [0, 2, 3, 4, 5, 6] [1, 7, 8, 9, 10, 11] (fun _ M => M.drop) M (by kernel_rfl) (by kernel_rfl) (fun _ _ _ _ _ h => h) ?_); clear M; intro w M; (repeat ((with_reducible refine r_list rfl fun K hK => ?_); (first | (refine r_load (l' := ?_) ⟨_, M.kept⟩ (fun w M => ?_) ?_; rotate_left; focus ((first | (refine q_at (HRP.out _ M.new) (by rfl) ?_) | refine q_get M (by exact rfl) ?_ | refine q_all M (by rfl) ?_ | refine q_prt M (by rfl) ?_); refine ⟨rfl, ?_⟩; with_reducible rfl)) | (refine r_pure (v := ?_) rfl (fun w => ?_) ?_; rotate_left; focus (go_simp; try with_reducible rfl))); (try go_simp); with_reducible refine hK _ ?_; clear hK K)); (with_reducible refine r_nil ?_); (repeat ((with_reducible refine s_step rfl rfl fun K hK => ?_); (first | ((refine owp_of ?_; go_simp; (go_at_call 28; with_reducible refine (HTP.out _ M.gt M.new).mono ?_; rintro e w h5; replace M := M.tkq h5; clear h5; obtain ⟨ta, tn, tc, rfl, M⟩ := M))) | ((refine owp_of ?_; go_simp; (go_at_call 12; with_reducible refine (spkI M).mono ?_; clear M; rintro e w ⟨ta, tn, tc, rfl, M⟩))) | ((refine owp_of ?_; go_simp; (go_at_call 11; (with_reducible refine (tkn ?_ M).mono ?_); (focus (refine ⟨?_, by decide⟩; simp only [List.flatten_cons, List.flatten_nil, List.length_append, List.length_cons, List.length_nil]; omega)); clear M; rintro e w ⟨ta, tn, tc, rfl, M⟩))) | ((refine q_rows M ?_; clear M; intro q w M)) | (refine owp_of ?_; go_simp)); (try go_simp); with_reducible refine hK _ _ M.kept ?_; clear hK K)); (with_reducible refine s_nil ?_))
          go_wp2_with (first | (with_reducible (first | refine wq M ?_ | (refine wS M ?_; clear M; intro w M) | (refine wV M ?_; clear M; intro z w M) | (refine wR M ?_; clear M; intro q w M))))
          go_roundg (m2 - (j + 1))
          case measure => omega
          case rel => exact ⟨j + 1, _, _, _, _, by omega, rfl, by go_num, M, Lib.hid (by rw [← HTN.out, HTS.out]; simp)⟩
        · have hte : ts = T1 ++ shCat notT x.nots := by rw [HT.out, List.take_of_length_le (by have := N2.out; omega)]
          have HT2L : Hid (ts.length ≤ 6000) := by show _ ≤ _; have h1 := shCat_le (f := notT) (l := x.nots) (K := 1010) (fun i p hp => notT_le (HX.out.nots p hp).2); have h3 := HX.out.nN; rw [hte, List.length_append]; have := HT1L.out; omega
          have HT2 := Lib.hid hte
          clear hte HT
          obtain ⟨T2, rfl⟩ : ∃ q, q = ts := ⟨_, rfl⟩
          go_wp2_with (first | (with_reducible (first | refine wq M ?_ | (refine wS M ?_; clear M; intro w M) | (refine wV M ?_; clear M; intro z w M) | (refine wR M ?_; clear M; intro q w M))))
          go_loopg [3, 7] m3 (fun fu v i wr => ∃ (j : Nat) (a : Option Addr) (m c : Nat) (ts : List Tkn), j + fu = m3 ∧ v = .slice a m c ∧ i = .int .i64 j ∧ Mem (StaysB g w0) g w0 wr ⟨0, 0⟩ (tkd a m c ts :: own zb [.string x.name, .slice b1 m1 e1, .slice b2 m2 e2, .slice b3 m3 e3, .slice b4 m4 e4, .string x.etype, .slice b6 m6 e6] 50 :: []) ∧ Hid (ts = T2 ++ shCat manyT (x.manies.take j)))
          case atStart => exact ⟨0, _, _, _, T2, by omega, rfl, rfl, M, Lib.hid (by simp [shCat_nil])⟩
          case round =>
            clear M
            obtain ⟨j, a5, m5, c5, ts, hj, rfl, rfl, M, HT⟩ := hrel
            by_cases hlt : j < m3
            · have hjl : j < x.manies.length := by have := N3.out; omega
              obtain ⟨cp, op, rowp, hixp, -, hrrp, hwp⟩ := SlF.rowAt (P := Tryd.prog) HY3.out manF_firm Tryd.underlying44 size_man (i := j) hjl
              obtain ⟨a2, n2, c2, ep, hS2⟩ := hrrp
              subst ep
              have HRP := Lib.hid (fun wx hb => (hwp wx hb).1)
              obtain ⟨TN, hTN⟩ : ∃ TN, TN = T2 ++ shCat manyT (x.manies.take (j + 1)) := ⟨_, rfl⟩
              have HTN := Lib.hid hTN
              have HTS : Hid (TN = ts ++ manyT j x.manies[j]) := by show _ = _; rw [hTN, shCat_snoc hjl, HT.out, List.append_assoc]
              have hts : ts.length ≤ 9000 := by have h1 := take_cat_le (f := manyT) (l := x.manies) (K := 1010) (n := 2) (j := j) (fun i p hp => manyT_le (HX.out.manies p hp).2.1) HX.out.nM; have h2 := congrArg List.length HT.out; rw [List.length_append] at h2; have := HT2L.out; omega
              clear hTN HT
              obtain ⟨hps, hpl, hn0, hn1, hc0, hc1⟩ := HX.out.manies _ (List.getElem_mem hjl)
              have hmf := HX.out.mfld _ (List.getElem_mem hjl)
              have HTP : Hid (∀ wx, g < wx.heap.size → Below w0.heap.size w0 wx → Calls Tryd.prog 28 #[.agg (pat18 x.manies[j].pat a2 n2 c2).toArray] wx (TkP wx (shPat x.manies[j].pat))) := fun wx h hb => pattern_ref h _ hps (hS2.below condF_firm hb) (by omega)
              unfold manyT at HTS
              unfold manC patC cndC opdC at HRP
              unfold pat18 at HTP
              simp only [List.cons_append, List.nil_append] at HRP
              clear hwp hS2 hps
              generalize shPat x.manies[j].pat = tp at HTP HTS hpl
              generalize x.manies[j] = m at HRP HTP HTS hn0 hn1 hc0 hc1 hmf
              clear hjl
              have i1 : NumI m.pat.n := ⟨⟨hn0, hn1⟩⟩
              have i2 : NumI m.count := ⟨⟨hc0, hc1⟩⟩
              have hnl := shNum_le m.pat.n
              have hcl := shNum_le m.count
              clear hn0 hn1 hc0 hc1
              rcases hmf with hmf | hmf
              · obtain ⟨f1, f2, f3⟩ := em_facts hmf
                rw [if_pos hmf] at HTS
                clear hmf
                go_upto_region 23 with (first | ((with_reducible refine o_list rfl fun K hK => ?_); refine q_in M (by rfl) (by rfl) (by rfl) ?_; clear M; intro w M; (try simp only [List.set_cons_zero, List.set_cons_succ, laid, opdC, List.take_succ_cons, List.take_zero, List.drop_succ_cons, List.drop_zero, List.length_cons, List.length_nil, List.cons_append, List.nil_append, Nat.reduceAdd, Nat.zero_add] at M); refine hK _ _ ?_; clear hK K) | (with_reducible (first | (refine wV M ?_; clear M; intro zx w M) | refine wA (HRP.out _ M.new) ?_ | refine wq M ?_ | (refine wS M ?_; clear M; intro w M) | (refine wV M ?_; clear M; intro z w M) | (refine wR M ?_; clear M; intro q w M))))
                replace M := M.swap
                ((refine wp_region_first [0, 2, 3, 5, 7, 8, 11, 12, 13] [1, 4, 6, 9, 10, 14, 15, 16, 17, 18] (fun _ M => M.drop) M (by kernel_rfl) (by kernel_rfl) (fun _ _ _ _ _ h => h) ?_); clear M; intro w M; (repeat ((with_reducible refine r_list rfl fun K hK => ?_); (first | (refine r_load (l' := ?_) ⟨_, M.kept⟩ (fun w M => ?_) ?_; rotate_left; focus ((first | refine q_get M (by exact rfl) ?_ | refine q_all M (by rfl) ?_ | refine q_prt M (by rfl) ?_); refine ⟨rfl, ?_⟩; with_reducible rfl)) | (refine r_pure (v := ?_) rfl (fun w => ?_) ?_; rotate_left; focus (go_simp; try with_reducible rfl))); (try go_simp); with_reducible refine hK _ ?_; clear hK K)); (with_reducible refine r_nil ?_); (repeat ((with_reducible refine s_step rfl rfl fun K hK => ?_); (first | ((refine owp_of ?_; go_simp; (go_at_call 28; with_reducible refine (HTP.out _ M.gt M.new).mono ?_; rintro e w h5; replace M := M.tkq h5; clear h5; obtain ⟨ta, tn, tc, rfl, M⟩ := M))) | ((refine owp_of ?_; go_simp; (go_at_call 12; with_reducible refine (spkI M).mono ?_; clear M; rintro e w ⟨ta, tn, tc, rfl, M⟩))) | ((refine owp_of ?_; go_simp; (go_at_call 29; with_reducible refine (numI M).mono ?_; clear M; rintro e w ⟨ta, tn, tc, rfl, M⟩))) | ((refine owp_of ?_; go_simp; (go_at_call 11; (with_reducible refine (tkn ?_ M).mono ?_); (focus (refine ⟨?_, by decide⟩; simp only [List.flatten_cons, List.flatten_nil, List.length_append, List.length_cons, List.length_nil]; omega)); clear M; rintro e w ⟨ta, tn, tc, rfl, M⟩))) | ((refine q_rows M ?_; clear M; intro q w M)) | (refine owp_of ?_; go_simp)); (try go_simp); with_reducible refine hK _ _ M.kept ?_; clear hK K)); (with_reducible refine s_nil ?_))
                go_wp2_with (first | (with_reducible (first | refine wq M ?_ | (refine wS M ?_; clear M; intro w M) | (refine wV M ?_; clear M; intro z w M) | (refine wR M ?_; clear M; intro q w M))))
                go_roundg (m3 - (j + 1))
                case measure => omega
                case rel => exact ⟨j + 1, _, _, _, _, by omega, rfl, by go_num, M.skip, Lib.hid (by rw [← HTN.out, HTS.out]; simp)⟩
              · obtain ⟨f0, f1, f2, f3⟩ := nm_facts hmf
                rw [if_neg (by rw [f0]; simp)] at HTS
                have S : SpkI (⟨#[111, 102, 32]⟩ ++ m.field) [wordT ⟨#[111, 102]⟩, wordT m.field] := spk_to hmf [111, 102] (by decide)
                have hz : (3 : Nat) + m.field.size ≤ 9223372036854775807 := by have := hmf.few; omega
                clear hmf f0
                go_upto_region 23 with (first | ((with_reducible refine o_list rfl fun K hK => ?_); refine q_in M (by rfl) (by rfl) (by rfl) ?_; clear M; intro w M; (try simp only [List.set_cons_zero, List.set_cons_succ, laid, opdC, List.take_succ_cons, List.take_zero, List.drop_succ_cons, List.drop_zero, List.length_cons, List.length_nil, List.cons_append, List.nil_append, Nat.reduceAdd, Nat.zero_add] at M); refine hK _ _ ?_; clear hK K) | (with_reducible (first | (refine wV M ?_; clear M; intro zx w M) | refine wA (HRP.out _ M.new) ?_ | refine wq M ?_ | (refine wS M ?_; clear M; intro w M) | (refine wV M ?_; clear M; intro z w M) | (refine wR M ?_; clear M; intro q w M))))
                replace M := M.swap
                ((refine wp_region_first [0, 2, 3, 5, 7, 8, 11, 12, 13] [1, 4, 6, 9, 10, 14, 15, 16, 17, 18] (fun _ M => M.drop) M (by kernel_rfl) (by kernel_rfl) (fun _ _ _ _ _ h => h) ?_); clear M; intro w M; (repeat ((with_reducible refine r_list rfl fun K hK => ?_); (first | (refine r_load (l' := ?_) ⟨_, M.kept⟩ (fun w M => ?_) ?_; rotate_left; focus ((first | refine q_get M (by exact rfl) ?_ | refine q_all M (by rfl) ?_ | refine q_prt M (by rfl) ?_); refine ⟨rfl, ?_⟩; with_reducible rfl)) | (refine r_pure (v := ?_) rfl (fun w => ?_) ?_; rotate_left; focus (go_simp; try with_reducible rfl))); (try go_simp); with_reducible refine hK _ ?_; clear hK K)); (with_reducible refine r_nil ?_); (repeat ((with_reducible refine s_step rfl rfl fun K hK => ?_); (first | ((refine owp_of ?_; go_simp; (go_at_call 28; with_reducible refine (HTP.out _ M.gt M.new).mono ?_; rintro e w h5; replace M := M.tkq h5; clear h5; obtain ⟨ta, tn, tc, rfl, M⟩ := M))) | ((refine owp_of ?_; go_simp; (go_at_call 12; with_reducible refine (spkI M).mono ?_; clear M; rintro e w ⟨ta, tn, tc, rfl, M⟩))) | ((refine owp_of ?_; go_simp; (go_at_call 29; with_reducible refine (numI M).mono ?_; clear M; rintro e w ⟨ta, tn, tc, rfl, M⟩))) | ((refine owp_of ?_; go_simp; (go_at_call 11; (with_reducible refine (tkn ?_ M).mono ?_); (focus (refine ⟨?_, by decide⟩; simp only [List.flatten_cons, List.flatten_nil, List.length_append, List.length_cons, List.length_nil]; omega)); clear M; rintro e w ⟨ta, tn, tc, rfl, M⟩))) | ((refine q_rows M ?_; clear M; intro q w M)) | (refine owp_of ?_; go_simp)); (try go_simp); with_reducible refine hK _ _ M.kept ?_; clear hK K)); (with_reducible refine s_nil ?_))
                go_wp2_with (first | (with_reducible (first | refine wq M ?_ | (refine wS M ?_; clear M; intro w M) | (refine wV M ?_; clear M; intro z w M) | (refine wR M ?_; clear M; intro q w M))))
                go_roundg (m3 - (j + 1))
                case measure => omega
                case rel => exact ⟨j + 1, _, _, _, _, by omega, rfl, by go_num, M.skip, Lib.hid (by rw [← HTN.out, HTS.out]; simp)⟩
            · have hte : ts = T2 ++ shCat manyT x.manies := by rw [HT.out, List.take_of_length_le (by have := N3.out; omega)]
              have HT3L : Hid (ts.length ≤ 9000) := by show _ ≤ _; have h1 := shCat_le (f := manyT) (l := x.manies) (K := 1010) (fun i p hp => manyT_le (HX.out.manies p hp).2.1); have h3 := HX.out.nM; rw [hte, List.length_append]; have := HT2L.out; omega
              have HT3 := Lib.hid hte
              clear hte HT
              obtain ⟨T3, rfl⟩ : ∃ q, q = ts := ⟨_, rfl⟩
              go_wp2_with (first | (with_reducible (first | refine wq M ?_ | (refine wS M ?_; clear M; intro w M) | (refine wV M ?_; clear M; intro z w M) | (refine wR M ?_; clear M; intro q w M))))
              go_loopg [3, 10] m4 (fun fu v i wr => ∃ (j : Nat) (a : Option Addr) (m c : Nat) (ts : List Tkn), j + fu = m4 ∧ v = .slice a m c ∧ i = .int .i64 j ∧ Mem (StaysB g w0) g w0 wr ⟨0, 0⟩ (tkd a m c ts :: own zb [.string x.name, .slice b1 m1 e1, .slice b2 m2 e2, .slice b3 m3 e3, .slice b4 m4 e4, .string x.etype, .slice b6 m6 e6] 50 :: []) ∧ Hid (ts = T3 ++ shCat linkT (x.links.take j)))
              case atStart => exact ⟨0, _, _, _, T3, by omega, rfl, rfl, M, Lib.hid (by simp [shCat_nil])⟩
              case round =>
                clear M
                obtain ⟨j, a5, m5, c5, ts, hj, rfl, rfl, M, HT⟩ := hrel
                by_cases hlt : j < m4
                · have hjl : j < x.links.length := by have := N4.out; omega
                  obtain ⟨cp, op, rowp, hixp, -, hrrp, hwp⟩ := SlF.rowAt (P := Tryd.prog) HY4.out lnkF_firm Tryd.underlying45 size_lnk (i := j) hjl
                  obtain ⟨a2, n2, c2, ep, hS2⟩ := hrrp
                  subst ep
                  have HRP := Lib.hid (fun wx hb => (hwp wx hb).1)
                  obtain ⟨TN, hTN⟩ : ∃ TN, TN = T3 ++ shCat linkT (x.links.take (j + 1)) := ⟨_, rfl⟩
                  have HTN := Lib.hid hTN
                  have HTS : Hid (TN = ts ++ linkT j x.links[j]) := by show _ = _; rw [hTN, shCat_snoc hjl, HT.out, List.append_assoc]
                  have hts : ts.length ≤ 20000 := by have h1 := take_cat_le (f := linkT) (l := x.links) (K := 60) (n := 6) (j := j) (fun i p hp => linkT_le (HX.out.links p hp).1) HX.out.nL; have h2 := congrArg List.length HT.out; rw [List.length_append] at h2; have := HT3L.out; omega
                  clear hTN HT
                  obtain ⟨hol, hlz, hrz, hop⟩ := HX.out.links _ (List.getElem_mem hjl)
                  unfold linkT at HTS
                  unfold lnkC at HRP
                  clear hwp
                  generalize x.links[j] = k at HRP HTS hol hlz hrz hop hS2
                  clear hjl
                  have HS2 := Lib.hid hS2
                  have hle2 := hS2.le
                  have NO : Hid (n2 = k.opts.length) := hS2.len
                  have HOP := Lib.hid hop
                  have HOL := Lib.hid hol
                  have S1 : SpkI (⟨#[119, 104, 101, 114, 101, 32]⟩ ++ k.left) [wordT ⟨#[119, 104, 101, 114, 101]⟩, wordT k.left] := spk_to hlz [119, 104, 101, 114, 101] (by decide)
                  have S2 : SpkI (k.right ++ ⟨#[32, 59]⟩) [wordT k.right, wordT ⟨#[59]⟩] := spk_from hrz [59] (by decide)
                  have z1 : (6 : Nat) + k.left.size ≤ 9223372036854775807 := by have := hlz.few; omega
                  have z2 : k.right.size + 2 ≤ 9223372036854775807 := by have := hrz.few; omega
                  clear hol hlz hrz hop hS2
                  obtain ⟨U0, hU0⟩ : ∃ U0, U0 = ts ++ [wordT ⟨#[119, 104, 101, 114, 101]⟩, wordT k.left] := ⟨_, rfl⟩
                  have HU0 := Lib.hid hU0
                  have HU0L : Hid (U0.length ≤ 20002) := by show _ ≤ _; rw [hU0]; simp; omega
                  go_upto_region 28 with (first | ((with_reducible refine o_list rfl fun K hK => ?_); refine q_in M (by rfl) (by rfl) (by rfl) ?_; clear M; intro w M; (try simp only [List.set_cons_zero, List.set_cons_succ, laid, opdC, List.take_succ_cons, List.take_zero, List.drop_succ_cons, List.drop_zero, List.length_cons, List.length_nil, List.cons_append, List.nil_append, Nat.reduceAdd, Nat.zero_add] at M); refine hK _ _ ?_; clear hK K) | (with_reducible (first | (refine wV M ?_; clear M; intro zx w M) | refine wA (HRP.out _ M.new) ?_ | refine wq M ?_ | (refine wS M ?_; clear M; intro w M) | (refine wV M ?_; clear M; intro z w M) | (refine wR M ?_; clear M; intro q w M))))
                  replace M := M.swap
                  go_wp2_with (first | (go_at_call 12; with_reducible refine (spkI M).mono ?_; clear M; rintro e w ⟨ta, tn, tc, rfl, M⟩) | (go_at_call 11; (with_reducible refine (tkn ?_ M).mono ?_); (focus (refine ⟨?_, by decide⟩; simp only [List.flatten_cons, List.flatten_nil, List.length_append, List.length_cons, List.length_nil]; omega)); clear M; rintro e w ⟨ta, tn, tc, rfl, M⟩) | (with_reducible (first | (refine w_ (q_rows M ?_); clear M; intro q w M) | refine wq M ?_ | (refine wS M ?_; clear M; intro w M) | (refine wV M ?_; clear M; intro z w M) | (refine wR M ?_; clear M; intro q w M))))
                  replace M := M.tkr (b' := U0) (by rw [HU0.out]; simp)
                  clear hU0
                  go_loopg [3, 12] n2 (fun fu v i wr => ∃ (jo : Nat) (a : Option Addr) (m c : Nat) (us : List Tkn), jo + fu = n2 ∧ v = .slice a m c ∧ i = .int .i64 jo ∧ Mem (StaysB g w0) g w0 wr ⟨0, 0⟩ (tkd a m c us :: own zx [.string k.left, .slice a2 n2 c2, .string k.right] 76 :: own zb [.string x.name, .slice b1 m1 e1, .slice b2 m2 e2, .slice b3 m3 e3, .slice b4 m4 e4, .string x.etype, .slice b6 m6 e6] 50 :: []) ∧ Hid (us = U0 ++ shCat optsT (k.opts.take jo)))
                  case atStart => exact ⟨0, _, _, _, U0, by omega, rfl, rfl, M, Lib.hid (by simp [shCat_nil])⟩
                  case round =>
                    clear M
                    obtain ⟨jo, a6, m6, c6, us, hjo, rfl, rfl, M, HU⟩ := hrel
                    by_cases hlo : jo < n2
                    · have hjl : jo < k.opts.length := by have := NO.out; omega
                      obtain ⟨cq, oq, rowq, hixq, -, hrrq, hwq⟩ := SlF.rowAt (P := Tryd.prog) HS2.out (plainF_firm _) Tryd.underlying74 size_opt (i := jo) hjl
                      have eq : rowq = optC k.opts[jo] := hrrq
                      subst eq
                      have HRQ := Lib.hid (fun wx hb => (hwq wx hb).1)
                      obtain ⟨UN, hUN⟩ : ∃ UN, UN = U0 ++ shCat optsT (k.opts.take (jo + 1)) := ⟨_, rfl⟩
                      have HUN := Lib.hid hUN
                      have HUS : Hid (UN = us ++ optsT jo k.opts[jo]) := by show _ = _; rw [hUN, shCat_snoc hjl, HU.out, List.append_assoc]
                      have hus : us.length ≤ 21000 := by have h1 := take_cat_le (f := optsT) (l := k.opts) (K := 9) (n := 6) (j := jo) (fun i p _ => optsT_le) HOL.out; have h2 := congrArg List.length HU.out; rw [List.length_append] at h2; have := HU0L.out; omega
                      obtain ⟨q1, q2, q3, q4, q5, q6⟩ := HOP.out _ (List.getElem_mem hjl)
                      clear hUN hrrq hwq HU
                      unfold optsT shOpt at HUS
                      unfold optC at HRQ
                      generalize k.opts[jo] = o at HRQ HUS q1 q2 q3 q4 q5 q6
                      clear hjl
                      obtain ⟨rk, hrk⟩ : ∃ rk : Nat, o.rel = rk := ⟨o.rel.toNat, by omega⟩
                      have i1 : NumI o.lo := ⟨⟨by omega, q4⟩⟩
                      have i2 : NumI o.hi := ⟨⟨q5, q6⟩⟩
                      obtain ⟨rt, hrt⟩ : ∃ rt, relT o.rel = rt := ⟨_, rfl⟩
                      have i3 : SpkI rt [wordT rt] := hrt ▸ relk q1 q2
                      have HRC : Hid (∀ {At : PS → World → Prop} {b : Nat} {u wx : World} {s : PS} {L : List Ent} {q : Nat}, Mem At b u wx s (tkw q :: L) → wx.cell? ⟨q, rk, none⟩ = some (.string rt)) := fun M => by rw [← hrt]; exact M.relc hrk (by omega)
                      rw [hrk] at HRQ q1 q2
                      rw [hrt] at HUS
                      have hixr := rel_ix q1 q2
                      have h1l := shNum_le o.lo
                      have h2l := shNum_le o.hi
                      clear hrk hrt q4 q5 q6
                      have hj0 : (¬ ((0 : Int) < (jo : Int)) ∧ Hid (jo = 0)) ∨ (0 < jo ∧ Hid (¬ jo = 0)) := by
                        by_cases h : jo = 0
                        · exact .inl ⟨by omega, Lib.hid h⟩
                        · exact .inr ⟨by omega, Lib.hid h⟩
                      have hoc : (0 ≤ o.hi ∧ Hid (¬ o.hi < 0)) ∨ ((¬ 0 ≤ o.hi) ∧ Hid (o.hi < 0) ∧ ((0 < o.lo ∧ Hid (¬ o.lo = 0)) ∨ (¬ 0 < o.lo ∧ Hid (o.lo = 0)))) := by
                        by_cases h : 0 ≤ o.hi
                        · exact .inl ⟨h, Lib.hid (by omega)⟩
                        · refine .inr ⟨h, Lib.hid (by omega), ?_⟩
                          by_cases h2 : o.lo = 0
                          · exact .inr ⟨by omega, Lib.hid h2⟩
                          · exact .inl ⟨by omega, Lib.hid h2⟩
                      rcases hoc with ⟨hh, HH⟩ | ⟨hh, HH, ⟨hl, HL⟩ | ⟨hl, HL⟩⟩
                      · rcases hj0 with ⟨hjp, hj0⟩ | ⟨hjp, hj0⟩
                        all_goals
                          go_upto_region 33 with (first | ((with_reducible refine o_list rfl fun K hK => ?_); refine q_in M (by rfl) (by rfl) (by rfl) ?_; clear M; intro w M; (try simp only [List.set_cons_zero, List.set_cons_succ, laid, opdC, List.take_succ_cons, List.take_zero, List.drop_succ_cons, List.drop_zero, List.length_cons, List.length_nil, List.cons_append, List.nil_append, Nat.reduceAdd, Nat.zero_add] at M); refine hK _ _ ?_; clear hK K) | (with_reducible (first | (refine wV M ?_; clear M; intro zo w M) | refine wA (HRQ.out _ M.new) ?_ | refine wq M ?_ | (refine wS M ?_; clear M; intro w M) | (refine wV M ?_; clear M; intro z w M) | (refine wR M ?_; clear M; intro q w M))))
                          replace M := M.swap
                          go_upto_region 35 with (first | (go_at_call 12; with_reducible refine (spkI M).mono ?_; clear M; rintro e w ⟨ta, tn, tc, rfl, M⟩) | (go_at_call 11; (with_reducible refine (tkn ?_ M).mono ?_); (focus (refine ⟨?_, by decide⟩; simp only [List.flatten_cons, List.flatten_nil, List.length_append, List.length_cons, List.length_nil]; omega)); clear M; rintro e w ⟨ta, tn, tc, rfl, M⟩) | (with_reducible (first | (refine w_ (q_rows M ?_); clear M; intro q w M) | refine wq M ?_ | (refine wS M ?_; clear M; intro w M) | (refine wV M ?_; clear M; intro z w M) | (refine wR M ?_; clear M; intro q w M))))
                          ((refine wp_region_first [0, 2, 3] [1, 4, 5, 6, 7, 8, 9] (fun _ M => M.drop) M (by kernel_rfl) (by kernel_rfl) (fun _ _ _ _ _ h => h) ?_); clear M; intro w M; (repeat ((with_reducible refine r_list rfl fun K hK => ?_); (first | (refine r_load (l' := ?_) ⟨_, M.kept⟩ (fun w M => ?_) ?_; rotate_left; focus ((first | refine q_get M (by exact rfl) ?_ | refine q_all M (by rfl) ?_ | refine q_prt M (by rfl) ?_); refine ⟨rfl, ?_⟩; with_reducible rfl)) | (refine r_pure (v := ?_) rfl (fun w => ?_) ?_; rotate_left; focus (go_simp; try with_reducible rfl))); (try go_simp); with_reducible refine hK _ ?_; clear hK K)); (with_reducible refine r_nil ?_); (repeat ((with_reducible refine s_step rfl rfl fun K hK => ?_); (first | ((refine owp_of ?_; go_simp; (go_at_call 12; with_reducible refine (spkI M).mono ?_; clear M; rintro e w ⟨ta, tn, tc, rfl, M⟩))) | ((refine owp_of ?_; go_simp; (go_at_call 11; (with_reducible refine (tkn ?_ M).mono ?_); (focus (refine ⟨?_, by decide⟩; simp only [List.flatten_cons, List.flatten_nil, List.length_append, List.length_cons, List.length_nil]; omega)); clear M; rintro e w ⟨ta, tn, tc, rfl, M⟩))) | ((refine q_rows M ?_; clear M; intro q w M)) | ((refine owp_of ?_; go_simp; (go_at_call 30; with_reducible refine M.relm.mono ?_; clear M; rintro e w ⟨zq, rfl, M⟩))) | ((refine q_cellat (HRC.out M) ?_; replace M := M.drop)) | (refine owp_of ?_; go_simp)); (try go_simp); with_reducible refine hK _ _ M.kept ?_; clear hK K)); (with_reducible refine s_nil ?_))
                          go_upto_region 37 with (first | (with_reducible (first | refine wq M ?_ | (refine wS M ?_; clear M; intro w M) | (refine wV M ?_; clear M; intro z w M) | (refine wR M ?_; clear M; intro q w M))))
                          ((refine wp_region_first [0, 2, 3, 6, 7] [1, 4, 5, 8, 9, 10, 11, 12] (fun _ M => M.drop) M (by kernel_rfl) (by kernel_rfl) (fun _ _ _ _ _ h => h) ?_); clear M; intro w M; (repeat ((with_reducible refine r_list rfl fun K hK => ?_); (first | (refine r_load (l' := ?_) ⟨_, M.kept⟩ (fun w M => ?_) ?_; rotate_left; focus ((first | refine q_get M (by exact rfl) ?_ | refine q_all M (by rfl) ?_ | refine q_prt M (by rfl) ?_); refine ⟨rfl, ?_⟩; with_reducible rfl)) | (refine r_pure (v := ?_) rfl (fun w => ?_) ?_; rotate_left; focus (go_simp; try with_reducible rfl))); (try go_simp); with_reducible refine hK _ ?_; clear hK K)); (with_reducible refine r_nil ?_); (repeat ((with_reducible refine s_step rfl rfl fun K hK => ?_); (first | ((refine owp_of ?_; go_simp; (go_at_call 12; with_reducible refine (spkI M).mono ?_; clear M; rintro e w ⟨ta, tn, tc, rfl, M⟩))) | ((refine owp_of ?_; go_simp; (go_at_call 29; with_reducible refine (numI M).mono ?_; clear M; rintro e w ⟨ta, tn, tc, rfl, M⟩))) | ((refine owp_of ?_; go_simp; (go_at_call 11; (with_reducible refine (tkn ?_ M).mono ?_); (focus (refine ⟨?_, by decide⟩; simp only [List.flatten_cons, List.flatten_nil, List.length_append, List.length_cons, List.length_nil]; omega)); clear M; rintro e w ⟨ta, tn, tc, rfl, M⟩))) | ((refine q_rows M ?_; clear M; intro q w M)) | (refine owp_of ?_; go_simp)); (try go_simp); with_reducible refine hK _ _ M.kept ?_; clear hK K)); (with_reducible refine s_nil ?_))
                          go_wp2_with (first | (with_reducible (first | refine wq M ?_ | (refine wS M ?_; clear M; intro w M) | (refine wV M ?_; clear M; intro z w M) | (refine wR M ?_; clear M; intro q w M))))
                          go_roundg (n2 - (jo + 1))
                          case measure => omega
                          case rel => exact ⟨jo + 1, _, _, _, _, by omega, rfl, by go_num, M.skip, Lib.hid (by rw [← HUN.out, HUS.out]; have k1 := hj0.out; have k2 : (o.hi < 0) = False := eq_false (by have := HH.out; omega); simp [k1, k2])⟩
                      · rcases hj0 with ⟨hjp, hj0⟩ | ⟨hjp, hj0⟩
                        all_goals
                          go_upto_region 33 with (first | ((with_reducible refine o_list rfl fun K hK => ?_); refine q_in M (by rfl) (by rfl) (by rfl) ?_; clear M; intro w M; (try simp only [List.set_cons_zero, List.set_cons_succ, laid, opdC, List.take_succ_cons, List.take_zero, List.drop_succ_cons, List.drop_zero, List.length_cons, List.length_nil, List.cons_append, List.nil_append, Nat.reduceAdd, Nat.zero_add] at M); refine hK _ _ ?_; clear hK K) | (with_reducible (first | (refine wV M ?_; clear M; intro zo w M) | refine wA (HRQ.out _ M.new) ?_ | refine wq M ?_ | (refine wS M ?_; clear M; intro w M) | (refine wV M ?_; clear M; intro z w M) | (refine wR M ?_; clear M; intro q w M))))
                          replace M := M.swap
                          go_upto_region 35 with (first | (go_at_call 12; with_reducible refine (spkI M).mono ?_; clear M; rintro e w ⟨ta, tn, tc, rfl, M⟩) | (go_at_call 11; (with_reducible refine (tkn ?_ M).mono ?_); (focus (refine ⟨?_, by decide⟩; simp only [List.flatten_cons, List.flatten_nil, List.length_append, List.length_cons, List.length_nil]; omega)); clear M; rintro e w ⟨ta, tn, tc, rfl, M⟩) | (with_reducible (first | (refine w_ (q_rows M ?_); clear M; intro q w M) | refine wq M ?_ | (refine wS M ?_; clear M; intro w M) | (refine wV M ?_; clear M; intro z w M) | (refine wR M ?_; clear M; intro q w M))))
                          ((refine wp_region_first [0, 2, 3] [1, 4, 5, 6, 7, 8, 9] (fun _ M => M.drop) M (by kernel_rfl) (by kernel_rfl) (fun _ _ _ _ _ h => h) ?_); clear M; intro w M; (repeat ((with_reducible refine r_list rfl fun K hK => ?_); (first | (refine r_load (l' := ?_) ⟨_, M.kept⟩ (fun w M => ?_) ?_; rotate_left; focus ((first | refine q_get M (by exact rfl) ?_ | refine q_all M (by rfl) ?_ | refine q_prt M (by rfl) ?_); refine ⟨rfl, ?_⟩; with_reducible rfl)) | (refine r_pure (v := ?_) rfl (fun w => ?_) ?_; rotate_left; focus (go_simp; try with_reducible rfl))); (try go_simp); with_reducible refine hK _ ?_; clear hK K)); (with_reducible refine r_nil ?_); (repeat ((with_reducible refine s_step rfl rfl fun K hK => ?_); (first | ((refine owp_of ?_; go_simp; (go_at_call 12; with_reducible refine (spkI M).mono ?_; clear M; rintro e w ⟨ta, tn, tc, rfl, M⟩))) | ((refine owp_of ?_; go_simp; (go_at_call 11; (with_reducible refine (tkn ?_ M).mono ?_); (focus (refine ⟨?_, by decide⟩; simp only [List.flatten_cons, List.flatten_nil, List.length_append, List.length_cons, List.length_nil]; omega)); clear M; rintro e w ⟨ta, tn, tc, rfl, M⟩))) | ((refine q_rows M ?_; clear M; intro q w M)) | ((refine owp_of ?_; go_simp; (go_at_call 30; with_reducible refine M.relm.mono ?_; clear M; rintro e w ⟨zq, rfl, M⟩))) | ((refine q_cellat (HRC.out M) ?_; replace M := M.drop)) | (refine owp_of ?_; go_simp)); (try go_simp); with_reducible refine hK _ _ M.kept ?_; clear hK K)); (with_reducible refine s_nil ?_))
                          go_upto_region 39 with (first | (with_reducible (first | refine wq M ?_ | (refine wS M ?_; clear M; intro w M) | (refine wV M ?_; clear M; intro z w M) | (refine wR M ?_; clear M; intro q w M))))
                          ((refine wp_region_first [0, 2, 3] [1, 4, 5, 6, 7, 8] (fun _ M => M.drop) M (by kernel_rfl) (by kernel_rfl) (fun _ _ _ _ _ h => h) ?_); clear M; intro w M; (repeat ((with_reducible refine r_list rfl fun K hK => ?_); (first | (refine r_load (l' := ?_) ⟨_, M.kept⟩ (fun w M => ?_) ?_; rotate_left; focus ((first | refine q_get M (by exact rfl) ?_ | refine q_all M (by rfl) ?_ | refine q_prt M (by rfl) ?_); refine ⟨rfl, ?_⟩; with_reducible rfl)) | (refine r_pure (v := ?_) rfl (fun w => ?_) ?_; rotate_left; focus (go_simp; try with_reducible rfl))); (try go_simp); with_reducible refine hK _ ?_; clear hK K)); (with_reducible refine r_nil ?_); (repeat ((with_reducible refine s_step rfl rfl fun K hK => ?_); (first | ((refine owp_of ?_; go_simp; (go_at_call 12; with_reducible refine (spkI M).mono ?_; clear M; rintro e w ⟨ta, tn, tc, rfl, M⟩))) | ((refine owp_of ?_; go_simp; (go_at_call 29; with_reducible refine (numI M).mono ?_; clear M; rintro e w ⟨ta, tn, tc, rfl, M⟩))) | ((refine owp_of ?_; go_simp; (go_at_call 11; (with_reducible refine (tkn ?_ M).mono ?_); (focus (refine ⟨?_, by decide⟩; simp only [List.flatten_cons, List.flatten_nil, List.length_append, List.length_cons, List.length_nil]; omega)); clear M; rintro e w ⟨ta, tn, tc, rfl, M⟩))) | ((refine q_rows M ?_; clear M; intro q w M)) | (refine owp_of ?_; go_simp)); (try go_simp); with_reducible refine hK _ _ M.kept ?_; clear hK K)); (with_reducible refine s_nil ?_))
                          go_wp2_with (first | (with_reducible (first | refine wq M ?_ | (refine wS M ?_; clear M; intro w M) | (refine wV M ?_; clear M; intro z w M) | (refine wR M ?_; clear M; intro q w M))))
                          go_roundg (n2 - (jo + 1))
                          case measure => omega
                          case rel => exact ⟨jo + 1, _, _, _, _, by omega, rfl, by go_num, M.skip, Lib.hid (by rw [← HUN.out, HUS.out]; have k1 := hj0.out; have k2 : (o.hi < 0) = True := eq_true (by have := HH.out; omega); have k3 : (o.lo = 0) = False := eq_false (by have := HL.out; omega); simp [k1, k2, k3])⟩
                      · rcases hj0 with ⟨hjp, hj0⟩ | ⟨hjp, hj0⟩
                        all_goals
                          go_upto_region 33 with (first | ((with_reducible refine o_list rfl fun K hK => ?_); refine q_in M (by rfl) (by rfl) (by rfl) ?_; clear M; intro w M; (try simp only [List.set_cons_zero, List.set_cons_succ, laid, opdC, List.take_succ_cons, List.take_zero, List.drop_succ_cons, List.drop_zero, List.length_cons, List.length_nil, List.cons_append, List.nil_append, Nat.reduceAdd, Nat.zero_add] at M); refine hK _ _ ?_; clear hK K) | (with_reducible (first | (refine wV M ?_; clear M; intro zo w M) | refine wA (HRQ.out _ M.new) ?_ | refine wq M ?_ | (refine wS M ?_; clear M; intro w M) | (refine wV M ?_; clear M; intro z w M) | (refine wR M ?_; clear M; intro q w M))))
                          replace M := M.swap
                          go_upto_region 35 with (first | (go_at_call 12; with_reducible refine (spkI M).mono ?_; clear M; rintro e w ⟨ta, tn, tc, rfl, M⟩) | (go_at_call 11; (with_reducible refine (tkn ?_ M).mono ?_); (focus (refine ⟨?_, by decide⟩; simp only [List.flatten_cons, List.flatten_nil, List.length_append, List.length_cons, List.length_nil]; omega)); clear M; rintro e w ⟨ta, tn, tc, rfl, M⟩) | (with_reducible (first | (refine w_ (q_rows M ?_); clear M; intro q w M) | refine wq M ?_ | (refine wS M ?_; clear M; intro w M) | (refine wV M ?_; clear M; intro z w M) | (refine wR M ?_; clear M; intro q w M))))
                          ((refine wp_region_first [0, 2, 3] [1, 4, 5, 6, 7, 8, 9] (fun _ M => M.drop) M (by kernel_rfl) (by kernel_rfl) (fun _ _ _ _ _ h => h) ?_); clear M; intro w M; (repeat ((with_reducible refine r_list rfl fun K hK => ?_); (first | (refine r_load (l' := ?_) ⟨_, M.kept⟩ (fun w M => ?_) ?_; rotate_left; focus ((first | refine q_get M (by exact rfl) ?_ | refine q_all M (by rfl) ?_ | refine q_prt M (by rfl) ?_); refine ⟨rfl, ?_⟩; with_reducible rfl)) | (refine r_pure (v := ?_) rfl (fun w => ?_) ?_; rotate_left; focus (go_simp; try with_reducible rfl))); (try go_simp); with_reducible refine hK _ ?_; clear hK K)); (with_reducible refine r_nil ?_); (repeat ((with_reducible refine s_step rfl rfl fun K hK => ?_); (first | ((refine owp_of ?_; go_simp; (go_at_call 12; with_reducible refine (spkI M).mono ?_; clear M; rintro e w ⟨ta, tn, tc, rfl, M⟩))) | ((refine owp_of ?_; go_simp; (go_at_call 11; (with_reducible refine (tkn ?_ M).mono ?_); (focus (refine ⟨?_, by decide⟩; simp only [List.flatten_cons, List.flatten_nil, List.length_append, List.length_cons, List.length_nil]; omega)); clear M; rintro e w ⟨ta, tn, tc, rfl, M⟩))) | ((refine q_rows M ?_; clear M; intro q w M)) | ((refine owp_of ?_; go_simp; (go_at_call 30; with_reducible refine M.relm.mono ?_; clear M; rintro e w ⟨zq, rfl, M⟩))) | ((refine q_cellat (HRC.out M) ?_; replace M := M.drop)) | (refine owp_of ?_; go_simp)); (try go_simp); with_reducible refine hK _ _ M.kept ?_; clear hK K)); (with_reducible refine s_nil ?_))
                          go_wp2_with (first | (with_reducible (first | refine wq M ?_ | (refine wS M ?_; clear M; intro w M) | (refine wV M ?_; clear M; intro z w M) | (refine wR M ?_; clear M; intro q w M))))
                          go_roundg (n2 - (jo + 1))
                          case measure => omega
                          case rel => exact ⟨jo + 1, _, _, _, _, by omega, rfl, by go_num, M.skip, Lib.hid (by rw [← HUN.out, HUS.out]; have k1 := hj0.out; have k2 : (o.hi < 0) = True := eq_true (by have := HH.out; omega); have k3 : (o.lo = 0) = True := eq_true (by have := HL.out; omega); simp [k1, k2, k3])⟩
                    · have hue : us = U0 ++ shCat optsT k.opts := by rw [HU.out, List.take_of_length_le (by have := NO.out; omega)]
                      have hul : us.length ≤ 21000 := by have h1 := shCat_le (f := optsT) (l := k.opts) (K := 9) (fun i p _ => optsT_le); have := HOL.out; have := HU0L.out; rw [hue, List.length_append]; omega
                      have HUE := Lib.hid hue
                      clear hue HU
                      go_wp2_with (first | (go_at_call 12; with_reducible refine (spkI M).mono ?_; clear M; rintro e w ⟨ta, tn, tc, rfl, M⟩) | (go_at_call 11; (with_reducible refine (tkn ?_ M).mono ?_); (focus (refine ⟨?_, by decide⟩; simp only [List.flatten_cons, List.flatten_nil, List.length_append, List.length_cons, List.length_nil]; omega)); clear M; rintro e w ⟨ta, tn, tc, rfl, M⟩) | (with_reducible (first | (refine w_ (q_rows M ?_); clear M; intro q w M) | refine wq M ?_ | (refine wS M ?_; clear M; intro w M) | (refine wV M ?_; clear M; intro z w M) | (refine wR M ?_; clear M; intro q w M))))
                      go_roundg (m4 - (j + 1))
                      case measure => omega
                      case rel => exact ⟨j + 1, _, _, _, _, by omega, rfl, by go_num, M.skip, Lib.hid (by rw [← HTN.out, HTS.out, HUE.out, HU0.out]; simp)⟩
                · have hte : ts = T3 ++ shCat linkT x.links := by rw [HT.out, List.take_of_length_le (by have := N4.out; omega)]
                  have HT4L : Hid (ts.length ≤ 20000) := by show _ ≤ _; have h1 := shCat_le (f := linkT) (l := x.links) (K := 60) (fun i p hp => linkT_le (HX.out.links p hp).1); have h3 := HX.out.nL; rw [hte, List.length_append]; have := HT3L.out; omega
                  have HT4 := Lib.hid hte
                  clear hte HT
                  obtain ⟨T4, rfl⟩ : ∃ q, q = ts := ⟨_, rfl⟩
                  have HV : Hid (shRule x = T4 ++ (if emS x.etype = true then [] else [wordT ⟨#[101, 109, 105, 116]⟩, wordT x.etype, wordT ⟨#[40]⟩] ++ shCat emitT x.evals ++ [wordT ⟨#[41]⟩, wordT ⟨#[59]⟩]) ++ [wordT ⟨#[125]⟩]) := by show _ = _; rw [HT4.out, HT3.out, HT2.out, HT1.out, HT0.out]; unfold shRule; simp only [List.append_assoc]
                  have hT4l := HT4L.out
                  clear HT4 HT3 HT2 HT1 HT0
                  have het := HX.out.ety
                  rcases het with het | het
                  · obtain ⟨f1, f2, f3⟩ := em_facts het
                    rw [if_pos het] at HV
                    clear het
                    go_wp2_with (first | (go_at_call 12; with_reducible refine (spkI M).mono ?_; clear M; rintro e w ⟨ta, tn, tc, rfl, M⟩) | (go_at_call 11; (with_reducible refine (tkn ?_ M).mono ?_); (focus (refine ⟨?_, by decide⟩; simp only [List.flatten_cons, List.flatten_nil, List.length_append, List.length_cons, List.length_nil]; omega)); clear M; rintro e w ⟨ta, tn, tc, rfl, M⟩) | (with_reducible (first | (refine w_ (q_rows M ?_); clear M; intro q w M) | refine wq M ?_ | (refine wS M ?_; clear M; intro w M) | (refine wV M ?_; clear M; intro z w M) | (refine wR M ?_; clear M; intro q w M))))
                    go_ret
                    exact M.tkp.to (by rw [HV.out]; simp)
                  · obtain ⟨f0, f1, f2, f3⟩ := nm_facts het
                    rw [if_neg (by rw [f0]; simp)] at HV
                    have S : SpkI (⟨#[101, 109, 105, 116, 32]⟩ ++ x.etype ++ ⟨#[32, 40]⟩) [wordT ⟨#[101, 109, 105, 116]⟩, wordT x.etype, wordT ⟨#[40]⟩] := spk_in het [101, 109, 105, 116] [40] (by decide) (by decide)
                    have z1 : (5 : Nat) + x.etype.size ≤ 9223372036854775807 := by have := het.few; omega
                    have z2 : (5 : Nat) + x.etype.size + 2 ≤ 9223372036854775807 := by have := het.few; omega
                    clear het f0
                    obtain ⟨T5, hT5⟩ : ∃ T5, T5 = T4 ++ [wordT ⟨#[101, 109, 105, 116]⟩, wordT x.etype, wordT ⟨#[40]⟩] := ⟨_, rfl⟩
                    have HT5 := Lib.hid hT5
                    have HT5L : Hid (T5.length ≤ 20010) := by show _ ≤ _; rw [hT5]; simp; omega
                    clear hT5
                    go_wp2_with (first | (go_at_call 12; with_reducible refine (spkI M).mono ?_; clear M; rintro e w ⟨ta, tn, tc, rfl, M⟩) | (go_at_call 11; (with_reducible refine (tkn ?_ M).mono ?_); (focus (refine ⟨?_, by decide⟩; simp only [List.flatten_cons, List.flatten_nil, List.length_append, List.length_cons, List.length_nil]; omega)); clear M; rintro e w ⟨ta, tn, tc, rfl, M⟩) | (with_reducible (first | (refine w_ (q_rows M ?_); clear M; intro q w M) | refine wq M ?_ | (refine wS M ?_; clear M; intro w M) | (refine wV M ?_; clear M; intro z w M) | (refine wR M ?_; clear M; intro q w M))))
                    replace M := M.tkr (b' := T5) (by rw [HT5.out]; simp)
                    go_loopg [3, 14] m6 (fun fu v i wr => ∃ (j : Nat) (a : Option Addr) (m c : Nat) (ts : List Tkn), j + fu = m6 ∧ v = .slice a m c ∧ i = .int .i64 j ∧ Mem (StaysB g w0) g w0 wr ⟨0, 0⟩ (tkd a m c ts :: own zb [.string x.name, .slice b1 m1 e1, .slice b2 m2 e2, .slice b3 m3 e3, .slice b4 m4 e4, .string x.etype, .slice b6 m6 e6] 50 :: []) ∧ Hid (ts = T5 ++ shCat emitT (x.evals.take j)))
                    case atStart => exact ⟨0, _, _, _, T5, by omega, rfl, rfl, M, Lib.hid (by simp [shCat_nil])⟩
                    case round =>
                      clear M
                      obtain ⟨j, a5, m5, c5, ts, hj, rfl, rfl, M, HT⟩ := hrel
                      by_cases hlt : j < m6
                      · have hjl : j < x.evals.length := by have := N6.out; omega
                        obtain ⟨cp, op, rowp, hixp, -, hrrp, hwp⟩ := SlF.rowAt (P := Tryd.prog) HY6.out opdF_firm Tryd.underlying46 size_opd (i := j) hjl
                        have ep : rowp = opdC x.evals[j] := hrrp
                        subst ep
                        have HRP := Lib.hid (fun wx hb => (hwp wx hb).1)
                        obtain ⟨TN, hTN⟩ : ∃ TN, TN = T5 ++ shCat emitT (x.evals.take (j + 1)) := ⟨_, rfl⟩
                        have HTN := Lib.hid hTN
                        have HTS : Hid (TN = ts ++ emitT j x.evals[j]) := by show _ = _; rw [hTN, shCat_snoc hjl, HT.out, List.append_assoc]
                        have hts : ts.length ≤ 20500 := by have h1 := take_cat_le (f := emitT) (l := x.evals) (K := 4) (n := 100) (j := j) (fun i p _ => emitT_le) HX.out.nE; have h2 := congrArg List.length HT.out; rw [List.length_append] at h2; have := HT5L.out; omega
                        clear hTN HT
                        have ho := HX.out.evals _ (List.getElem_mem hjl)
                        have HSD : Hid (∀ wx, g < wx.heap.size → Below w0.heap.size w0 wx → Calls Tryd.prog 31 #[.agg #[.int .i64 x.evals[j].kind, .int .i64 x.evals[j].vkind, .int .i64 x.evals[j].vint, .string x.evals[j].vtext, .string x.evals[j].var, .string x.evals[j].field]] wx (TkP wx (shSide x.evals[j]))) := fun wx h _ => side_ref h _ ho
                        have hsl := shSide_le x.evals[j]
                        unfold emitT at HTS
                        unfold opdC at HRP
                        clear hrrp hwp ho
                        generalize shSide x.evals[j] = tp at HSD HTS hsl
                        generalize x.evals[j] = o at HRP HSD HTS
                        clear hjl
                        have hj0 : (¬ ((0 : Int) < (j : Int)) ∧ Hid (j = 0)) ∨ (0 < j ∧ Hid (¬ j = 0)) := by
                          by_cases h : j = 0
                          · exact .inl ⟨by omega, Lib.hid h⟩
                          · exact .inr ⟨by omega, Lib.hid h⟩
                        rcases hj0 with ⟨hjp, hj0⟩ | ⟨hjp, hj0⟩
                        all_goals
                          go_wp2_with (first | (go_at_call 31; with_reducible refine (HSD.out _ M.gt M.new).mono ?_; rintro e w h5; replace M := M.tkq h5; clear h5; obtain ⟨ta, tn, tc, rfl, M⟩ := M) | (go_at_call 12; with_reducible refine (spkI M).mono ?_; clear M; rintro e w ⟨ta, tn, tc, rfl, M⟩) | (go_at_call 11; (with_reducible refine (tkn ?_ M).mono ?_); (focus (refine ⟨?_, by decide⟩; simp only [List.flatten_cons, List.flatten_nil, List.length_append, List.length_cons, List.length_nil]; omega)); clear M; rintro e w ⟨ta, tn, tc, rfl, M⟩) | (with_reducible (first | refine wA (HRP.out _ M.new) ?_ | (refine w_ (q_rows M ?_); clear M; intro q w M) | refine wq M ?_ | (refine wS M ?_; clear M; intro w M) | (refine wV M ?_; clear M; intro z w M) | (refine wR M ?_; clear M; intro q w M))))
                          go_roundg (m6 - (j + 1))
                          case measure => omega
                          case rel => exact ⟨j + 1, _, _, _, _, by omega, rfl, by go_num, M, Lib.hid (by rw [← HTN.out, HTS.out]; have k1 := hj0.out; simp [k1])⟩
                      · have hte : ts = T5 ++ shCat emitT x.evals := by rw [HT.out, List.take_of_length_le (by have := N6.out; omega)]
                        have HT6L : Hid (ts.length ≤ 20500) := by show _ ≤ _; have h1 := shCat_le (f := emitT) (l := x.evals) (K := 4) (fun i p _ => emitT_le); have h3 := HX.out.nE; rw [hte, List.length_append]; have := HT5L.out; omega
                        have HT6 := Lib.hid hte
                        clear hte HT
                        obtain ⟨T6, rfl⟩ : ∃ q, q = ts := ⟨_, rfl⟩
                        have hT6l := HT6L.out
                        go_wp2_with (first | (go_at_call 12; with_reducible refine (spkI M).mono ?_; clear M; rintro e w ⟨ta, tn, tc, rfl, M⟩) | (go_at_call 11; (with_reducible refine (tkn ?_ M).mono ?_); (focus (refine ⟨?_, by decide⟩; simp only [List.flatten_cons, List.flatten_nil, List.length_append, List.length_cons, List.length_nil]; omega)); clear M; rintro e w ⟨ta, tn, tc, rfl, M⟩) | (with_reducible (first | (refine w_ (q_rows M ?_); clear M; intro q w M) | refine wq M ?_ | (refine wS M ?_; clear M; intro w M) | (refine wV M ?_; clear M; intro z w M) | (refine wR M ?_; clear M; intro q w M))))
                        go_ret
                        exact M.tkp.to (by rw [HV.out, HT6.out, HT5.out]; simp)
end
end Go.Proofs.YtcebfkdhicbmkaaDoor
