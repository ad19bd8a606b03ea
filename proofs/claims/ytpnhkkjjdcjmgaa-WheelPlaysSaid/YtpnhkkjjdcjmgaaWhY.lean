/-
  wheel's Set and Clear.
-/
import Derived.Test.YtpnhkkjjdcjmgaaWhX
namespace Go.Proofs.Ytpnhkkjjdcjmgaa
open Go.RowKit
set_option linter.unusedVariables false
set_option linter.unusedSimpArgs false

theorem wfI_of {i : Int} (h1 : -9223372036854775808 ≤ i) (h2 : i ≤ 9223372036854775807) : wfI i := by
  unfold wfI
  simp [Lit.wf, IntKind.min, IntKind.max, IntKind.bits, IntKind.signed]
  omega
/-- The clock holds what is set. -/
structure ClkI (st : WSt) (W : Whl) (f : WFn) (n : Nat) : Prop where
  ok : WOk st
  holds : Holds st.now W st.S
  wher : Wher st.now st.S [] f
  cnt : n = st.S.length
theorem ClkI.there {st : WSt} {W : Whl} {f : WFn} {n : Nat} (h : ClkI st W f n) (i : Int) : (f i).isSome = hasI st.S i := by
  rw [Bool.eq_iff_iff, hasI_iff]
  have := h.wher.dom i
  rw [this]
  simp
theorem ClkI.len {st : WSt} {W : Whl} {f : WFn} {n : Nat} (h : ClkI st W f n) {k i : Nat} (hk : k < 9) (hi : i < 32) : (W k i).length ≤ 1000 := by
  have h1 := (h.holds.slot k i hk hi).length_eq
  have h2 : (st.S.filter (inP st.now (k, i))).length ≤ st.S.length := List.length_filter_le _ _
  have := h.ok.few
  omega
theorem ClkI.set {st : WSt} {W : Whl} {f : WFn} {n : Nat} (h : ClkI st W f n) {d : Ded} (hc : codeSet st d = 0) : ClkI (setW st d) (putW st.now W ⟨d.id, d.at_.toNat, st.next + 1⟩) (putF st.now f ⟨d.id, d.at_.toNat, st.next + 1⟩) (n + 1) := by
  obtain ⟨h1, h2, h3, h4⟩ := codeSet_zero hc
  have hok := h.ok.set d
  have hne : ∀ x ∈ st.S, x.id ≠ d.id := fun x hx e => by
    have : hasI st.S d.id = true := hasI_iff.2 ⟨x, hx, e⟩
    rw [h4] at this
    cases this
  unfold setW at hok ⊢
  rw [if_pos hc] at hok ⊢
  exact ⟨hok, h.holds.put ⟨by simp only; omega, by simp only; omega⟩, h.wher.set _ hne, by rw [h.cnt]; simp⟩
def SetP (g : Nat) (w0 : World) (zc : Nat) (st : WSt) (d : Ded) (L : List Ent) (e : Ending) (w : World) : Prop :=
  e = .returned (.int .i64 (codeSet st d)) ∧ ∃ v mz W f n, Mem (StaysB g w0) g w0 w ⟨0, 0⟩ (ClkL w0 zc (setW st d).now (setW st d).next v mz W n f L) ∧ ClkI (setW st d) W f n
section
variable {g : Nat} {w0 : World}
set_option maxRecDepth 8000 in
set_option maxHeartbeats 8000000 in
theorem set_bad {w : World} {zc n : Nat} {v : Nat → Value} {mz : Option Nat} {W : Whl} {f : WFn} {L : List Ent} {st : WSt} (M : Mem (StaysB g w0) g w0 w ⟨0, 0⟩ (ClkL w0 zc st.now st.next v mz W n f L)) (I : ClkI st W f n) (d : Ded) (hne : codeSet st d ≠ 0) :
    Calls Try.prog 8 #[.pointer (some ⟨zc, 0, none⟩), .agg #[.int .i64 d.kind, .int .i64 d.id, .int .i64 d.at_]] w (SetP g w0 zc st d L) := by
  have HI := Lib.hid I
  have HCZ := Lib.hid (@codeSet_zero st d)
  obtain ⟨c, hc⟩ : ∃ c, codeSet st d = c := ⟨_, rfl⟩
  have HP : Hid (c ≠ 0 → ∀ wx, Mem (StaysB g w0) g w0 wx ⟨0, 0⟩ (ClkL w0 zc st.now st.next v mz W n f L) → SetP g w0 zc st d L (.returned (.int .i64 c)) wx) := fun hne wx Mx => by
    have e : setW st d = st := by unfold setW; rw [hc, if_neg hne]
    unfold SetP
    rw [e, hc]
    exact ⟨rfl, _, _, _, _, _, Mx, I⟩
  have hn1000 : n ≤ 1000 := by have := I.cnt; have := I.ok.few; omega
  have hc0 := hc
  unfold codeSet at hc
  by_cases h1 : d.id < 1
  · rw [if_pos (by omega)] at hc
    subst hc
    have HP2 := Lib.hid (HP.out (by decide))
    clear hc0 HCZ HI I HP
    go_enter Try.func8, Try.ntmps8
    go_wp2_with (first | (with_reducible (first | (refine wB M ?_; clear M; intro zt w1 M) | refine wq M ?_ | (refine wS M ?_; clear M; intro w M) | (refine wV M ?_; clear M; intro z w M) | (refine wR M ?_; clear M; intro q w M))))
    go_ret
    exact HP2.out _ M.drop
  by_cases h2 : 1048576 < d.id
  · rw [if_pos (by omega)] at hc
    subst hc
    have HP2 := Lib.hid (HP.out (by decide))
    clear hc0 HCZ HI I HP
    go_enter Try.func8, Try.ntmps8
    go_wp2_with (first | (with_reducible (first | (refine wB M ?_; clear M; intro zt w1 M) | refine wq M ?_ | (refine wS M ?_; clear M; intro w M) | (refine wV M ?_; clear M; intro z w M) | (refine wR M ?_; clear M; intro q w M))))
    go_ret
    exact HP2.out _ M.drop
  rw [if_neg (by omega)] at hc
  have HWF : Hid (wfI d.id) := Lib.hid (wfI_of (by omega) (by omega))
  by_cases h3 : d.at_ ≤ st.now
  · rw [if_pos (.inl h3)] at hc
    subst hc
    have HP2 := Lib.hid (HP.out (by decide))
    clear hc0 HCZ HI I HP
    go_enter Try.func8, Try.ntmps8
    go_upto_region 3 with (first | (with_reducible (first | (refine wB M ?_; clear M; intro zt w1 M) | refine wq M ?_ | (refine wS M ?_; clear M; intro w M) | (refine wV M ?_; clear M; intro z w M) | (refine wR M ?_; clear M; intro q w M))))
    ((refine wp_region_calm M (by kernel_rfl) (by kernel_rfl) ?_); (repeat (first | ((with_reducible refine c_list rfl fun K hK => ?_); (first | (refine c_load (l' := ?_) ⟨_, M⟩ (fun w M => ?_) ?_; rotate_left; focus ((first | (fail) | refine q_get M (by exact rfl) ?_ | refine q_all M (by rfl) ?_ | refine q_prt M (by rfl) ?_); refine ⟨rfl, ?_⟩; with_reducible rfl)) | (refine c_pure (v := ?_) (fun w => ?_) ?_; rotate_left; focus (go_simp; try with_reducible rfl))); (try go_simp); with_reducible refine hK _ ?_; clear hK K) | ((with_reducible refine c_listg fun K hK => ?_); (first | (refine c_load (l' := ?_) ⟨_, M⟩ (fun w M => ?_) ?_; rotate_left; focus ((first | (fail) | refine q_get M (by exact rfl) ?_ | refine q_all M (by rfl) ?_ | refine q_prt M (by rfl) ?_); refine ⟨rfl, ?_⟩; with_reducible rfl)) | (refine c_pure (v := ?_) (fun w => ?_) ?_; rotate_left; focus (go_simp; try with_reducible rfl))); (try go_simp); with_reducible refine hK _ ?_; clear hK K) | (with_reducible refine c_skipT ?_) | (with_reducible refine c_skipF ?_))); (refine wpQuiet_nil ?_); clear M; intro w M)
    go_wp2_with (first | (with_reducible (first | refine wq M ?_ | (refine wS M ?_; clear M; intro w M) | (refine wV M ?_; clear M; intro z w M) | (refine wR M ?_; clear M; intro q w M))))
    go_ret
    exact HP2.out _ M.drop
  by_cases h4 : 1099511627776 < d.at_
  · rw [if_pos (.inr h4)] at hc
    subst hc
    have HP2 := Lib.hid (HP.out (by decide))
    clear hc0 HCZ HI I HP
    go_enter Try.func8, Try.ntmps8
    go_upto_region 3 with (first | (with_reducible (first | (refine wB M ?_; clear M; intro zt w1 M) | refine wq M ?_ | (refine wS M ?_; clear M; intro w M) | (refine wV M ?_; clear M; intro z w M) | (refine wR M ?_; clear M; intro q w M))))
    ((refine wp_region_calm M (by kernel_rfl) (by kernel_rfl) ?_); (repeat (first | ((with_reducible refine c_list rfl fun K hK => ?_); (first | (refine c_load (l' := ?_) ⟨_, M⟩ (fun w M => ?_) ?_; rotate_left; focus ((first | (fail) | refine q_get M (by exact rfl) ?_ | refine q_all M (by rfl) ?_ | refine q_prt M (by rfl) ?_); refine ⟨rfl, ?_⟩; with_reducible rfl)) | (refine c_pure (v := ?_) (fun w => ?_) ?_; rotate_left; focus (go_simp; try with_reducible rfl))); (try go_simp); with_reducible refine hK _ ?_; clear hK K) | ((with_reducible refine c_listg fun K hK => ?_); (first | (refine c_load (l' := ?_) ⟨_, M⟩ (fun w M => ?_) ?_; rotate_left; focus ((first | (fail) | refine q_get M (by exact rfl) ?_ | refine q_all M (by rfl) ?_ | refine q_prt M (by rfl) ?_); refine ⟨rfl, ?_⟩; with_reducible rfl)) | (refine c_pure (v := ?_) (fun w => ?_) ?_; rotate_left; focus (go_simp; try with_reducible rfl))); (try go_simp); with_reducible refine hK _ ?_; clear hK K) | (with_reducible refine c_skipT ?_) | (with_reducible refine c_skipF ?_))); (refine wpQuiet_nil ?_); clear M; intro w M)
    go_wp2_with (first | (with_reducible (first | refine wq M ?_ | (refine wS M ?_; clear M; intro w M) | (refine wV M ?_; clear M; intro z w M) | (refine wR M ?_; clear M; intro q w M))))
    go_ret
    exact HP2.out _ M.drop
  rw [if_neg (by omega)] at hc
  by_cases h5 : 1000 ≤ st.S.length
  · rw [if_pos h5] at hc
    have hn : n = 1000 := by have := I.cnt; omega
    subst hn
    subst hc
    have HP2 := Lib.hid (HP.out (by decide))
    clear hc0 HCZ HI I HP h5
    go_enter Try.func8, Try.ntmps8
    go_upto_region 3 with (first | (with_reducible (first | (refine wB M ?_; clear M; intro zt w1 M) | refine wq M ?_ | (refine wS M ?_; clear M; intro w M) | (refine wV M ?_; clear M; intro z w M) | (refine wR M ?_; clear M; intro q w M))))
    ((refine wp_region_calm M (by kernel_rfl) (by kernel_rfl) ?_); (repeat (first | ((with_reducible refine c_list rfl fun K hK => ?_); (first | (refine c_load (l' := ?_) ⟨_, M⟩ (fun w M => ?_) ?_; rotate_left; focus ((first | (fail) | refine q_get M (by exact rfl) ?_ | refine q_all M (by rfl) ?_ | refine q_prt M (by rfl) ?_); refine ⟨rfl, ?_⟩; with_reducible rfl)) | (refine c_pure (v := ?_) (fun w => ?_) ?_; rotate_left; focus (go_simp; try with_reducible rfl))); (try go_simp); with_reducible refine hK _ ?_; clear hK K) | ((with_reducible refine c_listg fun K hK => ?_); (first | (refine c_load (l' := ?_) ⟨_, M⟩ (fun w M => ?_) ?_; rotate_left; focus ((first | (fail) | refine q_get M (by exact rfl) ?_ | refine q_all M (by rfl) ?_ | refine q_prt M (by rfl) ?_); refine ⟨rfl, ?_⟩; with_reducible rfl)) | (refine c_pure (v := ?_) (fun w => ?_) ?_; rotate_left; focus (go_simp; try with_reducible rfl))); (try go_simp); with_reducible refine hK _ ?_; clear hK K) | (with_reducible refine c_skipT ?_) | (with_reducible refine c_skipF ?_))); (refine wpQuiet_nil ?_); clear M; intro w M)
    go_wp2_with (first | (with_reducible (first | refine w_ (q_get M clkC_map ?_) | refine w_ (q_lenV M (i := 3) rfl ?_) | refine wq M ?_ | (refine wS M ?_; clear M; intro w M) | (refine wV M ?_; clear M; intro z w M) | (refine wR M ?_; clear M; intro q w M))))
    go_ret
    exact HP2.out _ M.drop
  rw [if_neg h5] at hc
  have hnn : ((n : Int) == 1000) = false := beq_eq_false_iff_ne.2 (by have := I.cnt; omega)
  have HTH := Lib.hid (I.there d.id)
  by_cases h6 : hasI st.S d.id = true
  · rw [if_pos h6] at hc
    obtain ⟨p, hp⟩ : ∃ p, f d.id = some p := Option.isSome_iff_exists.1 (HTH.out.trans h6)
    have HV : Hid (Value.tuple #[(placF f d.id).getD (.agg ([.int .i64 0, .int .i64 0] : List Value).toArray), .bool (placF f d.id).isSome] = .tuple #[.agg ([.int .i64 p.1, .int .i64 p.2] : List Value).toArray, .bool true]) := by
      show _ = _
      unfold placF
      rw [hp]
      rfl
    subst hc
    have HP2 := Lib.hid (HP.out (by decide))
    clear hc0 HCZ HI I HP h5 HTH hp h6
    go_enter Try.func8, Try.ntmps8
    go_upto_region 3 with (first | (with_reducible (first | (refine wB M ?_; clear M; intro zt w1 M) | refine wq M ?_ | (refine wS M ?_; clear M; intro w M) | (refine wV M ?_; clear M; intro z w M) | (refine wR M ?_; clear M; intro q w M))))
    ((refine wp_region_calm M (by kernel_rfl) (by kernel_rfl) ?_); (repeat (first | ((with_reducible refine c_list rfl fun K hK => ?_); (first | (refine c_load (l' := ?_) ⟨_, M⟩ (fun w M => ?_) ?_; rotate_left; focus ((first | (fail) | refine q_get M (by exact rfl) ?_ | refine q_all M (by rfl) ?_ | refine q_prt M (by rfl) ?_); refine ⟨rfl, ?_⟩; with_reducible rfl)) | (refine c_pure (v := ?_) (fun w => ?_) ?_; rotate_left; focus (go_simp; try with_reducible rfl))); (try go_simp); with_reducible refine hK _ ?_; clear hK K) | ((with_reducible refine c_listg fun K hK => ?_); (first | (refine c_load (l' := ?_) ⟨_, M⟩ (fun w M => ?_) ?_; rotate_left; focus ((first | (fail) | refine q_get M (by exact rfl) ?_ | refine q_all M (by rfl) ?_ | refine q_prt M (by rfl) ?_); refine ⟨rfl, ?_⟩; with_reducible rfl)) | (refine c_pure (v := ?_) (fun w => ?_) ?_; rotate_left; focus (go_simp; try with_reducible rfl))); (try go_simp); with_reducible refine hK _ ?_; clear hK K) | (with_reducible refine c_skipT ?_) | (with_reducible refine c_skipF ?_))); (refine wpQuiet_nil ?_); clear M; intro w M)
    go_upto_region 7 with (first | (with_reducible (first | refine w_ (q_get M clkC_map ?_) | refine w_ (q_lenV M (i := 3) rfl ?_) | refine wq M ?_ | (refine wS M ?_; clear M; intro w M) | (refine wV M ?_; clear M; intro z w M) | (refine wR M ?_; clear M; intro q w M))))
    ((refine wp_region_first [0, 1, 2, 3, 4, 5, 6, 7, 8, 9, 12] [(true, 0), (true, 1), (true, 2), (true, 3), (true, 4), (true, 5), (true, 6), (true, 7), (true, 8), (true, 9), (false, 10), (false, 11), (true, 12)] (fun _ M => M) M (by kernel_rfl) (by kernel_rfl) (fun _ _ _ _ _ h => h) ?_); clear M; intro w M; (repeat (first | ((with_reducible refine m_read rfl M.kept fun K hK => ?_); (first | (refine r_lookV (fun _ M => M) (i := 3) rfl HWF.out HV.out ?_) | (refine r_load (l' := ?_) ⟨_, M.kept⟩ (fun w M => ?_) ?_; rotate_left; focus ((first | (refine q_get M clkC_map ?_) | refine q_get M (by exact rfl) ?_ | refine q_all M (by rfl) ?_ | refine q_prt M (by rfl) ?_); refine ⟨rfl, ?_⟩; with_reducible rfl)) | (refine r_pure (v := ?_) rfl (fun w => ?_) ?_; rotate_left; focus (go_simp; try with_reducible rfl))); (try go_simp); with_reducible refine hK _ ?_; clear hK K) | ((with_reducible refine m_last rfl rfl (by with_unfolding_all decide +kernel) fun K hK => ?_); (first | ((refine q_var M ?_; clear M; intro zp w M)) | ((refine q_put M (by rfl) (by rfl) (by rfl) ?_; clear M; intro w M; (try simp only [List.set_cons_zero, List.set_cons_succ] at M))) | (refine owp_of ?_; go_simp)); (try go_simp); with_reducible refine hK _ _ ?_; clear hK K) | ((with_reducible refine m_step rfl rfl fun K hK => ?_); (first | ((refine q_var M ?_; clear M; intro zp w M)) | ((refine q_put M (by rfl) (by rfl) (by rfl) ?_; clear M; intro w M; (try simp only [List.set_cons_zero, List.set_cons_succ] at M))) | (refine owp_of ?_; go_simp)); (try go_simp); with_reducible refine hK _ _ M.kept ?_; clear hK K))); (with_reducible refine m_nil ?_))
    go_wp2_with (first | (with_reducible (first | refine wq M ?_ | (refine wS M ?_; clear M; intro w M) | (refine wV M ?_; clear M; intro z w M) | (refine wR M ?_; clear M; intro q w M))))
    go_ret
    exact HP2.out _ M.drop.drop
  rw [if_neg h6] at hc
  exact absurd hc0 (by rw [← hc]; exact fun e => hne (hc ▸ e))
set_option maxRecDepth 8000 in
set_option maxHeartbeats 8000000 in
theorem set_good {w : World} {zc n : Nat} {v : Nat → Value} {mz : Option Nat} {W : Whl} {f : WFn} {L : List Ent} {st : WSt} (M : Mem (StaysB g w0) g w0 w ⟨0, 0⟩ (ClkL w0 zc st.now st.next v mz W n f L)) (I : ClkI st W f n) (d : Ded) (hnx : st.next ≤ 100000) (hcs : codeSet st d = 0) :
    Calls Try.prog 8 #[.pointer (some ⟨zc, 0, none⟩), .agg #[.int .i64 d.kind, .int .i64 d.id, .int .i64 d.at_]] w (SetP g w0 zc st d L) := by
  obtain ⟨k1, k2, k3, k4⟩ := codeSet_zero hcs
  have h1 : ¬ d.id < 1 := by omega
  have h2 : ¬ 1048576 < d.id := by omega
  have h3 : ¬ d.at_ ≤ st.now := by omega
  have h4 : ¬ 1099511627776 < d.at_ := by omega
  have HWF : Hid (wfI d.id) := Lib.hid (wfI_of (by omega) (by omega))
  have hn1000 : n < 1000 := by have := I.cnt; omega
  have hnn : ((n : Int) == 1000) = false := beq_eq_false_iff_ne.2 (by omega)
  have hf0 : f d.id = none := by
    have h8 := I.there d.id
    rw [k4] at h8
    cases hx : f d.id with
    | none => rfl
    | some p => rw [hx] at h8; cases h8
  have HV : Hid (Value.tuple #[(placF f d.id).getD (.agg ([.int .i64 0, .int .i64 0] : List Value).toArray), .bool (placF f d.id).isSome] = .tuple #[.agg ([.int .i64 0, .int .i64 0] : List Value).toArray, .bool false]) := by
    show _ = _
    unfold placF
    rw [hf0]
    rfl
  have HJ := Lib.hid (I.set hcs)
  have hset : setW st d = ⟨st.now, st.S ++ [⟨d.id, d.at_.toNat, st.next + 1⟩], st.next + 1⟩ := by unfold setW; rw [if_pos hcs]
  have HSE := Lib.hid hset
  obtain ⟨nx, hnx1⟩ : ∃ nx, st.next + 1 = nx := ⟨_, rfl⟩
  rw [hnx1] at HSE HJ
  have HNX := Lib.hid hnx1
  have w1 : IntKind.i64.wrap ((st.next : Int) + 1) = (nx : Int) := by rw [← hnx1]; exact wrap_nat (n := st.next + 1) (by omega)
  have hat : ((d.at_.toNat : Nat) : Int) = d.at_ := Int.toNat_of_nonneg (by omega)
  have hmay := I.ok.may
  have HPU : Hid (∀ wx L2, Mem (StaysB g w0) g w0 wx ⟨0, 0⟩ (ClkL w0 zc st.now nx v mz W n f L2) → Calls Try.prog 17 #[.pointer (some ⟨zc, 0, none⟩), .agg #[.int .i64 d.id, .int .i64 d.at_, .int .i64 nx]] wx fun e w' => e = .returned (.tuple #[]) ∧ ∃ v' mz', Mem (StaysB g w0) g w0 w' ⟨0, 0⟩ (ClkL w0 zc st.now nx v' mz' (putW st.now W ⟨d.id, d.at_.toNat, nx⟩) (n + 1) (putF st.now f ⟨d.id, d.at_.toNat, nx⟩) L2)) := fun wx L2 Mx => by
    have hta : (⟨d.id, d.at_.toNat, nx⟩ : Tm).at_ ≤ 1099511627776 := by show d.at_.toNat ≤ _; omega
    have hq := put_any Mx ⟨d.id, d.at_.toNat, nx⟩ hmay hta (fun k i hk hi => Nat.le_trans (I.len hk hi) (by omega)) HWF.out (by omega)
    have e1 : (if (f d.id).isSome = true then n else n + 1) = n + 1 := by rw [hf0]; rfl
    have e2 : tmC ⟨d.id, d.at_.toNat, nx⟩ = [.int .i64 d.id, .int .i64 d.at_, .int .i64 nx] := by show [Value.int .i64 d.id, .int .i64 ((d.at_.toNat : Nat) : Int), .int .i64 (nx : Int)] = _; rw [hat]
    rw [e2] at hq
    have e3 : (if (f (⟨d.id, d.at_.toNat, nx⟩ : Tm).id).isSome = true then n else n + 1) = n + 1 := e1
    rw [e3] at hq
    exact hq
  have HCS := Lib.hid hcs
  clear hcs hset hnx1 hf0 hat I k1 k2 k3 k4 hnx hmay
  generalize st.now = now0 at *
  go_enter Try.func8, Try.ntmps8
  go_upto_region 3 with (first | (with_reducible (first | (refine wB M ?_; clear M; intro zt w1 M) | refine wq M ?_ | (refine wS M ?_; clear M; intro w M) | (refine wV M ?_; clear M; intro z w M) | (refine wR M ?_; clear M; intro q w M))))
  ((refine wp_region_calm M (by kernel_rfl) (by kernel_rfl) ?_); (repeat (first | ((with_reducible refine c_list rfl fun K hK => ?_); (first | (refine c_load (l' := ?_) ⟨_, M⟩ (fun w M => ?_) ?_; rotate_left; focus ((first | (fail) | refine q_get M (by exact rfl) ?_ | refine q_all M (by rfl) ?_ | refine q_prt M (by rfl) ?_); refine ⟨rfl, ?_⟩; with_reducible rfl)) | (refine c_pure (v := ?_) (fun w => ?_) ?_; rotate_left; focus (go_simp; try with_reducible rfl))); (try go_simp); with_reducible refine hK _ ?_; clear hK K) | ((with_reducible refine c_listg fun K hK => ?_); (first | (refine c_load (l' := ?_) ⟨_, M⟩ (fun w M => ?_) ?_; rotate_left; focus ((first | (fail) | refine q_get M (by exact rfl) ?_ | refine q_all M (by rfl) ?_ | refine q_prt M (by rfl) ?_); refine ⟨rfl, ?_⟩; with_reducible rfl)) | (refine c_pure (v := ?_) (fun w => ?_) ?_; rotate_left; focus (go_simp; try with_reducible rfl))); (try go_simp); with_reducible refine hK _ ?_; clear hK K) | (with_reducible refine c_skipT ?_) | (with_reducible refine c_skipF ?_))); (refine wpQuiet_nil ?_); clear M; intro w M)
  go_upto_region 7 with (first | (with_reducible (first | refine w_ (q_get M clkC_map ?_) | refine w_ (q_lenV M (i := 3) rfl ?_) | refine wq M ?_ | (refine wS M ?_; clear M; intro w M) | (refine wV M ?_; clear M; intro z w M) | (refine wR M ?_; clear M; intro q w M))))
  ((refine wp_region_first [0, 1, 2, 3, 4, 5, 6, 7, 8, 9, 12] [(true, 0), (true, 1), (true, 2), (true, 3), (true, 4), (true, 5), (true, 6), (true, 7), (true, 8), (true, 9), (false, 10), (false, 11), (true, 12)] (fun _ M => M) M (by kernel_rfl) (by kernel_rfl) (fun _ _ _ _ _ h => h) ?_); clear M; intro w M; (repeat (first | ((with_reducible refine m_read rfl M.kept fun K hK => ?_); (first | (refine r_lookV (fun _ M => M) (i := 3) rfl HWF.out HV.out ?_) | (refine r_load (l' := ?_) ⟨_, M.kept⟩ (fun w M => ?_) ?_; rotate_left; focus ((first | (refine q_get M clkC_map ?_) | refine q_get M (by exact rfl) ?_ | refine q_all M (by rfl) ?_ | refine q_prt M (by rfl) ?_); refine ⟨rfl, ?_⟩; with_reducible rfl)) | (refine r_pure (v := ?_) rfl (fun w => ?_) ?_; rotate_left; focus (go_simp; try with_reducible rfl))); (try go_simp); with_reducible refine hK _ ?_; clear hK K) | ((with_reducible refine m_last rfl rfl (by with_unfolding_all decide +kernel) fun K hK => ?_); (first | ((refine q_var M ?_; clear M; intro zp w M)) | ((refine q_put M (by rfl) (by rfl) (by rfl) ?_; clear M; intro w M; (try simp only [List.set_cons_zero, List.set_cons_succ] at M))) | (refine owp_of ?_; go_simp)); (try go_simp); with_reducible refine hK _ _ ?_; clear hK K) | ((with_reducible refine m_step rfl rfl fun K hK => ?_); (first | ((refine q_var M ?_; clear M; intro zp w M)) | ((refine q_put M (by rfl) (by rfl) (by rfl) ?_; clear M; intro w M; (try simp only [List.set_cons_zero, List.set_cons_succ] at M))) | (refine owp_of ?_; go_simp)); (try go_simp); with_reducible refine hK _ _ M.kept ?_; clear hK K))); (with_reducible refine m_nil ?_))
  go_upto_region 11 with (first | (with_reducible (first | refine wq M ?_ | (refine wS M ?_; clear M; intro w M) | (refine wV M ?_; clear M; intro z w M) | (refine wR M ?_; clear M; intro q w M))))
  ((refine wp_region_first [0, 1, 2, 3, 4, 5, 6, 7, 8, 9] [(true, 0), (true, 1), (true, 2), (true, 3), (true, 4), (true, 5), (true, 6), (true, 7), (true, 8), (true, 9), (false, 10)] (fun _ M => M) M (by kernel_rfl) (by kernel_rfl) (fun _ _ _ _ _ h => h) ?_); clear M; intro w M; (repeat (first | ((with_reducible refine m_read rfl M.kept fun K hK => ?_); (first | (refine r_load (l' := ?_) ⟨_, M.kept⟩ (fun w M => ?_) ?_; rotate_left; focus ((first | refine q_get M (by exact rfl) ?_ | refine q_all M (by rfl) ?_ | refine q_prt M (by rfl) ?_); refine ⟨rfl, ?_⟩; with_reducible rfl)) | (refine r_pure (v := ?_) rfl (fun w => ?_) ?_; rotate_left; focus (go_simp; try with_reducible rfl))); (try go_simp); with_reducible refine hK _ ?_; clear hK K) | ((with_reducible refine m_last rfl rfl (by with_unfolding_all decide +kernel) fun K hK => ?_); (first | ((refine owp_of ?_; go_simp; (go_at_call 17; have hq := HPU.out _ _ M.dn23; with_reducible refine hq.mono ?_; clear hq M; rintro e w5 ⟨rfl, v2, mz2, M⟩; replace M := M.up23))) | (refine owp_of ?_; go_simp)); (try go_simp); with_reducible refine hK _ _ ?_; clear hK K) | ((with_reducible refine m_step rfl rfl fun K hK => ?_); (first | ((refine owp_of ?_; go_simp; (go_at_call 17; have hq := HPU.out _ _ M.dn23; with_reducible refine hq.mono ?_; clear hq M; rintro e w5 ⟨rfl, v2, mz2, M⟩; replace M := M.up23))) | (refine owp_of ?_; go_simp)); (try go_simp); with_reducible refine hK _ _ M.kept ?_; clear hK K))); (with_reducible refine m_nil ?_))
  go_wp2_with (first | (with_reducible (first | refine wq M ?_ | (refine wS M ?_; clear M; intro w M) | (refine wV M ?_; clear M; intro z w M) | (refine wR M ?_; clear M; intro q w M))))
  go_ret
  unfold SetP
  have h9 := HJ.out
  rw [HSE.out] at h9 ⊢
  rw [HCS.out]
  exact ⟨rfl, _, _, _, _, _, M.drop.drop, h9⟩
/-- wheel's Set, whatever it answers. -/
theorem set_any {w : World} {zc n : Nat} {v : Nat → Value} {mz : Option Nat} {W : Whl} {f : WFn} {L : List Ent} {st : WSt} (M : Mem (StaysB g w0) g w0 w ⟨0, 0⟩ (ClkL w0 zc st.now st.next v mz W n f L)) (I : ClkI st W f n) (d : Ded) (hnx : st.next ≤ 100000) :
    Calls Try.prog 8 #[.pointer (some ⟨zc, 0, none⟩), .agg #[.int .i64 d.kind, .int .i64 d.id, .int .i64 d.at_]] w (SetP g w0 zc st d L) := by
  by_cases h : codeSet st d = 0
  · exact set_good M I d hnx h
  · exact set_bad M I d h
end
end Go.Proofs.Ytpnhkkjjdcjmgaa
