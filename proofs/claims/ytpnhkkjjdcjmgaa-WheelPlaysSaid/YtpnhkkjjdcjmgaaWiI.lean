/-
  The reference's alarms: the place of one, without one, the earliest.
-/
import Derived.Test.YtpnhkkjjdcjmgaaWiH
namespace Go.Proofs.Ytpnhkkjjdcjmgaa
open Go.RowKit
set_option linter.unusedVariables false
set_option linter.unusedSimpArgs false

abbrev almC (t : Tm) : List Value := [.int .i64 t.id, .int .i64 t.at_]
abbrev almF : (Nat → Prop) → World → List Value → Tm → Prop := plainF almC
theorem in_any (x lo hi : Int) (w : World) : Calls Try.prog 12 #[.int .i64 x, .int .i64 lo, .int .i64 hi] w fun e w' => e = .returned (.bool (decide (lo ≤ x) && decide (x ≤ hi))) ∧ Below w.heap.size w w' := by
  by_cases h1 : lo ≤ x
  · by_cases h2 : x ≤ hi
    · rw [decide_eq_true h1, decide_eq_true h2]
      go_enter Try.func12, Try.ntmps12
      go_wp2
      go_ret
      exact ⟨rfl, Below.refl _ _⟩
    · rw [decide_eq_true h1, decide_eq_false h2]
      go_enter Try.func12, Try.ntmps12
      go_wp2
      go_ret
      exact ⟨rfl, Below.refl _ _⟩
  · rw [decide_eq_false h1]
    go_enter Try.func12, Try.ntmps12
    go_wp2
    go_ret
    exact ⟨rfl, Below.refl _ _⟩
theorem timeMay_any (x : Int) (w : World) : Calls Try.prog 11 #[.int .i64 x] w fun e w' => e = .returned (.bool (decide (0 ≤ x) && decide (x ≤ 1099511627776))) ∧ Below w.heap.size w w' := by
  have HI := Lib.hid (in_any x 0 1099511627776)
  generalize (decide (0 ≤ x) && decide (x ≤ 1099511627776)) = b at *
  go_enter Try.func11, Try.ntmps11
  go_wp2_with (go_at_call 12; refine (HI.out _).mono ?_; rintro e w' ⟨rfl, hb⟩)
  go_ret
  exact ⟨rfl, hb⟩
/-- The place of an alarm; -1: it is not set. -/
def IdxOf (S : List Tm) (id : Int) (r : Int) : Prop := (r = -1 ∧ ∀ j (h : j < S.length), S[j].id ≠ id) ∨ ∃ k, ∃ h : k < S.length, r = (k : Int) ∧ S[k].id = id ∧ ∀ j (h : j < S.length), j < k → S[j].id ≠ id
theorem idxOf_any (S : List Tm) (id : Int) : ∃ r, IdxOf S id r := by
  cases h : hasI S id with
  | true =>
    obtain ⟨t, ht, e⟩ := hasI_iff.1 h
    obtain ⟨k, hk, rfl⟩ := List.mem_iff_getElem.1 ht
    obtain ⟨m, ⟨hm, hme⟩, hmin⟩ := least_one (p := fun k => ∃ h : k < S.length, S[k].id = id) k ⟨hk, e⟩
    exact ⟨m, .inr ⟨m, hm, rfl, hme, fun j h hj q => hmin j hj ⟨h, q⟩⟩⟩
  | false => exact ⟨-1, .inl ⟨rfl, fun j hj e => by
    have : hasI S id = true := hasI_iff.2 ⟨S[j], List.getElem_mem hj, e⟩
    rw [h] at this
    cases this⟩⟩
theorem IdxOf.has {S : List Tm} {id r : Int} (h : IdxOf S id r) : (0 ≤ r ↔ hasI S id = true) := by
  rcases h with ⟨rfl, h⟩ | ⟨k, hk, rfl, e, _⟩
  · constructor
    · intro h1; exact absurd h1 (by decide)
    · intro h1
      obtain ⟨t, ht, e⟩ := hasI_iff.1 h1
      obtain ⟨j, hj, rfl⟩ := List.mem_iff_getElem.1 ht
      exact absurd e (h j hj)
  · exact ⟨fun _ => hasI_iff.2 ⟨_, List.getElem_mem hk, e⟩, fun _ => by omega⟩
/-- Without it: by its number. -/
theorem erase_filter {S : List Tm} {id : Int} {k : Nat} (hk : k < S.length) (e : S[k].id = id) (hu : S.Pairwise fun a b => a.id ≠ b.id) : S.eraseIdx k = S.filter fun t => !(t.id == id) := by
  have hP := List.pairwise_iff_getElem.1 hu
  rw [List.eraseIdx_eq_take_drop_succ]
  conv => rhs; rw [← List.take_append_drop k S, List.filter_append]
  have h1 : (S.take k).filter (fun t => !(t.id == id)) = S.take k := List.filter_eq_self.2 fun x hx => by
    obtain ⟨i, hi, rfl⟩ := List.mem_iff_getElem.1 hx
    have hik : i < k := by simp at hi; omega
    have := hP i k (by omega) hk hik
    rw [List.getElem_take]
    rw [e] at this
    simpa using this
  have h2 : (S.drop k).filter (fun t => !(t.id == id)) = S.drop (k + 1) := by
    rw [List.drop_eq_getElem_cons hk, List.filter_cons, if_neg (by simp [e])]
    refine List.filter_eq_self.2 fun x hx => ?_
    obtain ⟨i, hi, rfl⟩ := List.mem_iff_getElem.1 hx
    rw [List.getElem_drop]
    have hi2 : k + 1 + i < S.length := by simp at hi; omega
    have := hP k (k + 1 + i) hk hi2 (by omega)
    rw [e] at this
    have h3 : S[k + 1 + i].id ≠ id := fun q => this q.symm
    simpa using h3
  rw [h1, h2]
section
variable {g : Nat} {w0 : World}
set_option maxRecDepth 8000 in
set_option maxHeartbeats 8000000 in
theorem alarmAt_any {w : World} {n rc : Nat} {ra : Option Addr} {S : List Tm} {F : Nat → Prop} (X : SlF F w 2 almF ra n rc S) (id : Int) (r : Int) (hr : IdxOf S id r) (hn : n ≤ 100000) :
    Calls Try.prog 13 #[.slice ra n rc, .int .i64 id] w fun e w' => e = .returned (.int .i64 r) ∧ Below w.heap.size w w' := by
  have HX := Lib.hid X
  have HN : Hid (n = S.length) := Lib.hid X.len
  have HR := Lib.hid hr
  clear X hr
  go_enter Try.func13, Try.ntmps13
  go_wp2
  go_loopg [5] n (fun f' i5 wr => ∃ j : Nat, j + f' = n ∧ i5 = .int .i64 j ∧ Below w.heap.size w wr ∧ Hid (∀ i (h : i < S.length), i < j → S[i].id ≠ id))
  case atStart => exact ⟨0, by omega, rfl, Below.refl _ _, Lib.hid (fun i _ h => by omega)⟩
  case round =>
    obtain ⟨j, hj, rfl, hb, HB⟩ := hrel
    by_cases hlt : j < n
    · have hjl : j < S.length := by have := HN.out; omega
      obtain ⟨cp, op, rowp, hixp, -, hrrp, hwp⟩ := SlF.rowAt (P := Try.prog) HX.out (plainF_firm almC) Try.underlying47 size_alm (i := j) hjl
      have ep : rowp = almC S[j] := hrrp
      rw [ep] at hwp
      have hc := (hwp wr hb).1 0 (.int .i64 S[j].id) rfl
      have HNE : Hid (S[j].id ≠ id → ∀ i (h : i < S.length), i < j + 1 → S[i].id ≠ id) := fun h i hi hij => by
        by_cases e : i = j
        · subst e; exact h
        · exact HB.out i hi (by omega)
      have HEQ : Hid (S[j].id = id → r = (j : Int)) := fun h => by
        rcases HR.out with ⟨_, h2⟩ | ⟨k, hk, rfl, he, hm⟩
        · exact absurd h (h2 j hjl)
        · by_cases h3 : j < k
          · exact absurd h (hm j hjl h3)
          · by_cases h4 : k < j
            · exact absurd he (HB.out k hk h4)
            · have : k = j := by omega
              rw [this]
      clear hwp hrrp ep
      generalize S[j].id = xi at *
      rw [Nat.add_zero] at hc
      by_cases he : xi = id
      · have HE2 := Lib.hid (HEQ.out he)
        have hq : (xi == id) = true := beq_iff_eq.2 he
        clear he HEQ HNE HB
        go_wp2
        go_ret
        exact ⟨by rw [HE2.out]; rfl, hb⟩
      · have HN2 := Lib.hid (HNE.out he)
        have hq : (xi == id) = false := beq_eq_false_iff_ne.2 he
        clear he HEQ HNE HB
        go_wp2
        go_roundg (n - (j + 1))
        case measure => omega
        case rel => exact ⟨j + 1, by omega, by go_num, hb, HN2⟩
    · have HE : Hid (r = -1) := by
        rcases HR.out with ⟨h1, _⟩ | ⟨k, hk, rfl, he, _⟩
        · exact Lib.hid h1
        · exact absurd he (HB.out k hk (by have := HN.out; omega))
      clear HB
      go_wp2
      go_ret
      exact ⟨by rw [HE.out]; rfl, hb⟩
theorem erase_step {S : List Tm} {j k : Nat} (hj : j < S.length) : (S.take (j + 1)).eraseIdx k = if j = k then (S.take j).eraseIdx k else (S.take j).eraseIdx k ++ [S[j]] := by
  rw [List.take_succ_eq_append_getElem hj]
  have hl : (S.take j).length = j := by rw [List.length_take]; omega
  by_cases e : j = k
  · subst e
    rw [if_pos rfl, List.eraseIdx_append_of_length_le (by omega), hl, Nat.sub_self]
    show S.take j ++ [] = (S.take j).eraseIdx j
    rw [List.append_nil, List.eraseIdx_of_length_le (by omega)]
  · rw [if_neg e]
    by_cases h : k < j
    · rw [List.eraseIdx_append_of_lt_length (by omega)]
    · rw [List.eraseIdx_of_length_le (by simp; omega), List.eraseIdx_of_length_le (by omega)]
set_option maxRecDepth 8000 in
set_option maxHeartbeats 8000000 in
theorem without_any {w : World} {n rc i k : Nat} {ra : Option Addr} {S : List Tm} {L : List Ent} (M : Mem (StaysB g w0) g w0 w ⟨0, 0⟩ L) (hi : L[i]? = some (slc w0.heap.size 51 2 almF (.slice ra n rc) S)) (hn : n ≤ 100000) :
    Calls Try.prog 14 #[.slice ra n rc, .int .i64 k] w fun e w' => ∃ v, e = .returned v ∧ Mem (StaysB g w0) g w0 w' ⟨0, 0⟩ (slc w0.heap.size 51 2 almF v (S.eraseIdx k) :: L) := by
  have HHI := Lib.hid hi
  have HN : Hid (n = S.length) := Lib.hid (M.slf (plainF_firm almC) hi (by decide)).len
  have hle := (M.slf (plainF_firm almC) hi (by decide)).le
  clear hi
  replace M := M.none_ (plainF_firm almC) 51 2
  go_enter Try.func14, Try.ntmps14
  go_wp2_with (first | (with_reducible (first | refine wq M ?_ | (refine wS M ?_; clear M; intro w M) | (refine wV M ?_; clear M; intro z w M) | (refine wR M ?_; clear M; intro q w M))))
  go_loopg [5, 6] n (fun f' i5 i6 wr => ∃ (j m mc : Nat) (ma : Option Addr), j + f' = n ∧ i6 = .int .i64 j ∧ i5 = .slice ma m mc ∧ Mem (StaysB g w0) g w0 wr ⟨0, 0⟩ (slc w0.heap.size 51 2 almF (.slice ma m mc) ((S.take j).eraseIdx k) :: L))
  case atStart => exact ⟨0, 0, 0, none, by omega, rfl, rfl, by simpa using M⟩
  case round =>
    clear M
    obtain ⟨j, m, mc, ma, hj, rfl, rfl, M⟩ := hrel
    by_cases hlt : j < n
    · have hjl : j < S.length := by have := HN.out; omega
      obtain ⟨cp, op, rowp, hixp, -, hrrp, hwp⟩ := SlF.rowAt (P := Try.prog) (M.drop.slf (plainF_firm almC) HHI.out (by decide)) (plainF_firm almC) Try.underlying47 size_alm (i := j) hjl
      have ep : rowp = almC S[j] := hrrp
      rw [ep] at hwp
      have HRP : Hid (wr.rangeAt cp op [.int .i64 S[j].id, .int .i64 S[j].at_]) := Lib.hid ((hwp wr (Below.refl _ _)).1)
      have HES := Lib.hid (erase_step (k := k) hjl)
      have HLE : Hid (((S.take j).eraseIdx k).length ≤ 100000000) := by
        show _ ≤ _
        have h1 := List.length_eraseIdx_le (S.take j) k
        rw [List.length_take] at h1
        omega
      clear hwp hrrp ep
      by_cases he : j = k
      · have hq : ((j : Int) != (k : Int)) = false := by simp [he]
        rw [if_pos he] at HES
        have HES2 : Hid ((S.take j).eraseIdx k = (S.take (j + 1)).eraseIdx k) := Lib.hid HES.out.symm
        clear HES he
        go_wp2_with (first | (with_reducible (first | refine wq M ?_ | (refine wS M ?_; clear M; intro w M) | (refine wV M ?_; clear M; intro z w M) | (refine wR M ?_; clear M; intro q w M))))
        go_roundg (n - (j + 1))
        case measure => omega
        case rel => exact ⟨j + 1, m, mc, ma, by omega, by go_num, rfl, by rw [← HES2.out]; exact M⟩
      · have hq : ((j : Int) != (k : Int)) = true := by simp; omega
        rw [if_neg he] at HES
        clear he
        generalize S[j] = x0 at *
        generalize (S.take j).eraseIdx k = outj at *
        go_wp2_with (first | (((with_reducible refine o_list rfl fun K hK => ?_); (refine q_app (R := almF) (plainF_firm _) M 1 rfl x0 rfl (by rfl) (by rfl) HLE.out ?_; clear M; intro ra2 rc2 w M; (try simp only [List.set_cons_zero, List.set_cons_succ] at M)); refine hK _ _ ?_; clear hK K)) | (with_reducible (first | refine wA HRP.out ?_ | (refine w_ (q_row M (by rfl) ?_); clear M; intro q w M) | refine wq M ?_ | (refine wS M ?_; clear M; intro w M) | (refine wV M ?_; clear M; intro z w M) | (refine wR M ?_; clear M; intro q w M))))
        go_roundg (n - (j + 1))
        case measure => omega
        case rel => exact ⟨j + 1, _, rc2, ra2, by omega, by go_num, rfl, by rw [HES.out]; exact M.drop⟩
    · have e : n = j := by omega
      have HE : Hid ((S.take j).eraseIdx k = S.eraseIdx k) := by show _ = _; rw [← e, HN.out, List.take_length]
      have hjj : ¬ (j : Int) < (n : Int) := by omega
      go_wp2_with (first | (with_reducible (first | refine wq M ?_ | (refine wS M ?_; clear M; intro w M) | (refine wV M ?_; clear M; intro z w M) | (refine wR M ?_; clear M; intro q w M))))
      go_ret
      rw [HE.out] at M
      exact ⟨_, rfl, M⟩
set_option maxRecDepth 8000 in
set_option maxHeartbeats 8000000 in
theorem earliest_any {w : World} {n rc : Nat} {ra : Option Addr} {S : List Tm} {F : Nat → Prop} (X : SlF F w 2 almF ra n rc S) (h0 : 0 < n) (hn : n ≤ 100000) :
    Calls Try.prog 15 #[.slice ra n rc] w fun e w' => e = .returned (.int .i64 (bestK S n)) ∧ Below w.heap.size w w' := by
  have HX := Lib.hid X
  have HN : Hid (n = S.length) := Lib.hid X.len
  obtain ⟨g1, off1, row1, e1, -, hg1, -⟩ := X.2.2.2.2 0 (by have := X.len; omega)
  have M := Mem.begin (b := g1) hg1 ⟨0, 0⟩
  clear X e1
  go_enter Try.func15, Try.ntmps15
  go_wp2_with (first | (with_reducible (first | refine wq M ?_ | (refine wS M ?_; clear M; intro w M) | (refine wV M ?_; clear M; intro z w M) | (refine wR M ?_; clear M; intro q w M))))
  go_loopg [3, 4] n (fun f' i3 i4 wr => ∃ j : Nat, j + f' = n + 1 ∧ (0 < j ∧ j ≤ n) ∧ i4 = .int .i64 j ∧ i3 = .int .i64 (bestK S j) ∧ Mem (StaysB g1 w) g1 w wr ⟨0, 0⟩ [])
  case atStart => exact ⟨1, by omega, ⟨by omega, by omega⟩, rfl, by rw [bestK_step]; simp [bestK], M⟩
  case round =>
    clear M
    obtain ⟨j, hj, ⟨hj0, hjn⟩, rfl, rfl, M⟩ := hrel
    by_cases hlt : j < n
    · have hjl : j < S.length := by have := HN.out; omega
      have hbj : bestK S j < j := bestK_lt S j hj0
      have hbl : bestK S j < S.length := by omega
      have HST := Lib.hid (bestK_step S j)
      rw [atK_get hjl, atK_get hbl] at HST
      obtain ⟨cp, op, rowp, hixp, -, hrrp, hwp⟩ := SlF.rowAt (P := Try.prog) HX.out (plainF_firm almC) Try.underlying47 size_alm (i := j) hjl
      obtain ⟨cq, oq, rowq, hixq, -, hrrq, hwq⟩ := SlF.rowAt (P := Try.prog) HX.out (plainF_firm almC) Try.underlying47 size_alm (i := bestK S j) hbl
      have ep : rowp = almC S[j] := hrrp
      have eq : rowq = almC S[bestK S j] := hrrq
      rw [ep] at hwp
      rw [eq] at hwq
      have HC1 : Hid (∀ wx, Below w.heap.size w wx → wx.cell? ⟨cp, op + 1, none⟩ = some (.int .i64 S[j].at_)) := fun wx hb => (hwp wx hb).1 1 _ rfl
      have HC2 : Hid (∀ wx, Below w.heap.size w wx → wx.cell? ⟨cq, oq + 1, none⟩ = some (.int .i64 S[bestK S j].at_)) := fun wx hb => (hwq wx hb).1 1 _ rfl
      clear hwp hrrp ep hwq hrrq eq
      generalize S[j].at_ = x1 at *
      generalize S[bestK S j].at_ = x2 at *
      generalize bestK S j = bj at *
      by_cases he : x1 < x2
      · rw [if_pos he] at HST
        have hq : (x1 : Int) < (x2 : Int) := by omega
        go_upto_region 5 with (first | (with_reducible (first | refine wq M ?_ | (refine wS M ?_; clear M; intro w M) | (refine wV M ?_; clear M; intro z w M) | (refine wR M ?_; clear M; intro q w M))))
        ((refine wp_region_calm M (by kernel_rfl) (by kernel_rfl) ?_); (repeat (first | ((with_reducible refine c_list rfl fun K hK => ?_); (first | (refine c_load (l' := ?_) ⟨_, M⟩ (fun w M => ?_) ?_; rotate_left; focus ((first | (refine q_cellat (HC1.out _ M.new) ?_) | (refine q_cellat (HC2.out _ M.new) ?_) | refine q_get M (by exact rfl) ?_ | refine q_all M (by rfl) ?_ | refine q_prt M (by rfl) ?_); refine ⟨rfl, ?_⟩; with_reducible rfl)) | (refine c_pure (v := ?_) (fun w => ?_) ?_; rotate_left; focus (go_simp; try with_reducible rfl))); (try go_simp); with_reducible refine hK _ ?_; clear hK K) | ((with_reducible refine c_listg fun K hK => ?_); (first | (refine c_load (l' := ?_) ⟨_, M⟩ (fun w M => ?_) ?_; rotate_left; focus ((first | (refine q_cellat (HC1.out _ M.new) ?_) | (refine q_cellat (HC2.out _ M.new) ?_) | refine q_get M (by exact rfl) ?_ | refine q_all M (by rfl) ?_ | refine q_prt M (by rfl) ?_); refine ⟨rfl, ?_⟩; with_reducible rfl)) | (refine c_pure (v := ?_) (fun w => ?_) ?_; rotate_left; focus (go_simp; try with_reducible rfl))); (try go_simp); with_reducible refine hK _ ?_; clear hK K) | (with_reducible refine c_skipT ?_) | (with_reducible refine c_skipF ?_))); (refine wpQuiet_nil ?_); clear M; intro w M)
        go_wp2_with (first | (with_reducible (first | refine wq M ?_ | (refine wS M ?_; clear M; intro w M) | (refine wV M ?_; clear M; intro z w M) | (refine wR M ?_; clear M; intro q w M))))
        go_roundg (n - j)
        case measure => omega
        case rel => exact ⟨j + 1, by omega, ⟨by omega, by omega⟩, by go_num, by rw [HST.out], M⟩
      · rw [if_neg he] at HST
        have hq : ¬ (x1 : Int) < (x2 : Int) := by omega
        go_upto_region 5 with (first | (with_reducible (first | refine wq M ?_ | (refine wS M ?_; clear M; intro w M) | (refine wV M ?_; clear M; intro z w M) | (refine wR M ?_; clear M; intro q w M))))
        ((refine wp_region_calm M (by kernel_rfl) (by kernel_rfl) ?_); (repeat (first | ((with_reducible refine c_list rfl fun K hK => ?_); (first | (refine c_load (l' := ?_) ⟨_, M⟩ (fun w M => ?_) ?_; rotate_left; focus ((first | (refine q_cellat (HC1.out _ M.new) ?_) | (refine q_cellat (HC2.out _ M.new) ?_) | refine q_get M (by exact rfl) ?_ | refine q_all M (by rfl) ?_ | refine q_prt M (by rfl) ?_); refine ⟨rfl, ?_⟩; with_reducible rfl)) | (refine c_pure (v := ?_) (fun w => ?_) ?_; rotate_left; focus (go_simp; try with_reducible rfl))); (try go_simp); with_reducible refine hK _ ?_; clear hK K) | ((with_reducible refine c_listg fun K hK => ?_); (first | (refine c_load (l' := ?_) ⟨_, M⟩ (fun w M => ?_) ?_; rotate_left; focus ((first | (refine q_cellat (HC1.out _ M.new) ?_) | (refine q_cellat (HC2.out _ M.new) ?_) | refine q_get M (by exact rfl) ?_ | refine q_all M (by rfl) ?_ | refine q_prt M (by rfl) ?_); refine ⟨rfl, ?_⟩; with_reducible rfl)) | (refine c_pure (v := ?_) (fun w => ?_) ?_; rotate_left; focus (go_simp; try with_reducible rfl))); (try go_simp); with_reducible refine hK _ ?_; clear hK K) | (with_reducible refine c_skipT ?_) | (with_reducible refine c_skipF ?_))); (refine wpQuiet_nil ?_); clear M; intro w M)
        go_wp2_with (first | (with_reducible (first | refine wq M ?_ | (refine wS M ?_; clear M; intro w M) | (refine wV M ?_; clear M; intro z w M) | (refine wR M ?_; clear M; intro q w M))))
        go_roundg (n - j)
        case measure => omega
        case rel => exact ⟨j + 1, by omega, ⟨by omega, by omega⟩, by go_num, by rw [HST.out], M⟩
    · have e : j = n := by omega
      have hjj : ¬ (j : Int) < (n : Int) := by omega
      go_wp2_with (first | (with_reducible (first | refine wq M ?_ | (refine wS M ?_; clear M; intro w M) | (refine wV M ?_; clear M; intro z w M) | (refine wR M ?_; clear M; intro q w M))))
      go_ret
      exact ⟨by rw [← e]; rfl, M.new⟩
end
theorem takeR_stop {to : Nat} {S : List Tm} (h : ¬ (0 < S.length ∧ atK S (bestK S S.length) ≤ to)) : takeR to S.length S = ([], S) := by
  cases hl : S.length with
  | zero => rfl
  | succ n =>
    unfold takeR
    rw [if_neg h]
theorem takeR_step {to : Nat} {S : List Tm} (h0 : bestK S S.length < S.length) (h : S[bestK S S.length].at_ ≤ to) : takeR to S.length S = (S[bestK S S.length] :: (takeR to (S.eraseIdx (bestK S S.length)).length (S.eraseIdx (bestK S S.length))).1, (takeR to (S.eraseIdx (bestK S S.length)).length (S.eraseIdx (bestK S S.length))).2) := by
  have hl : (S.eraseIdx (bestK S S.length)).length = S.length - 1 := List.length_eraseIdx_of_lt h0
  obtain ⟨n, hn⟩ : ∃ n, S.length = n + 1 := ⟨S.length - 1, by omega⟩
  rw [hl]
  have e : takeR to S.length S = takeR to (n + 1) S := by rw [hn]
  rw [e, show S.length - 1 = n by omega]
  show (if 0 < S.length ∧ atK S (bestK S S.length) ≤ to then _ else _) = _
  rw [if_pos ⟨by omega, by rw [atK_get h0]; exact h⟩, List.getElem?_eq_getElem h0]
  rfl
theorem alm_ix {z k n rc : Nat} (hk : k < n) (wx : World) : (Instr.indexAt 47 (.slice (some ⟨z, 0, none⟩) n rc) (.int .i64 k)).run Try.prog wx = .ok (.pointer (some ⟨z, k * 2, none⟩)) wx := by
  simp [Instr.indexAt, run_underlying Try.underlying47, asIntOf, size_alm wx]
  rw [if_pos hk, Go.WideShapes.add_plain, Nat.zero_add]
section
variable {At : PS → World → Prop} {b : Nat} {u w : World} {s : PS} {L : List Ent} {i k n rc e kk : Nat} {S : List Tm}
theorem Mem.slcAddr {ra : Option Addr} (M : Mem At b u w s L) (hi : L[i]? = some (slc u.heap.size e 2 almF (.slice ra n rc) S)) (h : S ≠ []) : ∃ z, ra = some ⟨z, 0, none⟩ := by
  obtain ⟨rs, ⟨_, hrow⟩, _⟩ := M.say _ (Mem.of_get hi)
  rcases hrow with ⟨_, h0⟩ | ⟨g, cap, cur, e1, _⟩
  · exact absurd (List.eq_nil_of_length_eq_zero h0) h
  · injection e1 with e1
    exact ⟨g, e1⟩
theorem Mem.almCell {z : Nat} (M : Mem At b u w s L) (hi : L[i]? = some (slc u.heap.size e 2 almF (.slice (some ⟨z, 0, none⟩) n rc) S)) (hk : k < S.length) : w.cell? ⟨z, k * 2, none⟩ = some (.int .i64 S[k].id) ∧ w.cell? ⟨z, k * 2 + 1, none⟩ = some (.int .i64 S[k].at_) := by
  obtain ⟨b2, off, row, e1, _, _, hr, hx⟩ := (M.slf (plainF_firm almC) hi (by decide)).2.2.2.2 k hk
  injection e1 with e1
  injection e1 with e2 e3
  subst e2 e3
  have e4 : row = almC S[k] := hx
  subst e4
  have h0 := hr.2 0 (by decide)
  have h1 := hr.2 1 (by decide)
  rw [Nat.zero_add] at h0 h1
  exact ⟨h0, h1⟩
end
end Go.Proofs.Ytpnhkkjjdcjmgaa
