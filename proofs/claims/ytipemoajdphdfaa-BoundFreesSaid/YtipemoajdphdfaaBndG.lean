/-
  The walks of package bound and its reference, fifth part: the free matrix, and its law.
-/
import Derived.Test.YtipemoajdphdfaaBndF
import Derived.Lib.Hide
namespace Go.Proofs.Ytipemoajdphdfaa
open Go.RowKit
set_option linter.unusedVariables false
set_option linter.unusedSimpArgs false

set_option maxHeartbeats 1000000 in
theorem freeOf_good (n : Nat) (hn : n ≤ 12) (w : World) :
    Calls Try.prog 24 #[.int .i64 n] w fun e w' => ∃ ao' cap', e = .returned (.tuple #[.slice ao' n cap', .int .i64 0]) ∧ Below w.heap.size w w' ∧ SlF (from_ w.heap.size) w' 1 lineF ao' n cap' (freeM n n) := by
  have h : inB (n : Int) 0 12 = true := inB_true.2 (by omega)
  have H : Hid (∀ wx, Calls Try.prog 42 #[.int .i64 n, .int .i64 0, .int .i64 12] wx fun e w' => e = .returned (.bool true) ∧ wx = w') := fun wx => by
    refine (in_any n 0 12 wx).mono ?_
    rintro e w' ⟨rfl, rfl⟩
    exact ⟨ret_bool h, rfl⟩
  clear h
  go_enter Try.func24, Try.ntmps24
  go_wp2_with (first | (go_at_call 42; refine (H.out _).mono ?_; rintro e w' ⟨rfl, rfl⟩) | (go_at_call 48; refine (freeMatrix_any n hn _).mono ?_; rintro e w1 ⟨ao1, cap1, rfl, hb1, hS1⟩))
  go_ret2
  exact ⟨ao1, cap1, rfl, hb1, hS1⟩
set_option maxHeartbeats 1000000 in
theorem freeOf_bad (n : Int) (hn : n < 0 ∨ 12 < n) (w : World) :
    Calls Try.prog 24 #[.int .i64 n] w fun e w' => e = .returned (.tuple #[.slice none 0 0, .int .i64 1]) ∧ Below w.heap.size w w' := by
  have h : inB n 0 12 = false := inB_false.2 (by omega)
  have H : Hid (∀ wx, Calls Try.prog 42 #[.int .i64 n, .int .i64 0, .int .i64 12] wx fun e w' => e = .returned (.bool false) ∧ wx = w') := fun wx => by
    refine (in_any n 0 12 wx).mono ?_
    rintro e w' ⟨rfl, rfl⟩
    exact ⟨ret_bool h, rfl⟩
  clear h hn
  go_enter Try.func24, Try.ntmps24
  go_wp2_with (go_at_call 42; refine (H.out _).mono ?_; rintro e w' ⟨rfl, rfl⟩)
  go_ret2
  exact ⟨rfl, Below.refl _ _⟩
set_option maxHeartbeats 1000000 in
theorem free_bad (n : Int) (hn : n < 0 ∨ 12 < n) (w : World) :
    Calls Try.prog 23 #[.int .i64 n] w fun e w' => e = .returned (.tuple #[.slice none 0 0, .int .i64 1]) ∧ Below w.heap.size w w' := by
  rcases hn with hn | hn
  all_goals
    go_enter Try.func23, Try.ntmps23
    go_wp2
    go_ret2
    exact ⟨rfl, Below.refl _ _⟩

/-- A block known whole, one cell of it stored. -/
theorem block_set {w : World} {g i : Nat} {e : TypeId} {cs : List Value} {fr : Nat × Nat} (h : w.heap[g]? = some (.cells cs.toArray e fr)) (u : Value) : (w.setCell ⟨g, i, none⟩ u).heap[g]? = some (.cells (cs.set i u).toArray e fr) := by
  simp only [World.setCell, Array.getElem?_modify, if_true, h, Option.map_some]
  simp [Array.setIfInBounds]
  intro h; rw [List.set_eq_of_length_le h]
set_option maxHeartbeats 2000000 in
set_option maxRecDepth 100000 in
theorem free_good (n : Nat) (hn : n ≤ 12) (w : World) :
    Calls Try.prog 23 #[.int .i64 n] w fun e w' => ∃ ao' cap', e = .returned (.tuple #[.slice ao' n cap', .int .i64 0]) ∧ Below w.heap.size w w' ∧ SlF (from_ w.heap.size) w' 1 lineF ao' n cap' (freeM n n) := by
  obtain ⟨i1, hi', hy0, hy1, hy2⟩ := info_parts info_ints
  have hn' : (n : Int) ≤ 12 := by omega
  go_enter Try.func23, Try.ntmps23
  go_wp2_with fail
  go_loopw [4, 14] (fun o i wr => ∃ k : Nat, k ≤ n ∧ i = .int .i64 k ∧ Below w.heap.size w wr ∧ OwnF (from_ w.heap.size) w.heap.size wr 67 1 lineF o (freeM n k)) (fun _ i _ => n - (intOf i).toNat)
  case atStart => exact ⟨0, by omega, rfl, Below.refl _ _, OwnF.empty⟩
  case round =>
    obtain ⟨k, hk, rfl, hbr, hmd⟩ := hrel
    have hwr : w.heap.size ≤ wr.heap.size := hbr.size
    have MD : Hid (OwnF (from_ w.heap.size) w.heap.size wr 67 1 lineF _ (freeM n k)) := hmd
    clear hmd
    by_cases hlt : k < n
    · have hcn : Hid (∀ wx : World, (wx.alloc (.cells #[.int .i64 1152921504606846976] 3)).cell? ⟨wx.heap.size, 0, none⟩ = some (.int .i64 1152921504606846976)) := fun wx => by simp
      go_wp2_with fail
      refine (repeat_any n hn wr.heap.size _ (hcn.out _)).mono ?_
      rintro e w1 ⟨g, rfl, hb1, hg, G1⟩
      have hs1 : wr.heap.size + 1 ≤ w1.heap.size := by have := hb1.size; simpa using this
      have hg' : wr.heap.size + 1 ≤ g := by simpa using hg
      have hglt : g < w1.heap.size := (Array.getElem?_eq_some_iff.1 G1.out).1
      have c1 : w1.cell? ⟨g, k, none⟩ = some (.int .i64 noneI) := by
        have := G1.out
        simp only [World.cell?, this]
        simpa using filled_at hlt
      have f1 : w1.frozen? ⟨g, k, none⟩ = false := by
        have := G1.out
        simp only [World.frozen?, this]
        simp
      have G2 : Hid ((w1.setCell ⟨g, k, none⟩ (.int .i64 0)).heap[g]? = some (.cells ((freeRow n k).map (Value.int .i64)).toArray 3 (0, 0))) := by
        have := block_set (i := k) G1.out (.int .i64 0)
        rw [freeRow_cells n k hlt] at this
        exact this
      have hbB : Below wr.heap.size wr (w1.setCell ⟨g, k, none⟩ (.int .i64 0)) := ((Joins.below_alloc1 wr _).trans (hb1.mono (by simp))).setCell (by simp; omega) _
      have hS : SlF (from_ wr.heap.size) (w1.setCell ⟨g, k, none⟩ (.int .i64 0)) 1 intF (some ⟨g, 0, none⟩) n n (freeRow n k) := by
        have := slF_block (F := from_ wr.heap.size) G2.out (by show _ ≤ _; omega) (by rw [freeRow_len]; unfold maxLen; omega)
        rw [freeRow_len] at this
        exact this
      have M2 := (MD.out.below lineF_firm hbB).alloc lineF_firm (.cells #[.slice (some ⟨g, 0, none⟩) n n] 67)
      have HY : Hid (lineF (off_ (from_ w.heap.size) u4) ((w1.setCell ⟨g, k, none⟩ (.int .i64 0)).alloc (.cells #[.slice (some ⟨g, 0, none⟩) n n] 67)) [.slice (some ⟨g, 0, none⟩) n n] (freeRow n k)) :=
        ⟨_, _, _, rfl, (hS.wide intF_firm (fun b hb _ => off_new MD.out hwr b hb)).below intF_firm (Joins.below_alloc1 _ _), by rw [freeRow_len]; omega⟩
      have hk2 : Hid ((freeM n k).length = k) := freeM_len n k
      have HM2 : Hid (OwnF (from_ w.heap.size) w.heap.size ((w1.setCell ⟨g, k, none⟩ (.int .i64 0)).alloc (.cells #[.slice (some ⟨g, 0, none⟩) n n] 67)) 67 1 lineF u4 (freeM n k)) := M2
      have hw2 : w.heap.size ≤ w1.heap.size := by omega
      clear hS M2 G1 G2
      go_wp2_with (first
        | (at_builtin; go_loud (refine wpList_append_F rfl _ _ 23 rfl w.heap.size 67 i1 (.slice none 0 0) 1 24 Try.underlying23 hi' hy0 hy1 hy2 rfl (by decide) _ k rfl HM2.out hk2.out lineF_firm (freeRow n k) [.slice (some ⟨g, 0, none⟩) n n] ⟨w1.heap.size, 0, none⟩ rfl rfl (by simpa using cell_one_new (w1.setCell ⟨g, k, none⟩ (.int .i64 0)) _ _) (fun u hu => by rw [List.mem_singleton.1 hu]; rfl) HY.out (by omega) (by decide) (by simp; omega) ?_); intro ra5 rc5 w5 hown' hgrow hb5)
        | fail)
      rw [← freeM_snoc] at hown'
      exact ⟨⟨k + 1, by omega, by go_num, ((hbr.trans (hbB.mono hwr)).alloc (by simp; omega) _).trans hb5, hown'⟩, by simp [intOf]; omega⟩
    · obtain rfl : k = n := by omega
      go_wp2
      go_ret2
      obtain ⟨ao', cap', rfl, hS⟩ := MD.out.done lineF_firm (G := from_ w.heap.size) (by omega) (fun b _ h => h.elim id id)
      rw [freeM_len] at hS ⊢
      exact ⟨ao', cap', rfl, hbr, hS⟩

set_option maxHeartbeats 1000000 in
theorem boundFrees_walk (n : Int) (w : World) :
    Calls Try.prog 6 #[.int .i64 n] w fun e w' => e = .returned (.bool true) ∧ Below w.heap.size w w' := by
  by_cases h : n < 0 ∨ 12 < n
  · have H : Hid (n < 0 ∨ 12 < n) := h
    clear h
    have S0 : ∀ wx : World, Calls Try.prog 25 #[.slice none 0 0, .slice none 0 0] wx fun e w' => e = .returned (.bool true) ∧ Below wx.heap.size wx w' := fun wx => sameRows_yes (from_ 0) (from_ 0) none 0 0 none 0 0 [] wx SlF.nil SlF.nil
    have S1 := Lib.hid S0
    clear S0
    go_enter Try.func6, Try.ntmps6
    go_wp2_with fail
    refine (free_bad n H.out _).mono ?_
    rintro e w1 ⟨rfl, hb1⟩
    go_wp2_with fail
    refine (freeOf_bad n H.out _).mono ?_
    rintro e w2 ⟨rfl, hb2⟩
    go_wp2_with fail
    refine (S1.out _).mono ?_
    rintro e w3 ⟨rfl, hb3⟩
    go_wp2
    go_ret
    exact ⟨rfl, (by repeat (first | exact Below.refl _ _ | assumption | refine below_step ?_ (by assumption) | refine below_step ?_ (Joins.below_draws _ _ _) | (refine Below.alloc ?_ (by first | omega | (simp; done) | (simp; omega)) _) | (refine Below.setCell ?_ (by first | omega | (simp; done) | (simp; omega)) _) | refine Below.drew ?_))⟩
  · obtain ⟨m, rfl⟩ : ∃ m : Nat, n = m := ⟨n.toNat, by omega⟩
    have hm : m ≤ 12 := by omega
    clear h
    go_enter Try.func6, Try.ntmps6
    go_wp2_with fail
    refine (free_good m hm _).mono ?_
    rintro e w1 ⟨ao1, cap1, rfl, hb1, hS1⟩
    go_wp2_with fail
    refine (freeOf_good m hm _).mono ?_
    rintro e w2 ⟨ao2, cap2, rfl, hb2, hS2⟩
    have hS1' := hS1.below lineF_firm hb2
    go_wp2_with fail
    refine (sameRows_yes _ _ ao1 m cap1 ao2 m cap2 _ _ hS1' hS2).mono ?_
    rintro e w3 ⟨rfl, hb3⟩
    go_wp2
    go_ret
    exact ⟨rfl, (by repeat (first | exact Below.refl _ _ | assumption | refine below_step ?_ (by assumption) | refine below_step ?_ (Joins.below_draws _ _ _) | (refine Below.alloc ?_ (by first | omega | (simp; done) | (simp; omega)) _) | (refine Below.setCell ?_ (by first | omega | (simp; done) | (simp; omega)) _) | refine Below.drew ?_))⟩
end Go.Proofs.Ytipemoajdphdfaa
