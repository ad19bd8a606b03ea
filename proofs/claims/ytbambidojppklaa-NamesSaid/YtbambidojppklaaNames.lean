/-
  The law Names, walked: the numbers of package api are the document's.
-/
import Derived.Test.YtbambidojppklaaProg
import Derived.WalkKit
import Derived.WalkSpells
import Derived.WalkLawsBesides
import Derived.Deep.Light
import Derived.Deep.QuietTactic
import Derived.BigQuiet
import Derived.Lib.SmallJoins
import Derived.Maps.AppendAt
namespace Go.Proofs.Ytbambidojppklaa
open Go.RowKit
set_option linter.unusedVariables false
set_option linter.unusedSimpArgs false

theorem errs_at (k : Nat) (h : k < 18) : (#[.int .i64 0, .int .i64 1, .int .i64 2, .int .i64 3, .int .i64 4, .int .i64 5, .int .i64 6, .int .i64 7, .int .i64 8, .int .i64 9, .int .i64 10, .int .i64 11, .int .i64 12, .int .i64 13, .int .i64 14, .int .i64 15, .int .i64 16, .int .i64 17] : Array Value)[k]? = some (.int .i64 k) := by
  have : k = 0 ∨ k = 1 ∨ k = 2 ∨ k = 3 ∨ k = 4 ∨ k = 5 ∨ k = 6 ∨ k = 7 ∨ k = 8 ∨ k = 9 ∨ k = 10 ∨ k = 11 ∨ k = 12 ∨ k = 13 ∨ k = 14 ∨ k = 15 ∨ k = 16 ∨ k = 17 := by omega
  rcases this with rfl | rfl | rfl | rfl | rfl | rfl | rfl | rfl | rfl | rfl | rfl | rfl | rfl | rfl | rfl | rfl | rfl | rfl
  all_goals rfl
theorem rels_at (k : Nat) (h : k < 13) : (#[.int .i64 1, .int .i64 2, .int .i64 3, .int .i64 4, .int .i64 5, .int .i64 6, .int .i64 7, .int .i64 8, .int .i64 9, .int .i64 10, .int .i64 11, .int .i64 12, .int .i64 13] : Array Value)[k]? = some (.int .i64 (k + 1 : Nat)) := by
  have : k = 0 ∨ k = 1 ∨ k = 2 ∨ k = 3 ∨ k = 4 ∨ k = 5 ∨ k = 6 ∨ k = 7 ∨ k = 8 ∨ k = 9 ∨ k = 10 ∨ k = 11 ∨ k = 12 := by omega
  rcases this with rfl | rfl | rfl | rfl | rfl | rfl | rfl | rfl | rfl | rfl | rfl | rfl | rfl
  all_goals rfl
def zs1 : List Int := [1, 2, 1, 2, 3, 0, 1, 2, 3, 4, 5, 6, 7, 0, 1, 2, 1, 2, 3, 4, 1, 2, 3, 1, 2, 3, 4, 1, 2, 3, 1, 2, 3, 4]
def zs2 : List Int := [1099511627776, 1073741824, 1125899906842624, 20, 10, 4, 6, 5, 3, 2, 2, 6, 8, 12, 3000, 700, 120, 1048576, 2000, 1000, 20000, 200000, 2000, 1152921504606846976]
theorem zs1_cells : (#[.int .i64 1, .int .i64 2, .int .i64 1, .int .i64 2, .int .i64 3, .int .i64 0, .int .i64 1, .int .i64 2, .int .i64 3, .int .i64 4, .int .i64 5, .int .i64 6, .int .i64 7, .int .i64 0, .int .i64 1, .int .i64 2, .int .i64 1, .int .i64 2, .int .i64 3, .int .i64 4, .int .i64 1, .int .i64 2, .int .i64 3, .int .i64 1, .int .i64 2, .int .i64 3, .int .i64 4, .int .i64 1, .int .i64 2, .int .i64 3, .int .i64 1, .int .i64 2, .int .i64 3, .int .i64 4] : Array Value) = (zs1.map (Value.int .i64)).toArray := rfl
theorem zs2_cells : (#[.int .i64 1099511627776, .int .i64 1073741824, .int .i64 1125899906842624, .int .i64 20, .int .i64 10, .int .i64 4, .int .i64 6, .int .i64 5, .int .i64 3, .int .i64 2, .int .i64 2, .int .i64 6, .int .i64 8, .int .i64 12, .int .i64 3000, .int .i64 700, .int .i64 120, .int .i64 1048576, .int .i64 2000, .int .i64 1000, .int .i64 20000, .int .i64 200000, .int .i64 2000, .int .i64 1152921504606846976] : Array Value) = (zs2.map (Value.int .i64)).toArray := rfl

/-- An append whose run is known, in a list of operations. -/
theorem wpList_append_run {P : Program} {w : World} {ops : Array Oper} {rest : List Oper} {o : Oper} {a : Act} {Q : Exit → Act → World → Prop} {v y v' : Value} {w' : World} (hgd : o.guard = none) (s x : Operand) (t : TypeId)
    (ho : o.op = .call { callee := .builtin .append, args := #[s, x], argTypes := #[t, t] }) (hty : o.type = t) (hs : a.eval s = v) (hx : a.eval x = y)
    (hrun : (Builtin.append_ #[t, t] t #[v, y]).run P w = .ok v' w') (h : wpList P ops Q rest (a.put o.dst v') w') : wpList P ops Q (o :: rest) a w :=
  wpList_plain hgd fun _ hK => by
    unfold Oper.wp execOp
    simp only [ho, resolve, invoke, builtin, Sem.run_bind, Sem.run_pure, Result.andThen_ok, List.map_toArray, List.map_cons, List.map_nil, hs, hx, hty, hrun]
    exact hK _ _ h

theorem info_int : (Try.prog.info? 3).map (fun i => (i.zero, i.size, i.bytes)) = some (some (.int .i64 0), 1, 8) := by kernel_rfl
/-- Two slices of ints of the call's own, one behind the other. -/
theorem run_append_ints {w : World} {B1 B2 : Nat} {c1 c2 : List Int} (h1 : w.heap[B1]? = some (.cells (c1.map (Value.int .i64)).toArray 3 (0, 0))) (h2 : w.heap[B2]? = some (.cells (c2.map (Value.int .i64)).toArray 3 (0, 0)))
    (hs : c1.length + c2.length ≤ 1000) (hp : 0 < c2.length) :
    ∃ g cap w', (Builtin.append_ #[24, 24] 24 #[.slice (some ⟨B1, 0, none⟩) c1.length c1.length, .slice (some ⟨B2, 0, none⟩) c2.length c2.length]).run Try.prog w = .ok (.slice (some ⟨g, 0, none⟩) (c1.length + c2.length) cap) w' ∧
      (∀ k, k < c1.length + c2.length → w'.cell? ⟨g, k, none⟩ = some (.int .i64 ((c1 ++ c2).getD k 0))) ∧ w.grownBy w' (some B1) ∧ (g = B1 ∨ g = w.heap.size) ∧ g < w'.heap.size := by
  obtain ⟨i0, hi, hz0, hz1, hz2⟩ := info_parts info_int
  have hml : c1.length ≤ maxLen := by unfold maxLen; omega
  have hown : w.ownsRow 0 3 1 (.slice (some ⟨B1, 0, none⟩) c1.length c1.length) c1.length (c1.map (Value.int .i64)) :=
    ⟨by simp, Or.inr ⟨B1, c1.length, _, rfl, Nat.zero_le _, h1, Nat.le_refl _, hml, by simp, by simp [List.take_of_length_le]⟩⟩
  obtain ⟨v', w', hrun, hown', hgr, _, hob⟩ := run_append_own_at (P := Try.prog) w 0 24 24 3 i0 (.int .i64 0) 1 8 Try.underlying24 hi hz0 hz1 hz2 rfl (by omega) _ c1.length _ hown
    ⟨B2, 0, none⟩ c2.length c2.length (c2.map (Value.int .i64)) (by simp) (fun j u hu => by
      rw [Go.WideShapes.add_plain]
      simp only [World.cell?, h2, Nat.zero_add]
      simpa using hu) (fun u hu => by obtain ⟨z, _, rfl⟩ := List.mem_map.1 hu; rfl) (by unfold maxLen; omega) (by omega) (Nat.zero_le _)
  rcases hown'.2 with ⟨_, h0⟩ | ⟨g, cap, cur, rfl, _, hh, hnc, hcm, hsz, htk⟩
  · omega
  · refine ⟨g, cap, w', hrun, fun k hk => ?_, hgr, ?_, (Array.getElem?_eq_some_iff.1 hh).1⟩
    · simp only [World.cell?, hh]
      have h4 : (cur.toList.take ((c1.length + c2.length) * 1))[k]? = ((c1.map (Value.int .i64)) ++ (c2.map (Value.int .i64)))[k]? := by rw [htk]
      rw [List.getElem?_take, if_pos (by omega), ← List.map_append, List.getElem?_map] at h4
      have hkl : k < (c1 ++ c2).length := by simp; omega
      rw [List.getElem?_eq_getElem hkl] at h4
      simpa [List.getD, List.getElem?_eq_getElem hkl] using h4
    · simp only [Value.ownBlock] at hob
      rcases hob with h | h
      · exact Or.inl (by simpa using h)
      · exact Or.inr (by simpa using h)

theorem five (w : World) (o1 o2 o3 o4 o5 : Obj) : (((((w.alloc o1).alloc o2).alloc o3).alloc o4).alloc o5).heap[w.heap.size + 2]? = some o3 ∧ (((((w.alloc o1).alloc o2).alloc o3).alloc o4).alloc o5).heap[w.heap.size + 3]? = some o4 ∧ (((((w.alloc o1).alloc o2).alloc o3).alloc o4).alloc o5).heap[w.heap.size + 4]? = some o5 := by
  refine ⟨?_, ?_, ?_⟩ <;> (show (((((w.heap.push o1).push o2).push o3).push o4).push o5)[_]? = _; simp only [Array.getElem?_push, Array.size_push]; repeat (first | rw [if_neg (by omega)] | rw [if_pos (by omega)] | rw [if_pos trivial]))
theorem block_of_cell {w : World} {a : Addr} {v : Value} (h : w.cell? a = some v) : a.block < w.heap.size := World.block_lt_of_cell? w a h
theorem heap_new (w : World) (o : Obj) : (w.alloc o).heap[w.heap.size]? = some o := by
  show (w.heap.push o)[_]? = _; simp
theorem heap_old (w : World) (o : Obj) (k : Nat) (h : k < w.heap.size) : (w.alloc o).heap[k]? = w.heap[k]? := Below.heap_alloc w o k h

set_option maxHeartbeats 2000000 in
theorem names_walk (w : World) :
    Calls Try.prog 3 #[] w fun e w' => e = .returned (.bool true) ∧ Below w.heap.size w w' := by
  have e1 : ∀ k : Nat, k < 18 → (w.alloc (.cells #[.int .i64 0, .int .i64 1, .int .i64 2, .int .i64 3, .int .i64 4, .int .i64 5, .int .i64 6, .int .i64 7, .int .i64 8, .int .i64 9, .int .i64 10, .int .i64 11, .int .i64 12, .int .i64 13, .int .i64 14, .int .i64 15, .int .i64 16, .int .i64 17] 22)).cell? ⟨w.heap.size, k, none⟩ = some (.int .i64 k) := fun k hk => by
    rw [World.cell?_alloc_new]; exact errs_at k hk
  go_enter Try.func3, Try.ntmps3
  go_wp2_with fail
  go_loop [2] (fun i => ∃ k : Nat, k ≤ 18 ∧ i = .int .i64 k) (fun i => (18 - intOf i).toNat)
  case atStart => exact ⟨0, by omega, rfl⟩
  case round =>
    obtain ⟨k, hk, rfl⟩ := hrel
    by_cases hlt : k < 18
    · have c0 := e1 k hlt
      have HH : Hid (∀ k : Nat, k < 18 → (w.alloc (.cells #[.int .i64 0, .int .i64 1, .int .i64 2, .int .i64 3, .int .i64 4, .int .i64 5, .int .i64 6, .int .i64 7, .int .i64 8, .int .i64 9, .int .i64 10, .int .i64 11, .int .i64 12, .int .i64 13, .int .i64 14, .int .i64 15, .int .i64 16, .int .i64 17] 22)).cell? ⟨w.heap.size, k, none⟩ = some (.int .i64 k)) := e1
      clear e1
      go_wp2
      exact ⟨⟨k + 1, by omega, by go_num⟩, by simp [intOf]; omega⟩
    · clear e1
      have e2 : ∀ k : Nat, k < 13 → ((w.alloc (.cells #[.int .i64 0, .int .i64 1, .int .i64 2, .int .i64 3, .int .i64 4, .int .i64 5, .int .i64 6, .int .i64 7, .int .i64 8, .int .i64 9, .int .i64 10, .int .i64 11, .int .i64 12, .int .i64 13, .int .i64 14, .int .i64 15, .int .i64 16, .int .i64 17] 22)).alloc (.cells #[.int .i64 1, .int .i64 2, .int .i64 3, .int .i64 4, .int .i64 5, .int .i64 6, .int .i64 7, .int .i64 8, .int .i64 9, .int .i64 10, .int .i64 11, .int .i64 12, .int .i64 13] 3)).cell? ⟨w.heap.size + 1, k, none⟩ = some (.int .i64 ((k : Int) + 1)) := fun k hk => by
        have := rels_at k hk
        have h2 := World.cell?_alloc_new (w := w.alloc (.cells #[.int .i64 0, .int .i64 1, .int .i64 2, .int .i64 3, .int .i64 4, .int .i64 5, .int .i64 6, .int .i64 7, .int .i64 8, .int .i64 9, .int .i64 10, .int .i64 11, .int .i64 12, .int .i64 13, .int .i64 14, .int .i64 15, .int .i64 16, .int .i64 17] 22)) #[.int .i64 1, .int .i64 2, .int .i64 3, .int .i64 4, .int .i64 5, .int .i64 6, .int .i64 7, .int .i64 8, .int .i64 9, .int .i64 10, .int .i64 11, .int .i64 12, .int .i64 13] 3 k
        rw [World.size_alloc] at h2
        rw [h2, this]
        simp
      have HH : Hid (∀ k : Nat, k < 13 → ((w.alloc (.cells #[.int .i64 0, .int .i64 1, .int .i64 2, .int .i64 3, .int .i64 4, .int .i64 5, .int .i64 6, .int .i64 7, .int .i64 8, .int .i64 9, .int .i64 10, .int .i64 11, .int .i64 12, .int .i64 13, .int .i64 14, .int .i64 15, .int .i64 16, .int .i64 17] 22)).alloc (.cells #[.int .i64 1, .int .i64 2, .int .i64 3, .int .i64 4, .int .i64 5, .int .i64 6, .int .i64 7, .int .i64 8, .int .i64 9, .int .i64 10, .int .i64 11, .int .i64 12, .int .i64 13] 3)).cell? ⟨w.heap.size + 1, k, none⟩ = some (.int .i64 ((k : Int) + 1))) := e2
      clear e2
      go_wp2_with fail
      go_loop [4] (fun i => ∃ k : Nat, k ≤ 13 ∧ i = .int .i64 k) (fun i => (13 - intOf i).toNat)
      case atStart => exact ⟨0, by omega, rfl⟩
      case round =>
        obtain ⟨k, hk, rfl⟩ := hrel
        by_cases hlt : k < 13
        · have c0 := HH.out k hlt
          go_wp2
          exact ⟨⟨k + 1, by omega, by go_num⟩, by simp [intOf]; omega⟩
        · clear HH
          obtain ⟨W5, hW5⟩ : ∃ W5 : World, W5 = ((((w.alloc (.cells #[.int .i64 0, .int .i64 1, .int .i64 2, .int .i64 3, .int .i64 4, .int .i64 5, .int .i64 6, .int .i64 7, .int .i64 8, .int .i64 9, .int .i64 10, .int .i64 11, .int .i64 12, .int .i64 13, .int .i64 14, .int .i64 15, .int .i64 16, .int .i64 17] 22)).alloc (.cells #[.int .i64 1, .int .i64 2, .int .i64 3, .int .i64 4, .int .i64 5, .int .i64 6, .int .i64 7, .int .i64 8, .int .i64 9, .int .i64 10, .int .i64 11, .int .i64 12, .int .i64 13] 3)).alloc (.cells #[.int .i64 1, .int .i64 2, .int .i64 1, .int .i64 2, .int .i64 3, .int .i64 0, .int .i64 1, .int .i64 2, .int .i64 3, .int .i64 4, .int .i64 5, .int .i64 6, .int .i64 7, .int .i64 0, .int .i64 1, .int .i64 2, .int .i64 1, .int .i64 2, .int .i64 3, .int .i64 4, .int .i64 1, .int .i64 2, .int .i64 3, .int .i64 1, .int .i64 2, .int .i64 3, .int .i64 4, .int .i64 1, .int .i64 2, .int .i64 3, .int .i64 1, .int .i64 2, .int .i64 3, .int .i64 4] 3)).alloc (.cells #[.int .i64 1, .int .i64 2, .int .i64 1, .int .i64 2, .int .i64 3, .int .i64 0, .int .i64 1, .int .i64 2, .int .i64 3, .int .i64 4, .int .i64 5, .int .i64 6, .int .i64 7, .int .i64 0, .int .i64 1, .int .i64 2, .int .i64 1, .int .i64 2, .int .i64 3, .int .i64 4, .int .i64 1, .int .i64 2, .int .i64 3, .int .i64 1, .int .i64 2, .int .i64 3, .int .i64 4, .int .i64 1, .int .i64 2, .int .i64 3, .int .i64 1, .int .i64 2, .int .i64 3, .int .i64 4] 3)).alloc (.cells #[.int .i64 1099511627776, .int .i64 1073741824, .int .i64 1125899906842624, .int .i64 20, .int .i64 10, .int .i64 4, .int .i64 6, .int .i64 5, .int .i64 3, .int .i64 2, .int .i64 2, .int .i64 6, .int .i64 8, .int .i64 12, .int .i64 3000, .int .i64 700, .int .i64 120, .int .i64 1048576, .int .i64 2000, .int .i64 1000, .int .i64 20000, .int .i64 200000, .int .i64 2000, .int .i64 1152921504606846976] 3) := ⟨_, rfl⟩
          have hs5 : W5.heap.size = w.heap.size + 5 := by subst hW5; simp
          have b2 : W5.heap[w.heap.size + 2]? = some (.cells (zs1.map (Value.int .i64)).toArray 3 (0, 0)) := by rw [← zs1_cells, hW5]; exact (five w _ _ _ _ _).1
          have b3 : W5.heap[w.heap.size + 3]? = some (.cells (zs1.map (Value.int .i64)).toArray 3 (0, 0)) := by rw [← zs1_cells, hW5]; exact (five w _ _ _ _ _).2.1
          have b4 : W5.heap[w.heap.size + 4]? = some (.cells (zs2.map (Value.int .i64)).toArray 3 (0, 0)) := by rw [← zs2_cells, hW5]; exact (five w _ _ _ _ _).2.2
          have l1 : zs1.length = 34 := rfl
          have l2 : zs2.length = 24 := rfl
          obtain ⟨g1, cap1, W6, run1, cell1, gr1, hg1, hlt1⟩ := run_append_ints b2 b4 (by rw [l1, l2]; omega) (by rw [l2]; omega)
          have b3' : (W6.alloc (.cells #[.int .i64 1099511627776, .int .i64 1073741824, .int .i64 1125899906842624, .int .i64 20, .int .i64 10, .int .i64 4, .int .i64 6, .int .i64 5, .int .i64 3, .int .i64 2, .int .i64 2, .int .i64 6, .int .i64 8, .int .i64 12, .int .i64 3000, .int .i64 700, .int .i64 120, .int .i64 1048576, .int .i64 2000, .int .i64 1000, .int .i64 20000, .int .i64 200000, .int .i64 2000, .int .i64 1152921504606846976] 3)).heap[w.heap.size + 3]? = some (.cells (zs1.map (Value.int .i64)).toArray 3 (0, 0)) := by
            rw [heap_old _ _ _ (by have := gr1.size; omega), gr1.block _ (by omega) (by simp)]; exact b3
          have b5 : (W6.alloc (.cells #[.int .i64 1099511627776, .int .i64 1073741824, .int .i64 1125899906842624, .int .i64 20, .int .i64 10, .int .i64 4, .int .i64 6, .int .i64 5, .int .i64 3, .int .i64 2, .int .i64 2, .int .i64 6, .int .i64 8, .int .i64 12, .int .i64 3000, .int .i64 700, .int .i64 120, .int .i64 1048576, .int .i64 2000, .int .i64 1000, .int .i64 20000, .int .i64 200000, .int .i64 2000, .int .i64 1152921504606846976] 3)).heap[W6.heap.size]? = some (.cells (zs2.map (Value.int .i64)).toArray 3 (0, 0)) := by rw [← zs2_cells]; exact heap_new _ _
          obtain ⟨g2, cap2, W7, run2, cell2, gr2, hg2, hlt2⟩ := run_append_ints b3' b5 (by rw [l1, l2]; omega) (by rw [l2]; omega)
          rw [l1, l2] at run1 run2 cell1 cell2
          have hne : g1 ≠ w.heap.size + 3 := by rcases hg1 with h | h <;> omega
          have hs6 := gr1.size
          have cell1' : ∀ k, k < 34 + 24 → W7.cell? ⟨g1, k, none⟩ = some (.int .i64 ((zs1 ++ zs2).getD k 0)) := fun k hk => by
            have h1 := cell1 k hk
            have h2 : (W6.alloc (.cells #[.int .i64 1099511627776, .int .i64 1073741824, .int .i64 1125899906842624, .int .i64 20, .int .i64 10, .int .i64 4, .int .i64 6, .int .i64 5, .int .i64 3, .int .i64 2, .int .i64 2, .int .i64 6, .int .i64 8, .int .i64 12, .int .i64 3000, .int .i64 700, .int .i64 120, .int .i64 1048576, .int .i64 2000, .int .i64 1000, .int .i64 20000, .int .i64 200000, .int .i64 2000, .int .i64 1152921504606846976] 3)).cell? ⟨g1, k, none⟩ = some (.int .i64 ((zs1 ++ zs2).getD k 0)) := (World.cell?_alloc_lt W6 _ ⟨g1, k, none⟩ hlt1).trans h1
            exact gr2.cell h2 (by simpa using hne)
          have hbel : Below w.heap.size w W7 := by
            have h5 : Below w.heap.size w W5 := by subst hW5; exact ((((Joins.below_alloc2 _ _ _).alloc (by simp; omega) _).alloc (by simp; omega) _).alloc (by simp; omega) _)
            have h6 : Below w.heap.size w W6 := h5.grown gr1 (by omega) (fun k hk => by simp at hk; omega)
            have h7 : Below w.heap.size w (W6.alloc (.cells #[.int .i64 1099511627776, .int .i64 1073741824, .int .i64 1125899906842624, .int .i64 20, .int .i64 10, .int .i64 4, .int .i64 6, .int .i64 5, .int .i64 3, .int .i64 2, .int .i64 2, .int .i64 6, .int .i64 8, .int .i64 12, .int .i64 3000, .int .i64 700, .int .i64 120, .int .i64 1048576, .int .i64 2000, .int .i64 1000, .int .i64 20000, .int .i64 200000, .int .i64 2000, .int .i64 1152921504606846976] 3)) := h6.alloc h6.size _
            exact h7.grown gr2 h7.size (fun k hk => by simp at hk; omega)
          have HB : Hid (Below w.heap.size w W7) := hbel
          have C1 : Hid (∀ k, k < 34 + 24 → W7.cell? ⟨g1, k, none⟩ = some (.int .i64 ((zs1 ++ zs2).getD k 0))) := cell1'
          have C2 : Hid (∀ k, k < 34 + 24 → W7.cell? ⟨g2, k, none⟩ = some (.int .i64 ((zs1 ++ zs2).getD k 0))) := cell2
          clear hbel cell1' cell2 cell1 gr1 gr2 b2 b3 b4 b3' b5 hs5 l1 l2 hg1 hg2 hne hs6 hlt1 hlt2
          subst hW5
          go_wp2_with (first | (at_builtin; refine wpList_append_run rfl (.tmp 37) (.tmp 38) 24 rfl rfl rfl rfl run1 ?_) | (at_builtin; refine wpList_append_run rfl (.tmp 40) (.tmp 41) 24 rfl rfl rfl rfl run2 ?_))
          go_loopw [7] (fun i wr => (∃ k : Nat, k ≤ 58 ∧ i = .int .i64 k) ∧ Below W7.heap.size W7 wr) (fun i _ => (58 - intOf i).toNat)
          case atStart => exact ⟨⟨0, by omega, rfl⟩, Below.refl _ _⟩
          case round =>
            obtain ⟨⟨k, hk, rfl⟩, hbz⟩ := hrel
            by_cases hlt : k < 58
            · have c1 := (hbz.cell (p := ⟨g1, k, none⟩) (block_of_cell (C1.out k hlt))).trans (C1.out k hlt)
              have c2 := (hbz.cell (p := ⟨g2, k, none⟩) (block_of_cell (C2.out k hlt))).trans (C2.out k hlt)
              generalize (zs1 ++ zs2).getD k 0 = z at c1 c2
              go_wp2_with fail
              go_quiet (fail)
              go_wp2
              go_roundw
              case rel => exact ⟨⟨k + 1, by omega, by go_num⟩, hbz.trans (Joins.below_draws _ _ _)⟩
              case measure => simp [intOf]; omega
            · go_wp2
              go_ret
              exact ⟨rfl, HB.out.trans (hbz.mono HB.out.size)⟩
end Go.Proofs.Ytbambidojppklaa
