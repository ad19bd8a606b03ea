/-
  The walks of package bound and its reference, fourth part: the free matrix.
-/
import Derived.Test.YtldbgbcabenegaaBndX
import Derived.Handy
namespace Go.Proofs.Ytldbgbcabenegaa
open Go.RowKit
set_option linter.unusedVariables false
set_option linter.unusedSimpArgs false

theorem upto12 {n : Nat} (h : n ≤ 12) : n = 0 ∨ n = 1 ∨ n = 2 ∨ n = 3 ∨ n = 4 ∨ n = 5 ∨ n = 6 ∨ n = 7 ∨ n = 8 ∨ n = 9 ∨ n = 10 ∨ n = 11 ∨ n = 12 := by omega
set_option maxHeartbeats 1000000 in
theorem mul_one (n : Nat) (hn : n ≤ 12) (w : World) :
    Calls Try.prog 34 #[.int .u64 1, .int .u64 n] w fun e w' => e = .returned (.tuple #[.int .u64 0, .int .u64 n]) ∧ w = w' := by
  rcases upto12 hn with rfl | rfl | rfl | rfl | rfl | rfl | rfl | rfl | rfl | rfl | rfl | rfl | rfl
  all_goals
    go_enter Try.func34, Try.ntmps34
    go_wp2
    go_ret2
    exact ⟨by kernel_rfl, rfl⟩

def noneI : Int := 1152921504606846976
/-- A row of n cells, q of them filled. -/
def filled (n q : Nat) : List Value := List.replicate q (Value.int .i64 noneI) ++ List.replicate (n - q) (Value.int .i64 0)
theorem filled_len {n q : Nat} (h : q ≤ n) : (filled n q).length = n := by simp [filled]; omega
theorem filled_all (n : Nat) : filled n n = List.replicate n (Value.int .i64 noneI) := by simp [filled]
theorem filled_none (n : Nat) : (madeCells (Value.int .i64 0).cells (n * 1)).toList = filled n 0 := by
  apply List.ext_getElem
  · simp [madeCells, filled]
  · intro i h1 h2
    simp only [filled, List.replicate_zero, List.nil_append, Nat.sub_zero, List.getElem_replicate]
    simp [madeCells, Value.cells, Nat.mod_one]
theorem filled_more {n q c : Nat} (h : q + c ≤ n) : splice (filled n q) q (List.replicate c (Value.int .i64 noneI)) = filled n (q + c) := by
  unfold splice filled
  have e1 : (List.replicate q (Value.int .i64 noneI) ++ List.replicate (n - q) (Value.int .i64 0)).take q = List.replicate q (Value.int .i64 noneI) := by
    rw [List.take_left' (by simp)]
  have e2 : (List.replicate q (Value.int .i64 noneI) ++ List.replicate (n - q) (Value.int .i64 0)).drop (q + (List.replicate c (Value.int .i64 noneI)).length) = List.replicate (n - (q + c)) (Value.int .i64 0) := by
    rw [List.drop_append, List.drop_of_length_le (by simp), List.nil_append, List.drop_replicate]
    congr 1
    simp; omega
  rw [e1, e2, ← List.append_assoc, List.replicate_append_replicate]
theorem filled_at {n q j : Nat} (h : j < q) : (filled n q)[j]? = some (.int .i64 noneI) := by
  unfold filled
  rw [List.getElem?_append_left (by simpa using h), List.getElem?_replicate, if_pos h]
theorem rep_one (c : Nat) : ∀ u ∈ List.replicate c (Value.int .i64 noneI), u.oneCell' = true := fun u hu => by rw [(List.mem_replicate.1 hu).2]; rfl

theorem own_block {w : World} {B g n : Nat} {e : TypeId} {xs : List Value} (h : w.ownsRow B e 1 (.slice (some ⟨g, 0, none⟩) n n) n xs) : w.heap[g]? = some (.cells xs.toArray e (0, 0)) := by
  rcases h.2 with ⟨e1, _⟩ | ⟨g', cap, cur, e1, _, hh, _, _, hs, ht⟩
  · cases e1
  · simp at e1
    obtain ⟨rfl, rfl⟩ := e1
    rw [hh, ← ht, List.take_of_length_le (by simp; omega)]

set_option maxHeartbeats 4000000 in
set_option maxRecDepth 100000 in
theorem repeat_any (n : Nat) (hn : n ≤ 12) (b : Nat) (w : World) (hb : w.cell? ⟨b, 0, none⟩ = some (.int .i64 1152921504606846976)) :
    Calls Try.prog 29 #[.slice (some ⟨b, 0, none⟩) 1 1, .int .i64 n] w fun e w' => ∃ g, e = .returned (.slice (some ⟨g, 0, none⟩) n n) ∧ Below w.heap.size w w' ∧ w.heap.size ≤ g ∧ Hid (w'.heap[g]? = some (.cells (filled n n).toArray 3 (0, 0))) := by
  obtain ⟨i0, hi, hz0, hz1, hz2⟩ := info_parts info_int
  have hisz : (Try.prog.info? 3).map (·.size) = some 1 := by kernel_rfl
  have hblt : b < w.heap.size := block_of_cell hb
  have HB : Hid (w.cell? ⟨b, 0, none⟩ = some (.int .i64 noneI)) := hb
  have hb8 : i0.bytes * n ≤ 281474976710656 := by rw [hz2]; omega
  have hn' : (n : Int) ≤ 12 := by omega
  have hgt : decide ((9223372036854775807 : Int) < n) = false := by simp; omega
  have Z2 : Hid (i0.bytes = 8) := hz2
  clear hz2 hb
  rcases Nat.eq_zero_or_pos n with h0 | hpos
  · subst h0
    have M0 : Hid (∀ wx, Calls Try.prog 34 #[.int .u64 1, .int .u64 0] wx fun e w' => e = .returned (.tuple #[.int .u64 0, .int .u64 0]) ∧ wx = w') := fun wx => mul_one 0 (by omega) wx
    go_enter Try.func29, Try.ntmps29
    go_wp2_with (first
      | (go_at_call 34; (with_reducible refine (M0.out _).mono ?_); rintro e w' ⟨rfl, rfl⟩)
      | (at_make; refine wpList_make_full _ rfl _ _ 38 rfl w.heap.size 3 i0 (.int .i64 0) 1 Try.underlying38 hi hz0 hz1 .i64 .i64 0 0 0 rfl rfl rfl rfl hb8 (by unfold maxLen; omega) (Nat.le_refl _) ?_; intro w1 hown1 hgrow1)
      | ((with_reducible refine wpList_copy_nothing rfl _ _ 38 38 rfl 3 Try.underlying38 hisz _ _ _ _ _ _ rfl rfl rfl ?_))
      | fail)
    go_rounds 1
    go_ret
    have G1 := own_block hown1
    rw [filled_none] at G1
    exact ⟨w.heap.size, rfl, (Below.refl _ _).grown hgrow1 (Nat.le_refl _) (fun k h => by cases h), Nat.le_refl _, G1⟩
  · have hpos' : 0 < (n : Int) := by omega
    have HM : Hid ((List.replicate 1 (Value.int .i64 noneI)).length = Nat.min 1 n) := by show _ = _; rw [List.length_replicate]; exact (Nat.min_eq_left hpos).symm
    go_enter Try.func29, Try.ntmps29
    go_wp2_with (first
      | (go_at_call 34; (with_reducible refine (mul_one n hn _).mono ?_); rintro e w' ⟨rfl, rfl⟩)
      | (at_make; refine wpList_make_full _ rfl _ _ 38 rfl w.heap.size 3 i0 (.int .i64 0) 1 Try.underlying38 hi hz0 hz1 .i64 .i64 n n n rfl rfl rfl rfl hb8 (by unfold maxLen; omega) (Nat.le_refl _) ?_; intro w1 hown1 hgrow1; have G1 : Hid (w1.heap[w.heap.size]? = some (.cells (filled n 0).toArray 3 (0, 0))) := (by rw [← filled_none]; exact own_block hown1); have hb1 : Below w.heap.size w w1 := (Below.refl _ _).grown hgrow1 (Nat.le_refl _) (fun k h => by cases h); clear hown1 hgrow1; have SC : Hid (∀ j v, (List.replicate 1 (Value.int .i64 noneI))[j]? = some v → w1.cell? ((⟨b, 0, none⟩ : Addr).add j) = some v) := (fun j v h => by (obtain ⟨h2, rfl⟩ := List.getElem?_eq_some_iff.1 h; simp at h2; subst h2; simpa [Addr.add] using (hb1.cell (p := ⟨b, 0, none⟩) hblt).trans HB.out)))
      | ((with_reducible refine wpList_copy_splice rfl _ _ 38 38 rfl 3 Try.underlying38 hisz _ _ _ _ _ _ rfl rfl w.heap.size 0 (filled n 0) 3 G1.out (List.replicate 1 (Value.int .i64 noneI)) HM.out (fun _ => ⟨rfl, _, rfl, SC.out⟩) (by rw [filled_len (by omega)]; simp; omega) (rep_one 1) w.heap.size w hb1 (Nat.le_refl _) ?_; intro w2 G2 hb2))
      | fail)
    have G3 : Hid (w2.heap[w.heap.size]? = some (.cells (filled n 1).toArray 3 (0, 0))) := by
      have := G2.out
      rw [filled_more (by omega)] at this
      exact this
    clear G2 G1 SC
    go_loopw [8] (fun i wr => ∃ q : Nat, 1 ≤ q ∧ q ≤ n ∧ i = .int .i64 q ∧ Below w.heap.size w wr ∧ Hid (wr.heap[w.heap.size]? = some (.cells (filled n q).toArray 3 (0, 0)))) (fun i _ => n - (intOf i).toNat)
    case atStart => exact ⟨1, by omega, by omega, rfl, hb2, G3⟩
    case round =>
      clear G3 hb2
      obtain ⟨q, hq1, hq, rfl, hbr, GR⟩ := hrel
      by_cases hqn : q < n
      · have HM2 : Hid ((List.replicate (min q (n - q)) (Value.int .i64 noneI)).length = Nat.min q (n - q)) := by show _ = _; rw [List.length_replicate]
        have hqn' : (q : Int) < n := by omega
        have hcap : ¬ n = q := by omega
        have SC : Hid (∀ j v, (List.replicate (min q (n - q)) (Value.int .i64 noneI))[j]? = some v → wr.cell? ((⟨w.heap.size, 0, none⟩ : Addr).add j) = some v) := fun j v h => by
          obtain ⟨h2, rfl⟩ := List.getElem?_eq_some_iff.1 h
          simp at h2
          have := @filled_at n q j (by omega)
          have g := GR.out
          rw [Go.WideShapes.add_plain, Nat.zero_add, List.getElem_replicate]
          simp only [World.cell?, g]
          simpa using this
        have HF : Hid (q + (List.replicate (min q (n - q)) (Value.int .i64 noneI)).length ≤ (filled n q).length) := by show _ ≤ _; rw [filled_len hq, List.length_replicate]; omega
        go_wp2_with fail
        go_region_law (refine step_copy_splice rfl (.tmp 41) (.tmp 44) 38 38 rfl 3 Try.underlying38 hisz (some ⟨w.heap.size, q, none⟩) (some ⟨w.heap.size, 0, none⟩) (n - q) (n - q) q n (by simp [Act.eval, Act.put]) (by simp [Act.eval, Act.put]) w.heap.size q (filled n q) 3 GR.out (List.replicate (min q (n - q)) (Value.int .i64 noneI)) HM2.out (fun _ => ⟨rfl, _, rfl, SC.out⟩) HF.out (rep_one _) w.heap.size w hbr.drew (Nat.le_refl _) ?_; intro w4 G4 hb4)
        have G5 : Hid (w4.heap[w.heap.size]? = some (.cells (filled n (q + min q (n - q))).toArray 3 (0, 0))) := by
          have := G4.out
          rw [filled_more (by omega)] at this
          exact this
        clear G4 SC HF GR
        have hwrap : IntKind.i64.wrap ((q : Int) + ((min q (n - q) : Nat) : Int)) = ((q + min q (n - q) : Nat) : Int) := by rw [IntWalk.i64_in _ (by omega)]; push_cast; rfl
        go_frame
        simp only [List.length_replicate, hwrap]
        go_roundw
        case rel => ((repeat apply Exists.intro); exact ⟨⟨q + min q (n - q), by omega, by omega, rfl, hb4, G5⟩, rfl⟩)
        case measure => simp [intOf]; omega
      · obtain rfl : q = n := by omega
        go_wp2
        go_ret
        exact ⟨w.heap.size, rfl, hbr, Nat.le_refl _, GR⟩

def freeRow (n i : Nat) : List Int := (List.range n).map fun k => if i = k then 0 else noneI
def freeM (n k : Nat) : List (List Int) := (List.range k).map (freeRow n)
theorem freeM_snoc (n k : Nat) : freeM n (k + 1) = freeM n k ++ [freeRow n k] := by simp [freeM, List.range_succ]
theorem freeM_len (n k : Nat) : (freeM n k).length = k := by simp [freeM]
theorem freeRow_len (n i : Nat) : (freeRow n i).length = n := by simp [freeRow]
theorem freeRow_cells (n i : Nat) (hi : i < n) : (filled n n).set i (.int .i64 0) = (freeRow n i).map (Value.int .i64) := by
  apply List.ext_getElem
  · simp [filled, freeRow]
  · intro j h1 h2
    simp only [List.getElem_set, filled_all, freeRow, List.getElem_map, List.getElem_range, List.getElem_replicate]
    split <;> simp [*]
/-- A block that is known whole, as a slice. -/
theorem slF_block {F : Nat → Prop} {w : World} {g : Nat} {e : TypeId} {xs : List Int} (h : w.heap[g]? = some (.cells (xs.map (Value.int .i64)).toArray e (0, 0))) (hF : F g) (hn : xs.length ≤ maxLen) : SlF F w 1 intF (some ⟨g, 0, none⟩) xs.length xs.length xs := by
  refine ⟨rfl, Nat.le_refl _, hn, by simp, fun i hi => ?_⟩
  refine ⟨g, 0, [.int .i64 xs[i]], rfl, hF, (Array.getElem?_eq_some_iff.1 h).1, ⟨rfl, fun j hj => ?_⟩, rfl⟩
  obtain rfl : j = 0 := by omega
  simp only [World.cell?, h]
  simp [List.getElem?_eq_getElem hi]

set_option maxHeartbeats 2000000 in
theorem freeMatrix_any (n : Nat) (hn : n ≤ 12) (w : World) :
    Calls Try.prog 24 #[.int .i64 n] w fun e w' => ∃ ao' cap', e = .returned (.slice ao' n cap') ∧ Below w.heap.size w w' ∧ SlF (from_ w.heap.size) w' 1 lineF ao' n cap' (freeM n n) := by
  obtain ⟨i0, hi, hz0, hz1, hz2⟩ := info_parts info_int
  obtain ⟨i1, hi', hy0, hy1, hy2⟩ := info_parts info_ints
  go_enter Try.func24, Try.ntmps24
  go_wp2_with fail
  go_loopw [3, 4] (fun o i wr => ∃ k : Nat, k ≤ n ∧ i = .int .i64 k ∧ Below w.heap.size w wr ∧ OwnF (from_ w.heap.size) w.heap.size wr 38 1 lineF o (freeM n k)) (fun _ i _ => n - (intOf i).toNat)
  case atStart => exact ⟨0, by omega, rfl, Below.refl _ _, OwnF.empty⟩
  case round =>
    obtain ⟨k, hk, rfl, hbr, hmd⟩ := hrel
    have hwr : w.heap.size ≤ wr.heap.size := hbr.size
    have MD : Hid (OwnF (from_ w.heap.size) w.heap.size wr 38 1 lineF _ (freeM n k)) := hmd
    clear hmd
    by_cases hlt : k < n
    · obtain ⟨wo, rfl⟩ : ∃ wo : World, wo = wr := ⟨_, rfl⟩
      go_wp2_with fail
      go_loopw [5, 6] (fun r j wi => ∃ q : Nat, q ≤ n ∧ j = .int .i64 q ∧ Below wo.heap.size wo wi ∧ OwnF (from_ wo.heap.size) wo.heap.size wi 3 1 intF r ((freeRow n k).take q)) (fun _ j _ => n - (intOf j).toNat)
      case atStart => exact ⟨0, by omega, rfl, Below.refl _ _, OwnF.empty⟩
      case round =>
        obtain ⟨q, hq, rfl, hbi, hown⟩ := hrel
        have hwi : wo.heap.size ≤ wr.heap.size := hbi.size
        have hkk : Hid (((freeRow n k).take q).length = q) := by show _ = _; simp [freeRow_len]; omega
        by_cases hqn : q < n
        · have hql : q < (freeRow n k).length := by rw [freeRow_len]; exact hqn
          by_cases hd : k = q
          · have hv : Hid ((freeRow n k)[q] = 0) := by show _ = _; simp [freeRow, hd]
            have hdi : decide ((k : Int) = q) = true := by simp [hd]
            have hdb : ((k : Int) == (q : Int)) = true := by simp [hd]
            clear hd
            go_wp2_with (first
              | (at_builtin; refine wpList_append_F rfl _ _ 38 rfl wo.heap.size 3 i0 (.int .i64 0) 1 8 Try.underlying38 hi hz0 hz1 hz2 rfl (by decide) _ q rfl (hown.alloc intF_firm _) hkk.out intF_firm 0 [.int .i64 0] ⟨wr.heap.size, 0, none⟩ rfl rfl (cell_one_new _ _ _) (fun u hu => by rw [List.mem_singleton.1 hu]; rfl) rfl (by omega) (by decide) (by simp; omega) ?_; intro ra rc w5 hown' hgrow hb5)
              | fail)
            rw [← hv.out, List.take_append_getElem hql] at hown'
            exact ⟨⟨q + 1, by omega, by go_num, (Below.alloc hbi hwi _).trans hb5, hown'⟩, by simp [intOf]; omega⟩
          · have hv : Hid ((freeRow n k)[q] = noneI) := by show _ = _; simp [freeRow, hd]
            have hdi : decide ((k : Int) = q) = false := by simp; omega
            have hdb : ((k : Int) == (q : Int)) = false := by simp; omega
            go_wp2_with (first
              | (at_builtin; refine wpList_append_F rfl _ _ 38 rfl wo.heap.size 3 i0 (.int .i64 0) 1 8 Try.underlying38 hi hz0 hz1 hz2 rfl (by decide) _ q rfl (hown.alloc intF_firm _) hkk.out intF_firm noneI [.int .i64 noneI] ⟨wr.heap.size, 0, none⟩ rfl rfl (cell_one_new _ _ _) (fun u hu => by rw [List.mem_singleton.1 hu]; rfl) rfl (by omega) (by decide) (by simp; omega) ?_; intro ra rc w5 hown' hgrow hb5)
              | fail)
            rw [← hv.out, List.take_append_getElem hql] at hown'
            exact ⟨⟨q + 1, by omega, by go_num, (Below.alloc hbi hwi _).trans hb5, hown'⟩, by simp [intOf]; omega⟩
        · have hown2 := hown
          rw [List.take_of_length_le (by rw [freeRow_len]; omega)] at hown2
          have HO : Hid (OwnF (from_ wo.heap.size) wo.heap.size wr 3 1 intF u5 (freeRow n k)) := hown2
          clear hown2 hown
          obtain ⟨ra, rc, rfl, hS⟩ := HO.out.done intF_firm (G := from_ wo.heap.size) (by omega) (fun b _ h => h.elim id id)
          simp only [freeRow_len] at hS
          simp only [freeRow_len]
          have M2 := (MD.out.below lineF_firm hbi).alloc lineF_firm (.cells #[.slice ra n rc] 38)
          have hy : lineF (off_ (from_ w.heap.size) u3) (wr.alloc (.cells #[.slice ra n rc] 38)) [.slice ra n rc] (freeRow n k) :=
            ⟨ra, _, rc, rfl, (hS.wide intF_firm (fun b hb _ => off_new MD.out hwr b hb)).below intF_firm (Joins.below_alloc1 wr _), by rw [freeRow_len]; omega⟩
          have hk2 : Hid ((freeM n k).length = k) := freeM_len n k
          have HY : Hid (lineF (off_ (from_ w.heap.size) u3) (wr.alloc (.cells #[.slice ra n rc] 38)) [.slice ra n rc] (freeRow n k)) := hy
          clear hy hS HO hkk
          have hw2 : w.heap.size ≤ wr.heap.size := by omega
          go_wp2_with (first
            | (at_builtin; go_loud (refine wpList_append_F rfl _ _ 24 rfl w.heap.size 38 i1 (.slice none 0 0) 1 24 Try.underlying24 hi' hy0 hy1 hy2 rfl (by decide) _ k rfl M2 hk2.out lineF_firm (freeRow n k) [.slice ra n rc] ⟨wr.heap.size, 0, none⟩ rfl rfl (cell_one_new _ _ _) (fun u hu => by rw [List.mem_singleton.1 hu]; rfl) HY.out (by omega) (by decide) (by simp; omega) ?_); intro ra5 rc5 w5 hown' hgrow hb5)
            | fail)
          rw [← freeM_snoc] at hown'
          exact ⟨⟨k + 1, by omega, by go_num, (Below.alloc (hbr.trans (hbi.mono hbr.size)) hw2 _).trans hb5, hown'⟩, by simp [intOf]; omega⟩
    · obtain rfl : k = n := by omega
      go_wp2
      go_ret
      obtain ⟨ao', cap', rfl, hS⟩ := MD.out.done lineF_firm (G := from_ w.heap.size) (by omega) (fun b _ h => h.elim id id)
      rw [freeM_len] at hS ⊢
      exact ⟨ao', cap', rfl, hbr, hS⟩
end Go.Proofs.Ytldbgbcabenegaa
