/-
  The law ArenaPlays, walked; a list of jobs as an argument, opened.
-/
import Derived.Test.YtciomaeieggbiaaArnH
import Derived.Test.YtciomaeieggbiaaOpen
namespace Go.Proofs.Ytciomaeieggbiaa
open Go.ChangeShapes Go.WideShapes Go.ChangeAt Go.RowKit Go.Joins Go.Deep
set_option linter.unusedVariables false
set_option linter.unusedSimpArgs false

theorem list_four {α : Type} {l : List α} (h : l.length = 4) : ∃ a b c d, l = [a, b, c, d] := by
  match l, h with
  | [a, b, c, d], _ => exact ⟨a, b, c, d, rfl⟩
theorem opens_int6 : Opens Try.prog 3 1 intF := opens_int Try.underlying3 (by kernel_rfl)
theorem list_two6 {α : Type} {l : List α} (h : l.length = 2) : ∃ a b, l = [a, b] := by
  match l, h with
  | [a, b], _ => exact ⟨a, b, rfl⟩
def hdF : (Nat → Prop) → World → List Value → Int × Int → Prop := plainF fun x => [.int .i64 x.1, .int .i64 x.2]
set_option maxRecDepth 100000 in
theorem opens_handle : Opens Try.prog 64 2 hdF :=
  ⟨by kernel_rfl, by omega, fun w n row y hl h hlt hB => by
    obtain ⟨xs, k, -, rfl, -, hxl, hf⟩ := DataW.trod_struct Try.underlying64 h
    obtain ⟨c0, c1, rfl⟩ := list_two6 hl
    have hx : xs.length = 2 := hxl
    obtain ⟨x0, e0⟩ := opens_field Try.underlying64 hf hlt hB 0 _ rfl (by omega) opens_int6 [c0] rfl rfl
    obtain ⟨x1, e1⟩ := opens_field Try.underlying64 hf hlt hB 1 _ rfl (by omega) opens_int6 [c1] rfl rfl
    have e0' : [c0] = [Value.int .i64 x0] := e0
    have e1' : [c1] = [Value.int .i64 x1] := e1
    simp only [List.cons.injEq, and_true] at e0' e1'
    subst e0' e1'
    exact ⟨(x0, x1), rfl⟩⟩
set_option maxRecDepth 100000 in
theorem opens_job : Opens Try.prog 66 4 jbF :=
  ⟨by kernel_rfl, by omega, fun w n row y hl h hlt hB => by
    obtain ⟨xs, k, -, rfl, -, hxl, hf⟩ := DataW.trod_struct Try.underlying66 h
    obtain ⟨c0, c1, c2, c3, rfl⟩ := list_four hl
    have hx : xs.length = 3 := hxl
    obtain ⟨x0, e0⟩ := opens_field Try.underlying66 hf hlt hB 0 _ rfl (by omega) opens_int6 [c0] rfl rfl
    obtain ⟨x1, e1⟩ := opens_field Try.underlying66 hf hlt hB 1 _ rfl (by omega) opens_int6 [c1] rfl rfl
    obtain ⟨x2, e2⟩ := opens_field Try.underlying66 hf hlt hB 2 _ rfl (by omega) opens_handle [c2, c3] rfl rfl
    have e0' : [c0] = [Value.int .i64 x0] := e0
    have e1' : [c1] = [Value.int .i64 x1] := e1
    have e2' : [c2, c3] = [Value.int .i64 x2.1, .int .i64 x2.2] := e2
    simp only [List.cons.injEq, and_true] at e0' e1' e2'
    obtain ⟨e2a, e2b⟩ := e2'
    subst e0' e1' e2a e2b
    exact ⟨⟨x0, x1, x2.1, x2.2⟩, rfl⟩⟩
theorem opens_jobs : Opens Try.prog 22 1 (sliceF 4 32 jbF) := opens_slice Try.underlying22 (by kernel_rfl) (by kernel_rfl) opens_job
set_option maxRecDepth 100000 in
theorem open_jobs {H : Type} {enc : TypeId × Value → H} {W : World} {base : Nat} {v : Value} {d : DataW H} {ps : List MemPlace} (hv : Value.okWide Try.prog W .any base 22 v) (h : DataW.Trod enc Try.prog W 0 (fun _ => true) true 22 v d ps) (hlt : ∀ p ∈ ps, p.block < W.heap.size) (hB : ∀ q ∈ d.weights Try.prog 22, q ≤ reachBytes) :
    ∃ l ao n cap, v = .slice ao n cap ∧ SlF (under W.heap.size) W 4 jbF ao n cap l ∧ n * 32 ≤ 140737488355328 := by
  obtain ⟨qa, qb, qc, rfl⟩ := okWide_slice Try.underlying22 hv
  obtain ⟨m, ao, n, cap, e, hS, h8⟩ := open_arg opens_jobs (by simp [Value.cells]) h hlt hB
  simp only [Value.cells, List.cons.injEq, and_true, Value.slice.injEq] at e
  obtain ⟨rfl, rfl, rfl⟩ := e
  exact ⟨m, qa, qb, qc, rfl, hS, by rw [hS.len]; omega⟩
theorem jbF_one : ∀ F w row x, jbF F w row x → ∀ u ∈ row, u.oneCell' = true := fun F w row t h u hu => by
  have h' : row = jbC t := h
  subst h'
  simp [jbC] at hu
  rcases hu with rfl | rfl | rfl | rfl <;> rfl
theorem info_job : (Try.prog.info? 66).map (fun i => (i.zero, i.size, i.bytes)) = some (some (.agg #[.int .i64 0, .int .i64 0, .int .i64 0, .int .i64 0]), 4, 32) := by kernel_rfl
theorem size_found : SizeIs Try.prog 68 4 := fun w => by kernel_rfl
theorem jobbed_any (F : Nat → Prop) (ao : Option Addr) (n cap : Nat) (l : List Jb) (w : World) (hL : SlF F w 4 jbF ao n cap l) : Calls Try.prog 9 #[.slice ao n cap] w (PlayPost l w) := by
  by_cases h : 2000 < n
  · exact jobbed_many F ao n cap l w hL h
  · exact jobbed_few F ao n cap l w hL h
set_option maxHeartbeats 2000000 in
theorem sameFounds_yes (F G : Nat → Prop) (ao : Option Addr) (n cap : Nat) (bo : Option Addr) (m bcap : Nat) (xs : List Fd) (w : World) (hX : SlF F w 4 fdF ao n cap xs) (hY : SlF G w 4 fdF bo m bcap xs) :
    Calls Try.prog 10 #[.slice ao n cap, .slice bo m bcap] w fun e w' => e = .returned (.bool true) ∧ Below w.heap.size w w' := by
  obtain rfl : m = n := by rw [hX.len, hY.len]
  have NL : Hid (m = xs.length) := hX.len
  have hle := hX.le
  go_enter Try.func10, Try.ntmps10
  go_wp2_with fail
  go_loopw [5] (fun i wr => ∃ k : Nat, k ≤ m ∧ i = .int .i64 k ∧ Below w.heap.size w wr) (fun i _ => m - (intOf i).toNat)
  case atStart => exact ⟨0, by omega, rfl, Below.refl _ _⟩
  case round =>
    obtain ⟨k, hk, rfl, hbr⟩ := hrel
    by_cases hlt : k < m
    · have hkl : k < xs.length := by have := NL.out; omega
      obtain ⟨b, off, row, hix, hblt, hrow, hrr⟩ := (hX.below fdF_firm hbr).toR.index (P := Try.prog) Try.underlying23 size_found (i := k) hkl
      obtain ⟨b2, off2, row2, hix2, hblt2, hrow2, hrr2⟩ := (hY.below fdF_firm hbr).toR.index (P := Try.prog) Try.underlying23 size_found (i := k) hkl
      generalize xs[k] = t at hrr hrr2
      have e1 : row = [.int .i64 t.code, .int .i64 t.number, .int .i64 t.place, .int .i64 t.turn] := hrr
      have e2 : row2 = [.int .i64 t.code, .int .i64 t.number, .int .i64 t.place, .int .i64 t.turn] := hrr2
      subst e1 e2
      obtain ⟨c0, c1, c2, c3, c4, c5⟩ := hrow.four
      obtain ⟨d0, d1, d2, d3, d4, d5⟩ := hrow2.four
      go_wp2_with fail
      go_quiet (fail)
      go_wp2
      go_roundw
      case rel => exact ⟨k + 1, by omega, by go_num, (by repeat (first | exact Below.refl _ _ | assumption | refine below_step ?_ (by assumption) | refine below_step ?_ (Joins.below_draws _ _ _) | (refine Below.alloc ?_ (by first | omega | (simp; done) | (simp; omega)) _) | (refine Below.setCell ?_ (by first | omega | (simp; done) | (simp; omega)) _) | refine Below.drew ?_))⟩
      case measure => simp [intOf]; omega
    · go_wp2
      go_ret
      exact ⟨rfl, hbr⟩

set_option maxHeartbeats 2000000 in
set_option maxRecDepth 100000 in
theorem arenaPlays_walk (F : Nat → Prop) (ao : Option Addr) (n cap : Nat) (l : List Jb) (w : World) (hL : SlF F w 4 jbF ao n cap l) (hn : n * 32 ≤ 140737488355328) :
    Calls Try.prog 3 #[.slice ao n cap] w fun e w' => e = .returned (.bool true) ∧ Below w.heap.size w w' := by
  obtain ⟨i0, hi, hz0, hz1, hz2⟩ := info_parts info_job
  obtain ⟨ao', cap', w', hrun, hS, hb⟩ := run_copy_to (G := from_ w.heap.size) Try.underlying22 hi hz0 hz1 hz2 rfl (by omega) jbF_firm jbF_one hL hn (Nat.le_refl _) none (World.ownsRow_nil _ _ _ _) (fun b h => h) (fun _ _ h => h)
  have H1 := Lib.hid (play_any _ ao' n cap' l w' hS)
  have H2 : Hid (∀ wx, Below w.heap.size w wx → Calls Try.prog 9 #[.slice ao n cap] wx (PlayPost l wx)) := fun wx hb => jobbed_any F ao n cap l wx (hL.below jbF_firm hb)
  unfold PlayPost at H1 H2
  generalize playV l = V at H1 H2
  generalize (if 2000 < l.length then (1 : Int) else 0) = code at H1 H2
  go_enter Try.func3, Try.ntmps3
  go_wp2_with (first | (at_builtin; refine wpList_append_run rfl _ _ 22 rfl rfl rfl rfl hrun ?_) | fail)
  refine H1.out.mono ?_
  rintro e w1 ⟨a1, c1, rfl, hb1, hP1⟩
  clear hrun
  go_wp2_with fail
  refine (H2.out _ (hb.trans (hb1.mono hb.size))).mono ?_
  rintro e w2 ⟨a2, c2, rfl, hb2, hP2⟩
  have hP1' := hP1.below fdF_firm hb2
  clear hP1
  go_wp2_with fail
  refine (sameFounds_yes _ _ a1 _ c1 a2 _ c2 V _ hP1' hP2).mono ?_
  rintro e w3 ⟨rfl, hb3⟩
  go_wp2
  go_ret
  exact ⟨ret_bool (by simp), (by repeat (first | exact Below.refl _ _ | assumption | refine below_step ?_ (by assumption) | refine below_step ?_ (Joins.below_draws _ _ _) | (refine Below.alloc ?_ (by first | omega | (simp; done) | (simp; omega)) _) | (refine Below.setCell ?_ (by first | omega | (simp; done) | (simp; omega)) _) | refine Below.drew ?_))⟩
end Go.Proofs.Ytciomaeieggbiaa
