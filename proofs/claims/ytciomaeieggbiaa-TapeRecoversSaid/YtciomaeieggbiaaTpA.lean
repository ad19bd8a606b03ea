/-
  Tapes opened, compared; tapes as arguments.
-/
import Derived.Test.YtciomaeieggbiaaTapX
import Derived.Test.YtciomaeieggbiaaKnob
import Derived.Test.YtciomaeieggbiaaEncL
namespace Go.Proofs.Ytciomaeieggbiaa
open Go.RowKit
set_option linter.unusedVariables false
set_option linter.unusedSimpArgs false

set_option linter.unusedVariables false
set_option linter.unusedSimpArgs false

theorem mayB_true {n : Nat} {s : Int} (h : mayB n s = true) : n ≤ 200000 ∧ 0 ≤ s ∧ s ≤ n := by simpa [mayB] using h
theorem mayB_false {n : Nat} {s : Int} (h : mayB n s = false) : s < 0 ∨ (n : Int) < s ∨ 200000 < n := by
  have : ¬ (n ≤ 200000 ∧ 0 ≤ s ∧ s ≤ n) := by simpa [mayB] using h
  omega

set_option maxHeartbeats 1000000 in
theorem open_bad (ao : Option Addr) (n cap : Nat) (s : Int) (w : World) (h : mayB n s = false) :
    Calls Try.prog 36 #[.agg #[.slice ao n cap, .int .i64 s]] w fun e w' => e = .returned (.tuple #[.agg #[.slice none 0 0, .int .i64 0], .bool false]) ∧ Below w.heap.size w w' := by
  have h := mayB_false h
  by_cases h0 : s < 0
  · clear h
    go_enter Try.func36, Try.ntmps36
    go_wp2
    refine bodyPost_ret (v := .tuple #[.agg #[.slice none 0 0, .int .i64 0], .bool false]) (by simp [results, Try.results36, go_sem]) rfl ?_
    exact ⟨rfl, (by repeat (first | exact Below.refl _ _ | assumption | refine below_step ?_ (by assumption) | refine below_step ?_ (Joins.below_draws _ _ _) | (refine Below.alloc ?_ (by first | omega | (simp; done) | (simp; omega)) _) | (refine Below.setCell ?_ (by first | omega | (simp; done) | (simp; omega)) _) | refine Below.drew ?_))⟩
  · by_cases h1 : (n : Int) < s
    · have h0' : 0 ≤ s := by omega
      clear h h0
      go_enter Try.func36, Try.ntmps36
      go_wp2
      refine bodyPost_ret (v := .tuple #[.agg #[.slice none 0 0, .int .i64 0], .bool false]) (by simp [results, Try.results36, go_sem]) rfl ?_
      exact ⟨rfl, (by repeat (first | exact Below.refl _ _ | assumption | refine below_step ?_ (by assumption) | refine below_step ?_ (Joins.below_draws _ _ _) | (refine Below.alloc ?_ (by first | omega | (simp; done) | (simp; omega)) _) | (refine Below.setCell ?_ (by first | omega | (simp; done) | (simp; omega)) _) | refine Below.drew ?_))⟩
    · have h0' : 0 ≤ s := by omega
      have h1' : s ≤ n := by omega
      have h2 : 200000 < (n : Int) := by omega
      clear h h0 h1
      go_enter Try.func36, Try.ntmps36
      go_wp2
      refine bodyPost_ret (v := .tuple #[.agg #[.slice none 0 0, .int .i64 0], .bool false]) (by simp [results, Try.results36, go_sem]) rfl ?_
      exact ⟨rfl, (by repeat (first | exact Below.refl _ _ | assumption | refine below_step ?_ (by assumption) | refine below_step ?_ (Joins.below_draws _ _ _) | (refine Below.alloc ?_ (by first | omega | (simp; done) | (simp; omega)) _) | (refine Below.setCell ?_ (by first | omega | (simp; done) | (simp; omega)) _) | refine Below.drew ?_))⟩
set_option maxHeartbeats 1000000 in
theorem open_good (F : Nat → Prop) (ao : Option Addr) (n cap : Nat) (s : Int) (xs : List UInt8) (w : World) (h : mayB n s = true) (hX : SlF F w 1 byteF ao n cap xs) :
    Calls Try.prog 36 #[.agg #[.slice ao n cap, .int .i64 s]] w fun e w' => ∃ ao' cap', e = .returned (.tuple #[.agg #[.slice ao' n cap', .int .i64 s], .bool true]) ∧ Below w.heap.size w w' ∧ SlF (from_ w.heap.size) w' 1 byteF ao' n cap' xs := by
  obtain ⟨h1, h2, h3⟩ := mayB_true h
  have HX : Hid (∀ wx, Below w.heap.size w wx → Calls Try.prog 65 #[.slice ao n cap] wx fun e w' => ∃ ao' cap', e = .returned (.slice ao' n cap') ∧ Below wx.heap.size wx w' ∧ SlF (from_ wx.heap.size) w' 1 byteF ao' n cap' xs) := fun wx hb => cloneB_any F ao n cap xs wx (hX.below byteF_firm hb) (by omega)
  have h1' : (n : Int) ≤ 200000 := by omega
  clear h
  go_enter Try.func36, Try.ntmps36
  go_wp2_with fail
  go_region_with (go_at_call 65; refine (HX.out _ (by repeat (first | exact Below.refl _ _ | assumption | refine below_step ?_ (by assumption) | refine below_step ?_ (Joins.below_draws _ _ _) | (refine Below.alloc ?_ (by first | omega | (simp; done) | (simp; omega)) _) | (refine Below.setCell ?_ (by first | omega | (simp; done) | (simp; omega)) _) | refine Below.drew ?_))).mono ?_; rintro e w1 ⟨ao1, cap1, rfl, hb1, hS1⟩; obtain ⟨hc_w1, hf_w1⟩ := bcell hb1; have hs_w1 := hb1.size; (try simp only [World.size_alloc, World.size_drew, World.size_setCell] at hs_w1); (try simp only [World.size_drew, World.cell?_drew, World.frozen?_drew] at hc_w1 hf_w1); have z0_w1 : w.heap.size < w1.heap.size := (by omega); have z1_w1 : w.heap.size + 1 < w1.heap.size := (by omega))
  all_goals
    have k0 : (w1.cell? ⟨w.heap.size + 1, 0, none⟩).isSome = true := by simp [hc_w1]
    have k1 : (w1.cell? ⟨w.heap.size + 1, 1, none⟩).isSome = true := by simp [hc_w1]
    go_wp2
    refine bodyPost_ret (v := .tuple #[.agg #[.slice ao1 n cap1, .int .i64 s], .bool true]) (by simp [results, Try.results36, go_sem, k0, k1, World.cell?_setCell_other]) rfl ?_
    exact ⟨ao1, cap1, rfl, (by repeat (first | exact Below.refl _ _ | assumption | refine below_step ?_ (by assumption) | refine below_step ?_ (Joins.below_draws _ _ _) | (refine Below.alloc ?_ (by first | omega | (simp; done) | (simp; omega)) _) | (refine Below.setCell ?_ (by first | omega | (simp; done) | (simp; omega)) _) | refine Below.drew ?_)), hS1.same byteF_firm (by refine Same.into ?_ (fun b h _ => (by (first | exact h | exact trivial | (revert h; show _ ≤ b → _ ≤ b; intro h; (try simp only [World.size_alloc, World.size_setCell, World.size_drew] at *); omega)))); repeat (first | exact Same.refl | exact Same.below (by assumption) | (refine Same.trans ?_ (Same.setCell _ (by show ¬ (_ ≤ _); (try simp only [World.size_alloc, World.size_setCell, World.size_drew] at *); omega))) | refine Same.trans ?_ Same.drew | refine Same.trans ?_ (Same.alloc _) | refine Same.trans ?_ (Same.below (by assumption))))⟩

set_option maxHeartbeats 1000000 in
theorem sameTape_yes (F G : Nat → Prop) (ao : Option Addr) (n cap : Nat) (s : Int) (xs : List UInt8) (bo : Option Addr) (m bcap : Nat) (w : World) (hX : SlF F w 1 byteF ao n cap xs) (hY : SlF G w 1 byteF bo m bcap xs) :
    Calls Try.prog 16 #[.agg #[.slice ao n cap, .int .i64 s], .agg #[.slice bo m bcap, .int .i64 s]] w fun e w' => e = .returned (.bool true) ∧ Below w.heap.size w w' := by
  have c1 := convert_bytes (P := Try.prog) (src := 34) (dst := 9) Try.underlying34 Try.underlying5 Try.underlying9 (hX.below byteF_firm (Joins.below_alloc2 w (.cells #[.slice ao n cap, .int .i64 s] 39) (.cells #[.slice bo m bcap, .int .i64 s] 39)))
  have c2 := convert_bytes (P := Try.prog) (src := 34) (dst := 9) Try.underlying34 Try.underlying5 Try.underlying9 (hY.below byteF_firm (Joins.below_alloc2 w (.cells #[.slice ao n cap, .int .i64 s] 39) (.cells #[.slice bo m bcap, .int .i64 s] 39)))
  go_enter Try.func16, Try.ntmps16
  go_wp2
  go_ret
  exact ⟨rfl, (by repeat (first | exact Below.refl _ _ | assumption | refine below_step ?_ (by assumption) | refine below_step ?_ (Joins.below_draws _ _ _) | (refine Below.alloc ?_ (by first | omega | (simp; done) | (simp; omega)) _) | (refine Below.setCell ?_ (by first | omega | (simp; done) | (simp; omega)) _) | refine Below.drew ?_))⟩

open Go.ChangeShapes Go.WideShapes Go.ChangeAt Go.Joins Go.Deep
theorem opens_byte : Opens Try.prog 5 1 byteF :=
  ⟨by kernel_rfl, by omega, fun w n row y hl h _ _ => by
    match row, hl with
    | [c], _ =>
      obtain ⟨k, e, -, hk⟩ := DataW.trod_int Try.underlying5 h
      have hk' : 0 ≤ k ∧ k ≤ 255 := by simpa [Lit.wf, IntKind.min, IntKind.max, IntKind.bits, IntKind.signed] using hk
      refine ⟨UInt8.ofNat k.toNat, ?_⟩
      show [c] = [byteC _]
      rw [e]
      unfold byteC
      congr 2
      have : k.toNat < 256 := by omega
      simp [UInt8.toNat_ofNat', Nat.mod_eq_of_lt this]
      omega⟩
theorem opens_bytes : Opens Try.prog 34 1 (sliceF 1 1 byteF) := opens_slice Try.underlying34 (by kernel_rfl) (by kernel_rfl) opens_byte
/-- A tape in its cells: its bytes and how many of them are synced. -/
structure Tp where
  data : List UInt8
  synced : Int
def tapeF : (Nat → Prop) → World → List Value → Tp → Prop := fun F w row t => ∃ ao n cap, row = [.slice ao n cap, .int .i64 t.synced] ∧ SlF F w 1 byteF ao n cap t.data ∧ n ≤ 140737488351232
theorem list_two {α : Type} {l : List α} (h : l.length = 2) : ∃ a b, l = [a, b] := by
  match l, h with
  | [a, b], _ => exact ⟨a, b, rfl⟩
set_option maxRecDepth 100000 in
theorem opens_tape : Opens Try.prog 39 2 tapeF :=
  ⟨by kernel_rfl, by omega, fun w n row y hl h hlt hB => by
    obtain ⟨xs, k, -, rfl, -, hxl, hf⟩ := DataW.trod_struct Try.underlying39 h
    obtain ⟨c0, c1, rfl⟩ := list_two hl
    · have hx : xs.length = 2 := hxl
      obtain ⟨x0, ao, n, cap, e0, hS, h8⟩ := opens_field Try.underlying39 hf hlt hB 0 _ rfl (by omega) opens_bytes [c0] rfl rfl
      obtain ⟨x1, e1⟩ := opens_field Try.underlying39 hf hlt hB 1 _ rfl (by omega) opens_i [c1] rfl rfl
      have e1' : [c1] = [Value.int .i64 x1] := e1
      simp only [List.cons.injEq, and_true] at e0 e1'
      subst e0 e1'
      exact ⟨⟨x0, x1⟩, ao, n, cap, rfl, hS, by rw [hS.len]; omega⟩⟩
set_option maxRecDepth 100000 in
theorem open_tape {H : Type} {enc : TypeId × Value → H} {W : World} {base : Nat} {v : Value} {d : DataW H} {ps : List MemPlace} (hv : Value.okWide Try.prog W .any base 39 v) (h : DataW.Trod enc Try.prog W 0 (fun _ => true) true 39 v d ps) (hlt : ∀ p ∈ ps, p.block < W.heap.size) (hB : ∀ q ∈ d.weights Try.prog 39, q ≤ reachBytes) :
    ∃ ao n cap s xs, v = .agg #[.slice ao n cap, .int .i64 s] ∧ SlF (under W.heap.size) W 1 byteF ao n cap xs ∧ n ≤ 140737488355328 := by
  obtain ⟨cs, rfl, hsz⟩ := okWide_struct Try.underlying39 hv
  obtain ⟨t, ao, n, cap, e, hS, h8⟩ := open_arg opens_tape (by rw [opens_tape.1] at hsz; simpa [Value.cells] using hsz) h hlt hB
  refine ⟨ao, n, cap, t.synced, t.data, ?_, hS, by omega⟩
  have h1 : cs = cs.toList.toArray := by simp
  have h2 : cs.toList = [.slice ao n cap, .int .i64 t.synced] := by simpa [Value.cells] using e
  rw [h1, h2]
end Go.Proofs.Ytciomaeieggbiaa
