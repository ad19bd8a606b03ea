/-
  The walks of package tape and its reference, third part: a tape opened, compared, synced, crashed.
-/
import Derived.Test.YtipemoajdphdfaaTapX
namespace Go.Proofs.Ytipemoajdphdfaa
open Go.RowKit
set_option linter.unusedVariables false
set_option linter.unusedSimpArgs false

theorem mayB_true {n : Nat} {s : Int} (h : mayB n s = true) : n ≤ 200000 ∧ 0 ≤ s ∧ s ≤ n := by simpa [mayB] using h
theorem mayB_false {n : Nat} {s : Int} (h : mayB n s = false) : s < 0 ∨ (n : Int) < s ∨ 200000 < n := by
  have : ¬ (n ≤ 200000 ∧ 0 ≤ s ∧ s ≤ n) := by simpa [mayB] using h
  omega

set_option maxHeartbeats 1000000 in
theorem open_bad (ao : Option Addr) (n cap : Nat) (s : Int) (w : World) (h : mayB n s = false) :
    Calls Try.prog 44 #[.agg #[.slice ao n cap, .int .i64 s]] w fun e w' => e = .returned (.tuple #[.agg #[.slice none 0 0, .int .i64 0], .bool false]) ∧ Below w.heap.size w w' := by
  have h := mayB_false h
  by_cases h0 : s < 0
  · clear h
    go_enter Try.func44, Try.ntmps44
    go_wp2
    refine bodyPost_ret (v := .tuple #[.agg #[.slice none 0 0, .int .i64 0], .bool false]) (by simp [results, Try.results44, go_sem]) rfl ?_
    exact ⟨rfl, (by repeat (first | exact Below.refl _ _ | assumption | refine below_step ?_ (by assumption) | refine below_step ?_ (Joins.below_draws _ _ _) | (refine Below.alloc ?_ (by first | omega | (simp; done) | (simp; omega)) _) | (refine Below.setCell ?_ (by first | omega | (simp; done) | (simp; omega)) _) | refine Below.drew ?_))⟩
  · by_cases h1 : (n : Int) < s
    · have h0' : 0 ≤ s := by omega
      clear h h0
      go_enter Try.func44, Try.ntmps44
      go_wp2
      refine bodyPost_ret (v := .tuple #[.agg #[.slice none 0 0, .int .i64 0], .bool false]) (by simp [results, Try.results44, go_sem]) rfl ?_
      exact ⟨rfl, (by repeat (first | exact Below.refl _ _ | assumption | refine below_step ?_ (by assumption) | refine below_step ?_ (Joins.below_draws _ _ _) | (refine Below.alloc ?_ (by first | omega | (simp; done) | (simp; omega)) _) | (refine Below.setCell ?_ (by first | omega | (simp; done) | (simp; omega)) _) | refine Below.drew ?_))⟩
    · have h0' : 0 ≤ s := by omega
      have h1' : s ≤ n := by omega
      have h2 : 200000 < (n : Int) := by omega
      clear h h0 h1
      go_enter Try.func44, Try.ntmps44
      go_wp2
      refine bodyPost_ret (v := .tuple #[.agg #[.slice none 0 0, .int .i64 0], .bool false]) (by simp [results, Try.results44, go_sem]) rfl ?_
      exact ⟨rfl, (by repeat (first | exact Below.refl _ _ | assumption | refine below_step ?_ (by assumption) | refine below_step ?_ (Joins.below_draws _ _ _) | (refine Below.alloc ?_ (by first | omega | (simp; done) | (simp; omega)) _) | (refine Below.setCell ?_ (by first | omega | (simp; done) | (simp; omega)) _) | refine Below.drew ?_))⟩
set_option maxHeartbeats 1000000 in
theorem open_good (F : Nat → Prop) (ao : Option Addr) (n cap : Nat) (s : Int) (xs : List UInt8) (w : World) (h : mayB n s = true) (hX : SlF F w 1 byteF ao n cap xs) :
    Calls Try.prog 44 #[.agg #[.slice ao n cap, .int .i64 s]] w fun e w' => ∃ ao' cap', e = .returned (.tuple #[.agg #[.slice ao' n cap', .int .i64 s], .bool true]) ∧ Below w.heap.size w w' ∧ SlF (from_ w.heap.size) w' 1 byteF ao' n cap' xs := by
  obtain ⟨h1, h2, h3⟩ := mayB_true h
  have HX : Hid (∀ wx, Below w.heap.size w wx → Calls Try.prog 70 #[.slice ao n cap] wx fun e w' => ∃ ao' cap', e = .returned (.slice ao' n cap') ∧ Below wx.heap.size wx w' ∧ SlF (from_ wx.heap.size) w' 1 byteF ao' n cap' xs) := fun wx hb => cloneB_any F ao n cap xs wx (hX.below byteF_firm hb) (by omega)
  have h1' : (n : Int) ≤ 200000 := by omega
  clear h
  go_enter Try.func44, Try.ntmps44
  go_wp2_with fail
  go_region_with (go_at_call 70; refine (HX.out _ (by repeat (first | exact Below.refl _ _ | assumption | refine below_step ?_ (by assumption) | refine below_step ?_ (Joins.below_draws _ _ _) | (refine Below.alloc ?_ (by first | omega | (simp; done) | (simp; omega)) _) | (refine Below.setCell ?_ (by first | omega | (simp; done) | (simp; omega)) _) | refine Below.drew ?_))).mono ?_; rintro e w1 ⟨ao1, cap1, rfl, hb1, hS1⟩; obtain ⟨hc_w1, hf_w1⟩ := bcell hb1; have hs_w1 := hb1.size; (try simp only [World.size_alloc, World.size_drew, World.size_setCell] at hs_w1); (try simp only [World.size_drew, World.cell?_drew, World.frozen?_drew] at hc_w1 hf_w1); have z0_w1 : w.heap.size < w1.heap.size := (by omega); have z1_w1 : w.heap.size + 1 < w1.heap.size := (by omega))
  all_goals
    have k0 : (w1.cell? ⟨w.heap.size + 1, 0, none⟩).isSome = true := by simp [hc_w1]
    have k1 : (w1.cell? ⟨w.heap.size + 1, 1, none⟩).isSome = true := by simp [hc_w1]
    go_wp2
    refine bodyPost_ret (v := .tuple #[.agg #[.slice ao1 n cap1, .int .i64 s], .bool true]) (by simp [results, Try.results44, go_sem, k0, k1, World.cell?_setCell_other]) rfl ?_
    exact ⟨ao1, cap1, rfl, (by repeat (first | exact Below.refl _ _ | assumption | refine below_step ?_ (by assumption) | refine below_step ?_ (Joins.below_draws _ _ _) | (refine Below.alloc ?_ (by first | omega | (simp; done) | (simp; omega)) _) | (refine Below.setCell ?_ (by first | omega | (simp; done) | (simp; omega)) _) | refine Below.drew ?_)), hS1.same byteF_firm (by refine Same.into ?_ (fun b h _ => (by (first | exact h | exact trivial | (revert h; show _ ≤ b → _ ≤ b; intro h; (try simp only [World.size_alloc, World.size_setCell, World.size_drew] at *); omega)))); repeat (first | exact Same.refl | exact Same.below (by assumption) | (refine Same.trans ?_ (Same.setCell _ (by show ¬ (_ ≤ _); (try simp only [World.size_alloc, World.size_setCell, World.size_drew] at *); omega))) | refine Same.trans ?_ Same.drew | refine Same.trans ?_ (Same.alloc _) | refine Same.trans ?_ (Same.below (by assumption))))⟩

def errTape : Value := .agg #[.slice none 0 0, .int .i64 0]
set_option maxHeartbeats 1000000 in
theorem sync_bad (ao : Option Addr) (n cap : Nat) (s : Int) (w : World) (h : mayB n s = false) :
    Calls Try.prog 18 #[.agg #[.slice ao n cap, .int .i64 s]] w fun e w' => e = .returned (.tuple #[.agg #[.slice none 0 0, .int .i64 0], .int .i64 9]) ∧ Below w.heap.size w w' := by
  have H : Hid (∀ wx, Calls Try.prog 44 #[.agg #[.slice ao n cap, .int .i64 s]] wx fun e w' => e = .returned (.tuple #[.agg #[.slice none 0 0, .int .i64 0], .bool false]) ∧ Below wx.heap.size wx w') := fun wx => open_bad ao n cap s wx h
  clear h
  go_enter Try.func18, Try.ntmps18
  go_wp2_with (go_at_call 44; refine (H.out _).mono ?_; rintro e w1 ⟨rfl, hb1⟩; obtain ⟨hc_w1, hf_w1⟩ := bcell hb1; have hs_w1 := hb1.size; (try simp only [World.size_alloc, World.size_drew, World.size_setCell] at hs_w1); (try simp only [World.size_drew, World.cell?_drew, World.frozen?_drew] at hc_w1 hf_w1); have z0_w1 : w.heap.size < w1.heap.size := (by omega); have z1_w1 : w.heap.size + 1 < w1.heap.size := (by omega))
  refine bodyPost_ret (v := .tuple #[.agg #[.slice none 0 0, .int .i64 0], .int .i64 9]) (by simp [results, Try.results18, go_sem, hc_w1, z0_w1, z1_w1, World.cell?_setCell_other]) rfl ?_
  exact ⟨rfl, (by repeat (first | exact Below.refl _ _ | assumption | refine below_step ?_ (by assumption) | refine below_step ?_ (Joins.below_draws _ _ _) | (refine Below.alloc ?_ (by first | omega | (simp; done) | (simp; omega)) _) | (refine Below.setCell ?_ (by first | omega | (simp; done) | (simp; omega)) _) | refine Below.drew ?_))⟩
set_option maxHeartbeats 1000000 in
theorem sync_good (F : Nat → Prop) (ao : Option Addr) (n cap : Nat) (s : Int) (xs : List UInt8) (w : World) (h : mayB n s = true) (hX : SlF F w 1 byteF ao n cap xs) :
    Calls Try.prog 18 #[.agg #[.slice ao n cap, .int .i64 s]] w fun e w' => ∃ ao' cap', e = .returned (.tuple #[.agg #[.slice ao' n cap', .int .i64 n], .int .i64 0]) ∧ Below w.heap.size w w' ∧ SlF (from_ w.heap.size) w' 1 byteF ao' n cap' xs := by
  have H : Hid (∀ wx, Below w.heap.size w wx → Calls Try.prog 44 #[.agg #[.slice ao n cap, .int .i64 s]] wx fun e w' => ∃ ao' cap', e = .returned (.tuple #[.agg #[.slice ao' n cap', .int .i64 s], .bool true]) ∧ Below wx.heap.size wx w' ∧ SlF (from_ wx.heap.size) w' 1 byteF ao' n cap' xs) := fun wx hb => open_good F ao n cap s xs wx h (hX.below byteF_firm hb)
  clear h
  go_enter Try.func18, Try.ntmps18
  go_wp2_with (go_at_call 44; refine (H.out _ (by repeat (first | exact Below.refl _ _ | assumption | refine below_step ?_ (by assumption) | refine below_step ?_ (Joins.below_draws _ _ _) | (refine Below.alloc ?_ (by first | omega | (simp; done) | (simp; omega)) _) | (refine Below.setCell ?_ (by first | omega | (simp; done) | (simp; omega)) _) | refine Below.drew ?_))).mono ?_; rintro e w1 ⟨ao1, cap1, rfl, hb1, hS1⟩; obtain ⟨hc_w1, hf_w1⟩ := bcell hb1; have hs_w1 := hb1.size; (try simp only [World.size_alloc, World.size_drew, World.size_setCell] at hs_w1); (try simp only [World.size_drew, World.cell?_drew, World.frozen?_drew] at hc_w1 hf_w1); have z0_w1 : w.heap.size < w1.heap.size := (by omega); have z1_w1 : w.heap.size + 1 < w1.heap.size := (by omega))
  refine bodyPost_ret (v := .tuple #[.agg #[.slice ao1 n cap1, .int .i64 n], .int .i64 0]) (by simp [results, Try.results18, go_sem, hc_w1, z0_w1, z1_w1, World.cell?_setCell_other]) rfl ?_
  exact ⟨ao1, cap1, rfl, (by repeat (first | exact Below.refl _ _ | assumption | refine below_step ?_ (by assumption) | refine below_step ?_ (Joins.below_draws _ _ _) | (refine Below.alloc ?_ (by first | omega | (simp; done) | (simp; omega)) _) | (refine Below.setCell ?_ (by first | omega | (simp; done) | (simp; omega)) _) | refine Below.drew ?_)), hS1.same byteF_firm (by refine Same.into ?_ (fun b h _ => (by (first | exact h | exact trivial | (revert h; show _ ≤ b → _ ≤ b; intro h; (try simp only [World.size_alloc, World.size_setCell, World.size_drew] at *); omega)))); repeat (first | exact Same.refl | exact Same.below (by assumption) | (refine Same.trans ?_ (Same.setCell _ (by show ¬ (_ ≤ _); (try simp only [World.size_alloc, World.size_setCell, World.size_drew] at *); omega))) | refine Same.trans ?_ Same.drew | refine Same.trans ?_ (Same.alloc _) | refine Same.trans ?_ (Same.below (by assumption))))⟩
set_option maxHeartbeats 1000000 in
theorem synced_bad (ao : Option Addr) (n cap : Nat) (s : Int) (w : World) (h : mayB n s = false) :
    Calls Try.prog 19 #[.agg #[.slice ao n cap, .int .i64 s]] w fun e w' => e = .returned (.tuple #[.agg #[.slice none 0 0, .int .i64 0], .int .i64 9]) ∧ Below w.heap.size w w' := by
  have H : Hid (∀ wx, Calls Try.prog 45 #[.agg #[.slice ao n cap, .int .i64 s]] wx fun e w' => e = .returned (.bool false) ∧ Below wx.heap.size wx w') := fun wx => by rw [← h]; exact tapeMay_any ao n cap s wx
  clear h
  go_enter Try.func19, Try.ntmps19
  go_wp2_with (go_at_call 45; refine (H.out _).mono ?_; rintro e w1 ⟨rfl, hb1⟩; obtain ⟨hc_w1, hf_w1⟩ := bcell hb1; have hs_w1 := hb1.size; (try simp only [World.size_alloc, World.size_drew, World.size_setCell] at hs_w1); (try simp only [World.size_drew, World.cell?_drew, World.frozen?_drew] at hc_w1 hf_w1); have z0_w1 : w.heap.size < w1.heap.size := (by omega); have z1_w1 : w.heap.size + 1 < w1.heap.size := (by omega))
  refine bodyPost_ret (v := .tuple #[.agg #[.slice none 0 0, .int .i64 0], .int .i64 9]) (by simp [results, Try.results19, go_sem, hc_w1, z0_w1, z1_w1, World.cell?_setCell_other]) rfl ?_
  exact ⟨rfl, (by repeat (first | exact Below.refl _ _ | assumption | refine below_step ?_ (by assumption) | refine below_step ?_ (Joins.below_draws _ _ _) | (refine Below.alloc ?_ (by first | omega | (simp; done) | (simp; omega)) _) | (refine Below.setCell ?_ (by first | omega | (simp; done) | (simp; omega)) _) | refine Below.drew ?_))⟩
set_option maxHeartbeats 1000000 in
theorem synced_good (F : Nat → Prop) (ao : Option Addr) (n cap : Nat) (s : Int) (xs : List UInt8) (w : World) (h : mayB n s = true) (hX : SlF F w 1 byteF ao n cap xs) :
    Calls Try.prog 19 #[.agg #[.slice ao n cap, .int .i64 s]] w fun e w' => ∃ ao' cap', e = .returned (.tuple #[.agg #[.slice ao' n cap', .int .i64 n], .int .i64 0]) ∧ Below w.heap.size w w' ∧ SlF (from_ w.heap.size) w' 1 byteF ao' n cap' xs := by
  have H : Hid (∀ wx, Calls Try.prog 45 #[.agg #[.slice ao n cap, .int .i64 s]] wx fun e w' => e = .returned (.bool true) ∧ Below wx.heap.size wx w') := fun wx => by rw [← h]; exact tapeMay_any ao n cap s wx
  obtain ⟨hn, _, _⟩ := mayB_true h
  have HX : Hid (∀ wx, Below w.heap.size w wx → Calls Try.prog 46 #[.slice ao n cap, .slice none 0 0] wx fun e w' => ∃ ao' cap', e = .returned (.slice ao' n cap') ∧ Below wx.heap.size wx w' ∧ SlF (from_ wx.heap.size) w' 1 byteF ao' n cap' xs) := fun wx hb => by
    have := joined_any F F ao n cap xs none 0 0 [] wx (hX.below byteF_firm hb) SlF.nil (by omega)
    simpa using this
  clear h
  go_enter Try.func19, Try.ntmps19
  go_wp2_with (go_at_call 45; refine (H.out _).mono ?_; rintro e w1 ⟨rfl, hb1⟩; obtain ⟨hc_w1, hf_w1⟩ := bcell hb1; have hs_w1 := hb1.size; (try simp only [World.size_alloc, World.size_drew, World.size_setCell] at hs_w1); (try simp only [World.size_drew, World.cell?_drew, World.frozen?_drew] at hc_w1 hf_w1); have z0_w1 : w.heap.size < w1.heap.size := (by omega); have z1_w1 : w.heap.size + 1 < w1.heap.size := (by omega))
  go_region_with (go_at_call 46; refine (HX.out _ (by repeat (first | exact Below.refl _ _ | assumption | refine below_step ?_ (by assumption) | refine below_step ?_ (Joins.below_draws _ _ _) | (refine Below.alloc ?_ (by first | omega | (simp; done) | (simp; omega)) _) | (refine Below.setCell ?_ (by first | omega | (simp; done) | (simp; omega)) _) | refine Below.drew ?_))).mono ?_; rintro e w2 ⟨ao1, cap1, rfl, hb2, hS1⟩; obtain ⟨hc_w2, hf_w2⟩ := bcell hb2; have hs_w2 := hb2.size; (try simp only [World.size_alloc, World.size_drew, World.size_setCell] at hs_w2); (try simp only [World.size_drew, World.cell?_drew, World.frozen?_drew] at hc_w2 hf_w2))
  all_goals
    have k0 : (w2.cell? ⟨w.heap.size + 1, 0, none⟩).isSome = true := by simp [hc_w2, hc_w1, z1_w1]
    have k1 : (w2.cell? ⟨w.heap.size + 1, 1, none⟩).isSome = true := by simp [hc_w2, hc_w1, z1_w1]
    go_wp2
    refine bodyPost_ret (v := .tuple #[.agg #[.slice ao1 n cap1, .int .i64 n], .int .i64 0]) (by simp [results, Try.results19, go_sem, k0, k1, World.cell?_setCell_other]) rfl ?_
    exact ⟨ao1, cap1, rfl, (by repeat (first | exact Below.refl _ _ | assumption | refine below_step ?_ (by assumption) | refine below_step ?_ (Joins.below_draws _ _ _) | (refine Below.alloc ?_ (by first | omega | (simp; done) | (simp; omega)) _) | (refine Below.setCell ?_ (by first | omega | (simp; done) | (simp; omega)) _) | refine Below.drew ?_)), hS1.same byteF_firm (by refine Same.into ?_ (fun b h _ => (by (first | exact h | exact trivial | (revert h; show _ ≤ b → _ ≤ b; intro h; (try simp only [World.size_alloc, World.size_setCell, World.size_drew] at *); omega)))); repeat (first | exact Same.refl | exact Same.below (by assumption) | (refine Same.trans ?_ (Same.setCell _ (by show ¬ (_ ≤ _); (try simp only [World.size_alloc, World.size_setCell, World.size_drew] at *); omega))) | refine Same.trans ?_ Same.drew | refine Same.trans ?_ (Same.alloc _) | refine Same.trans ?_ (Same.below (by assumption))))⟩

/-- Are two tapes the same? -/
theorem str_same (xs ys : List UInt8) : ((⟨xs.toArray⟩ : ByteArray).toList == (⟨ys.toArray⟩ : ByteArray).toList) = (xs == ys) := by
  rw [ByteArray.toList_eq, ByteArray.toList_eq]
set_option maxHeartbeats 1000000 in
theorem sameTape_yes (F G : Nat → Prop) (ao : Option Addr) (n cap : Nat) (s : Int) (xs : List UInt8) (bo : Option Addr) (m bcap : Nat) (w : World) (hX : SlF F w 1 byteF ao n cap xs) (hY : SlF G w 1 byteF bo m bcap xs) :
    Calls Try.prog 20 #[.agg #[.slice ao n cap, .int .i64 s], .agg #[.slice bo m bcap, .int .i64 s]] w fun e w' => e = .returned (.bool true) ∧ Below w.heap.size w w' := by
  have c1 := convert_bytes (P := Try.prog) (src := 28) (dst := 9) Try.underlying28 Try.underlying5 Try.underlying9 (hX.below byteF_firm (Joins.below_alloc2 w (.cells #[.slice ao n cap, .int .i64 s] 30) (.cells #[.slice bo m bcap, .int .i64 s] 30)))
  have c2 := convert_bytes (P := Try.prog) (src := 28) (dst := 9) Try.underlying28 Try.underlying5 Try.underlying9 (hY.below byteF_firm (Joins.below_alloc2 w (.cells #[.slice ao n cap, .int .i64 s] 30) (.cells #[.slice bo m bcap, .int .i64 s] 30)))
  go_enter Try.func20, Try.ntmps20
  go_wp2
  go_ret
  exact ⟨rfl, (by repeat (first | exact Below.refl _ _ | assumption | refine below_step ?_ (by assumption) | refine below_step ?_ (Joins.below_draws _ _ _) | (refine Below.alloc ?_ (by first | omega | (simp; done) | (simp; omega)) _) | (refine Below.setCell ?_ (by first | omega | (simp; done) | (simp; omega)) _) | refine Below.drew ?_))⟩
set_option maxHeartbeats 1000000 in
theorem crash_bad (ao : Option Addr) (n cap : Nat) (s keep : Int) (w : World) (h : mayB n s = false) :
    Calls Try.prog 21 #[.agg #[.slice ao n cap, .int .i64 s], .int .i64 keep] w fun e w' => e = .returned (.tuple #[.agg #[.slice none 0 0, .int .i64 0], .int .i64 9]) ∧ Below w.heap.size w w' := by
  have H : Hid (∀ wx, Calls Try.prog 44 #[.agg #[.slice ao n cap, .int .i64 s]] wx fun e w' => e = .returned (.tuple #[.agg #[.slice none 0 0, .int .i64 0], .bool false]) ∧ Below wx.heap.size wx w') := fun wx => open_bad ao n cap s wx h
  clear h
  go_enter Try.func21, Try.ntmps21
  go_wp2_with (go_at_call 44; refine (H.out _).mono ?_; rintro e w1 ⟨rfl, hb1⟩; obtain ⟨hc_w1, hf_w1⟩ := bcell hb1; have hs_w1 := hb1.size; (try simp only [World.size_alloc, World.size_drew, World.size_setCell] at hs_w1); (try simp only [World.size_drew, World.cell?_drew, World.frozen?_drew] at hc_w1 hf_w1); have z0_w1 : w.heap.size < w1.heap.size := (by omega); have z1_w1 : w.heap.size + 1 < w1.heap.size := (by omega))
  refine bodyPost_ret (v := .tuple #[.agg #[.slice none 0 0, .int .i64 0], .int .i64 9]) (by simp [results, Try.results21, go_sem, hc_w1, z0_w1, z1_w1, World.cell?_setCell_other]) rfl ?_
  exact ⟨rfl, (by repeat (first | exact Below.refl _ _ | assumption | refine below_step ?_ (by assumption) | refine below_step ?_ (Joins.below_draws _ _ _) | (refine Below.alloc ?_ (by first | omega | (simp; done) | (simp; omega)) _) | (refine Below.setCell ?_ (by first | omega | (simp; done) | (simp; omega)) _) | refine Below.drew ?_))⟩
set_option maxHeartbeats 1000000 in
theorem crash_range (F : Nat → Prop) (ao : Option Addr) (n cap : Nat) (s keep : Int) (xs : List UInt8) (w : World) (h : mayB n s = true) (hk : keep < 0) (hX : SlF F w 1 byteF ao n cap xs) :
    Calls Try.prog 21 #[.agg #[.slice ao n cap, .int .i64 s], .int .i64 keep] w fun e w' => e = .returned (.tuple #[.agg #[.slice none 0 0, .int .i64 0], .int .i64 2]) ∧ Below w.heap.size w w' := by
  have H : Hid (∀ wx, Below w.heap.size w wx → Calls Try.prog 44 #[.agg #[.slice ao n cap, .int .i64 s]] wx fun e w' => ∃ ao' cap', e = .returned (.tuple #[.agg #[.slice ao' n cap', .int .i64 s], .bool true]) ∧ Below wx.heap.size wx w' ∧ SlF (from_ wx.heap.size) w' 1 byteF ao' n cap' xs) := fun wx hb => open_good F ao n cap s xs wx h (hX.below byteF_firm hb)
  clear h
  go_enter Try.func21, Try.ntmps21
  go_wp2_with (go_at_call 44; refine (H.out _ (by repeat (first | exact Below.refl _ _ | assumption | refine below_step ?_ (by assumption) | refine below_step ?_ (Joins.below_draws _ _ _) | (refine Below.alloc ?_ (by first | omega | (simp; done) | (simp; omega)) _) | (refine Below.setCell ?_ (by first | omega | (simp; done) | (simp; omega)) _) | refine Below.drew ?_))).mono ?_; rintro e w1 ⟨ao1, cap1, rfl, hb1, hS1⟩; obtain ⟨hc_w1, hf_w1⟩ := bcell hb1; have hs_w1 := hb1.size; (try simp only [World.size_alloc, World.size_drew, World.size_setCell] at hs_w1); (try simp only [World.size_drew, World.cell?_drew, World.frozen?_drew] at hc_w1 hf_w1); have z0_w1 : w.heap.size < w1.heap.size := (by omega); have z1_w1 : w.heap.size + 1 < w1.heap.size := (by omega))
  refine bodyPost_ret (v := .tuple #[.agg #[.slice none 0 0, .int .i64 0], .int .i64 2]) (by simp [results, Try.results21, go_sem, hc_w1, z0_w1, z1_w1, World.cell?_setCell_other]) rfl ?_
  exact ⟨rfl, (by repeat (first | exact Below.refl _ _ | assumption | refine below_step ?_ (by assumption) | refine below_step ?_ (Joins.below_draws _ _ _) | (refine Below.alloc ?_ (by first | omega | (simp; done) | (simp; omega)) _) | (refine Below.setCell ?_ (by first | omega | (simp; done) | (simp; omega)) _) | refine Below.drew ?_))⟩
set_option maxHeartbeats 1000000 in
theorem crash_good (F : Nat → Prop) (ao : Option Addr) (n cap : Nat) (s keep : Int) (xs : List UInt8) (w : World) (h : mayB n s = true) (hk : 0 ≤ keep) (m : Nat) (hm : (m : Int) = s + min keep (n - s)) (hX : SlF F w 1 byteF ao n cap xs) :
    Calls Try.prog 21 #[.agg #[.slice ao n cap, .int .i64 s], .int .i64 keep] w fun e w' => ∃ ao', e = .returned (.tuple #[.agg #[.slice ao' m m, .int .i64 m], .int .i64 0]) ∧ Below w.heap.size w w' ∧ SlF (from_ w.heap.size) w' 1 byteF ao' m m (xs.take m) := by
  have H : Hid (∀ wx, Below w.heap.size w wx → Calls Try.prog 44 #[.agg #[.slice ao n cap, .int .i64 s]] wx fun e w' => ∃ ao' cap', e = .returned (.tuple #[.agg #[.slice ao' n cap', .int .i64 s], .bool true]) ∧ Below wx.heap.size wx w' ∧ SlF (from_ wx.heap.size) w' 1 byteF ao' n cap' xs) := fun wx hb => open_good F ao n cap s xs wx h (hX.below byteF_firm hb)
  obtain ⟨hn, hs0, hsn⟩ := mayB_true h
  have hn' : (n : Int) ≤ 200000 := by omega
  have hlo : 0 ≤ s + min keep (n - s) := by omega
  have hhi : s + min keep (n - s) ≤ n := by omega
  have M : Hid ((m : Int) = s + min keep (n - s)) := hm
  clear h hm
  go_enter Try.func21, Try.ntmps21
  go_wp2_with (go_at_call 44; refine (H.out _ (by repeat (first | exact Below.refl _ _ | assumption | refine below_step ?_ (by assumption) | refine below_step ?_ (Joins.below_draws _ _ _) | (refine Below.alloc ?_ (by first | omega | (simp; done) | (simp; omega)) _) | (refine Below.setCell ?_ (by first | omega | (simp; done) | (simp; omega)) _) | refine Below.drew ?_))).mono ?_; rintro e w1 ⟨ao1, cap1, rfl, hb1, hS1⟩; obtain ⟨hc_w1, hf_w1⟩ := bcell hb1; have hs_w1 := hb1.size; (try simp only [World.size_alloc, World.size_drew, World.size_setCell] at hs_w1); (try simp only [World.size_drew, World.cell?_drew, World.frozen?_drew] at hc_w1 hf_w1); have z0_w1 : w.heap.size < w1.heap.size := (by omega); have z1_w1 : w.heap.size + 1 < w1.heap.size := (by omega); have hle1 := hS1.le)
  all_goals
    first
    | (have hm : s + keep = (m : Int) := (by have := M.out; omega); simp only [hm, Int.toNat_natCast])
    | (have hm : s + ((n : Int) - s) = (m : Int) := (by have := M.out; omega); simp only [hm, Int.toNat_natCast])
    | (have hm : (n : Int) = (m : Int) := (by have := M.out; omega); simp only [hm, Int.toNat_natCast])
    refine bodyPost_ret (v := .tuple #[.agg #[.slice ao1 m m, .int .i64 m], .int .i64 0]) (by simp [results, Try.results21, go_sem, hc_w1, z0_w1, z1_w1, World.cell?_setCell_other]) rfl ?_
    have hmn : m ≤ n := by have := M.out; omega
    exact ⟨ao1, rfl, (by repeat (first | exact Below.refl _ _ | assumption | refine below_step ?_ (by assumption) | refine below_step ?_ (Joins.below_draws _ _ _) | (refine Below.alloc ?_ (by first | omega | (simp; done) | (simp; omega)) _) | (refine Below.setCell ?_ (by first | omega | (simp; done) | (simp; omega)) _) | refine Below.drew ?_)), (hS1.take m m hmn (Nat.le_refl _) (by omega)).same byteF_firm (by refine Same.into ?_ (fun b h _ => (by (first | exact h | exact trivial | (revert h; show _ ≤ b → _ ≤ b; intro h; (try simp only [World.size_alloc, World.size_setCell, World.size_drew] at *); omega)))); repeat (first | exact Same.refl | exact Same.below (by assumption) | (refine Same.trans ?_ (Same.setCell _ (by show ¬ (_ ≤ _); (try simp only [World.size_alloc, World.size_setCell, World.size_drew] at *); omega))) | refine Same.trans ?_ Same.drew | refine Same.trans ?_ (Same.alloc _) | refine Same.trans ?_ (Same.below (by assumption))))⟩
set_option maxHeartbeats 1000000 in
theorem crashed_bad (ao : Option Addr) (n cap : Nat) (s keep : Int) (w : World) (h : mayB n s = false) :
    Calls Try.prog 22 #[.agg #[.slice ao n cap, .int .i64 s], .int .i64 keep] w fun e w' => e = .returned (.tuple #[.agg #[.slice none 0 0, .int .i64 0], .int .i64 9]) ∧ Below w.heap.size w w' := by
  have H : Hid (∀ wx, Calls Try.prog 45 #[.agg #[.slice ao n cap, .int .i64 s]] wx fun e w' => e = .returned (.bool false) ∧ Below wx.heap.size wx w') := fun wx => by rw [← h]; exact tapeMay_any ao n cap s wx
  clear h
  go_enter Try.func22, Try.ntmps22
  go_wp2_with (go_at_call 45; refine (H.out _).mono ?_; rintro e w1 ⟨rfl, hb1⟩; obtain ⟨hc_w1, hf_w1⟩ := bcell hb1; have hs_w1 := hb1.size; (try simp only [World.size_alloc, World.size_drew, World.size_setCell] at hs_w1); (try simp only [World.size_drew, World.cell?_drew, World.frozen?_drew] at hc_w1 hf_w1); have z0_w1 : w.heap.size < w1.heap.size := (by omega); have z1_w1 : w.heap.size + 1 < w1.heap.size := (by omega))
  refine bodyPost_ret (v := .tuple #[.agg #[.slice none 0 0, .int .i64 0], .int .i64 9]) (by simp [results, Try.results22, go_sem, hc_w1, z0_w1, z1_w1, World.cell?_setCell_other]) rfl ?_
  exact ⟨rfl, (by repeat (first | exact Below.refl _ _ | assumption | refine below_step ?_ (by assumption) | refine below_step ?_ (Joins.below_draws _ _ _) | (refine Below.alloc ?_ (by first | omega | (simp; done) | (simp; omega)) _) | (refine Below.setCell ?_ (by first | omega | (simp; done) | (simp; omega)) _) | refine Below.drew ?_))⟩
set_option maxHeartbeats 1000000 in
theorem crashed_range (ao : Option Addr) (n cap : Nat) (s keep : Int) (w : World) (h : mayB n s = true) (hk : keep < 0) :
    Calls Try.prog 22 #[.agg #[.slice ao n cap, .int .i64 s], .int .i64 keep] w fun e w' => e = .returned (.tuple #[.agg #[.slice none 0 0, .int .i64 0], .int .i64 2]) ∧ Below w.heap.size w w' := by
  have H : Hid (∀ wx, Calls Try.prog 45 #[.agg #[.slice ao n cap, .int .i64 s]] wx fun e w' => e = .returned (.bool true) ∧ Below wx.heap.size wx w') := fun wx => by rw [← h]; exact tapeMay_any ao n cap s wx
  clear h
  go_enter Try.func22, Try.ntmps22
  go_wp2_with (go_at_call 45; refine (H.out _).mono ?_; rintro e w1 ⟨rfl, hb1⟩; obtain ⟨hc_w1, hf_w1⟩ := bcell hb1; have hs_w1 := hb1.size; (try simp only [World.size_alloc, World.size_drew, World.size_setCell] at hs_w1); (try simp only [World.size_drew, World.cell?_drew, World.frozen?_drew] at hc_w1 hf_w1); have z0_w1 : w.heap.size < w1.heap.size := (by omega); have z1_w1 : w.heap.size + 1 < w1.heap.size := (by omega))
  refine bodyPost_ret (v := .tuple #[.agg #[.slice none 0 0, .int .i64 0], .int .i64 2]) (by simp [results, Try.results22, go_sem, hc_w1, z0_w1, z1_w1, World.cell?_setCell_other]) rfl ?_
  exact ⟨rfl, (by repeat (first | exact Below.refl _ _ | assumption | refine below_step ?_ (by assumption) | refine below_step ?_ (Joins.below_draws _ _ _) | (refine Below.alloc ?_ (by first | omega | (simp; done) | (simp; omega)) _) | (refine Below.setCell ?_ (by first | omega | (simp; done) | (simp; omega)) _) | refine Below.drew ?_))⟩
set_option maxHeartbeats 1000000 in
theorem crashed_good (F : Nat → Prop) (ao : Option Addr) (n cap : Nat) (s keep : Int) (xs : List UInt8) (w : World) (h : mayB n s = true) (hk : 0 ≤ keep) (m : Nat) (hm : (m : Int) = s + min keep (n - s)) (hX : SlF F w 1 byteF ao n cap xs) :
    Calls Try.prog 22 #[.agg #[.slice ao n cap, .int .i64 s], .int .i64 keep] w fun e w' => ∃ ao' cap', e = .returned (.tuple #[.agg #[.slice ao' m cap', .int .i64 m], .int .i64 0]) ∧ Below w.heap.size w w' ∧ SlF (from_ w.heap.size) w' 1 byteF ao' m cap' (xs.take m) := by
  have H : Hid (∀ wx, Calls Try.prog 45 #[.agg #[.slice ao n cap, .int .i64 s]] wx fun e w' => e = .returned (.bool true) ∧ Below wx.heap.size wx w') := fun wx => by rw [← h]; exact tapeMay_any ao n cap s wx
  obtain ⟨hn, hs0, hsn⟩ := mayB_true h
  have hle := hX.le
  have hmn : m ≤ n := by omega
  have HX : Hid (∀ wx, Below w.heap.size w wx → Calls Try.prog 46 #[.slice ao m cap, .slice none 0 0] wx fun e w' => ∃ ao' cap', e = .returned (.slice ao' m cap') ∧ Below wx.heap.size wx w' ∧ SlF (from_ wx.heap.size) w' 1 byteF ao' m cap' (xs.take m)) := fun wx hb => by
    have := joined_any F F ao m cap (xs.take m) none 0 0 [] wx ((hX.take m cap hmn (by omega) (Nat.le_refl _)).below byteF_firm hb) SlF.nil (by omega)
    simpa using this
  have hn' : (n : Int) ≤ 200000 := by omega
  by_cases hc : keep < n - s
  · obtain rfl : keep = m - s := by omega
    have hsm : s + ((m : Int) - s) = m := by omega
    clear h hm
    go_enter Try.func22, Try.ntmps22
    go_wp2_with (first | (go_at_call 45; refine (H.out _).mono ?_; rintro e w1 ⟨rfl, hb1⟩; obtain ⟨hc_w1, hf_w1⟩ := bcell hb1; have hs_w1 := hb1.size; (try simp only [World.size_alloc, World.size_drew, World.size_setCell] at hs_w1); (try simp only [World.size_drew, World.cell?_drew, World.frozen?_drew] at hc_w1 hf_w1); have z0_w1 : w.heap.size < w1.heap.size := (by omega); have z1_w1 : w.heap.size + 1 < w1.heap.size := (by omega)) | (go_at_call 46; (with_reducible refine (HX.out _ (by repeat (first | exact Below.refl _ _ | assumption | refine below_step ?_ (by assumption) | refine below_step ?_ (Joins.below_draws _ _ _) | (refine Below.alloc ?_ (by first | omega | (simp; done) | (simp; omega)) _) | (refine Below.setCell ?_ (by first | omega | (simp; done) | (simp; omega)) _) | refine Below.drew ?_))).mono ?_); rintro e w2 ⟨ao1, cap1, rfl, hb2, hS1⟩; obtain ⟨hc_w2, hf_w2⟩ := bcell hb2; have hs_w2 := hb2.size; (try simp only [World.size_alloc, World.size_drew, World.size_setCell] at hs_w2); (try simp only [World.size_drew, World.cell?_drew, World.frozen?_drew] at hc_w2 hf_w2)))
    refine bodyPost_ret (v := .tuple #[.agg #[.slice ao1 m cap1, .int .i64 m], .int .i64 0]) (by simp [results, Try.results22, go_sem, hc_w1, hc_w2, z0_w1, z1_w1, World.cell?_setCell_other]) rfl ?_
    exact ⟨ao1, cap1, rfl, (by repeat (first | exact Below.refl _ _ | assumption | refine below_step ?_ (by assumption) | refine below_step ?_ (Joins.below_draws _ _ _) | (refine Below.alloc ?_ (by first | omega | (simp; done) | (simp; omega)) _) | (refine Below.setCell ?_ (by first | omega | (simp; done) | (simp; omega)) _) | refine Below.drew ?_)), hS1.same byteF_firm (by refine Same.into ?_ (fun b h _ => (by (first | exact h | exact trivial | (revert h; show _ ≤ b → _ ≤ b; intro h; (try simp only [World.size_alloc, World.size_setCell, World.size_drew] at *); omega)))); repeat (first | exact Same.refl | exact Same.below (by assumption) | (refine Same.trans ?_ (Same.setCell _ (by show ¬ (_ ≤ _); (try simp only [World.size_alloc, World.size_setCell, World.size_drew] at *); omega))) | refine Same.trans ?_ Same.drew | refine Same.trans ?_ (Same.alloc _) | refine Same.trans ?_ (Same.below (by assumption))))⟩
  · obtain rfl : m = n := by omega
    clear h hm
    go_enter Try.func22, Try.ntmps22
    go_wp2_with (first | (go_at_call 45; refine (H.out _).mono ?_; rintro e w1 ⟨rfl, hb1⟩; obtain ⟨hc_w1, hf_w1⟩ := bcell hb1; have hs_w1 := hb1.size; (try simp only [World.size_alloc, World.size_drew, World.size_setCell] at hs_w1); (try simp only [World.size_drew, World.cell?_drew, World.frozen?_drew] at hc_w1 hf_w1); have z0_w1 : w.heap.size < w1.heap.size := (by omega); have z1_w1 : w.heap.size + 1 < w1.heap.size := (by omega)) | (go_at_call 46; (with_reducible refine (HX.out _ (by repeat (first | exact Below.refl _ _ | assumption | refine below_step ?_ (by assumption) | refine below_step ?_ (Joins.below_draws _ _ _) | (refine Below.alloc ?_ (by first | omega | (simp; done) | (simp; omega)) _) | (refine Below.setCell ?_ (by first | omega | (simp; done) | (simp; omega)) _) | refine Below.drew ?_))).mono ?_); rintro e w2 ⟨ao1, cap1, rfl, hb2, hS1⟩; obtain ⟨hc_w2, hf_w2⟩ := bcell hb2; have hs_w2 := hb2.size; (try simp only [World.size_alloc, World.size_drew, World.size_setCell] at hs_w2); (try simp only [World.size_drew, World.cell?_drew, World.frozen?_drew] at hc_w2 hf_w2)))
    refine bodyPost_ret (v := .tuple #[.agg #[.slice ao1 m cap1, .int .i64 m], .int .i64 0]) (by simp [results, Try.results22, go_sem, hc_w1, hc_w2, z0_w1, z1_w1, World.cell?_setCell_other]) rfl ?_
    exact ⟨ao1, cap1, rfl, (by repeat (first | exact Below.refl _ _ | assumption | refine below_step ?_ (by assumption) | refine below_step ?_ (Joins.below_draws _ _ _) | (refine Below.alloc ?_ (by first | omega | (simp; done) | (simp; omega)) _) | (refine Below.setCell ?_ (by first | omega | (simp; done) | (simp; omega)) _) | refine Below.drew ?_)), hS1.same byteF_firm (by refine Same.into ?_ (fun b h _ => (by (first | exact h | exact trivial | (revert h; show _ ≤ b → _ ≤ b; intro h; (try simp only [World.size_alloc, World.size_setCell, World.size_drew] at *); omega)))); repeat (first | exact Same.refl | exact Same.below (by assumption) | (refine Same.trans ?_ (Same.setCell _ (by show ¬ (_ ≤ _); (try simp only [World.size_alloc, World.size_setCell, World.size_drew] at *); omega))) | refine Same.trans ?_ Same.drew | refine Same.trans ?_ (Same.alloc _) | refine Same.trans ?_ (Same.below (by assumption))))⟩
end Go.Proofs.Ytipemoajdphdfaa
