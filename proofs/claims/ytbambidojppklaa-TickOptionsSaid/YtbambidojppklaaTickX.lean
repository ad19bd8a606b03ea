/-
  The walks of package tick and of its reference, second part.
-/
import Derived.Test.YtbambidojppklaaTickW
namespace Go.Proofs.Ytbambidojppklaa
open Go.RowKit
set_option linter.unusedVariables false
set_option linter.unusedSimpArgs false

theorem below_step {a b c : World} (h : Below a.heap.size a b) (k : Below b.heap.size b c) : Below a.heap.size a c := h.trans (k.mono h.size)
theorem bcell {W w1 : World} (hb : Below W.heap.size W w1) : (∀ b o, b < W.heap.size → w1.cell? ⟨b, o, none⟩ = W.cell? ⟨b, o, none⟩) ∧ (∀ b o, b < W.heap.size → w1.frozen? ⟨b, o, none⟩ = W.frozen? ⟨b, o, none⟩) :=
  ⟨fun b o h => hb.cell (p := ⟨b, o, none⟩) h, fun b o h => hb.frozen (p := ⟨b, o, none⟩) h⟩

/-- The distance by a relation that holds. -/
def distI (r a b c d : Int) : Int :=
  if r = 1 then c - b else if r = 2 then a - d else if r = 5 then b - c else if r = 6 then d - a else if r = 7 then d - b else if r = 8 then b - d
  else if r = 9 then a - c else if r = 10 then c - a else if r = 11 then a - c else if r = 12 then c - a else 0
set_option maxHeartbeats 400000 in
theorem distance1 (a b c d : Int) (w : World) (va : 0 ≤ a ∧ a ≤ 1099511627776) (vb : 0 ≤ b ∧ b ≤ 1099511627776) (vc : 0 ≤ c ∧ c ≤ 1099511627776) (vd : 0 ≤ d ∧ d ≤ 1099511627776) (hr : relB 1 a b c d = true) :
    Calls Try.prog 36 #[.int .i64 1, .agg #[.int .i64 a, .int .i64 b], .agg #[.int .i64 c, .int .i64 d]] w fun e w' => e = .returned (.int .i64 (distI 1 a b c d)) ∧ Below w.heap.size w w' := by
  obtain ⟨a0, a1⟩ := va
  obtain ⟨b0, b1⟩ := vb
  obtain ⟨c0, c1⟩ := vc
  obtain ⟨d0, d1⟩ := vd
  have hle : Hid (relB 1 a b c d = true) := hr
  clear hr
  go_enter Try.func36, Try.ntmps36
  go_wp2
  all_goals (go_ret; refine ⟨?_, (by repeat (first | exact Below.refl _ _ | assumption | refine below_step ?_ (by assumption) | (refine Below.alloc ?_ (by first | omega | (simp; done) | (simp; omega)) _) | (refine Below.setCell ?_ (by first | omega | (simp; done) | (simp; omega)) _) | refine Below.drew ?_))⟩; have h1 := hle.out; clear hle; exact ret_int (by go_light; simp [relB] at h1; simp [distI]; try omega))
set_option maxHeartbeats 400000 in
theorem distance2 (a b c d : Int) (w : World) (va : 0 ≤ a ∧ a ≤ 1099511627776) (vb : 0 ≤ b ∧ b ≤ 1099511627776) (vc : 0 ≤ c ∧ c ≤ 1099511627776) (vd : 0 ≤ d ∧ d ≤ 1099511627776) (hr : relB 2 a b c d = true) :
    Calls Try.prog 36 #[.int .i64 2, .agg #[.int .i64 a, .int .i64 b], .agg #[.int .i64 c, .int .i64 d]] w fun e w' => e = .returned (.int .i64 (distI 2 a b c d)) ∧ Below w.heap.size w w' := by
  obtain ⟨a0, a1⟩ := va
  obtain ⟨b0, b1⟩ := vb
  obtain ⟨c0, c1⟩ := vc
  obtain ⟨d0, d1⟩ := vd
  have hle : Hid (relB 2 a b c d = true) := hr
  clear hr
  go_enter Try.func36, Try.ntmps36
  go_wp2
  all_goals (go_ret; refine ⟨?_, (by repeat (first | exact Below.refl _ _ | assumption | refine below_step ?_ (by assumption) | (refine Below.alloc ?_ (by first | omega | (simp; done) | (simp; omega)) _) | (refine Below.setCell ?_ (by first | omega | (simp; done) | (simp; omega)) _) | refine Below.drew ?_))⟩; have h1 := hle.out; clear hle; exact ret_int (by go_light; simp [relB] at h1; simp [distI]; try omega))
set_option maxHeartbeats 400000 in
theorem distance3 (a b c d : Int) (w : World) (va : 0 ≤ a ∧ a ≤ 1099511627776) (vb : 0 ≤ b ∧ b ≤ 1099511627776) (vc : 0 ≤ c ∧ c ≤ 1099511627776) (vd : 0 ≤ d ∧ d ≤ 1099511627776) (hr : relB 3 a b c d = true) :
    Calls Try.prog 36 #[.int .i64 3, .agg #[.int .i64 a, .int .i64 b], .agg #[.int .i64 c, .int .i64 d]] w fun e w' => e = .returned (.int .i64 (distI 3 a b c d)) ∧ Below w.heap.size w w' := by
  obtain ⟨a0, a1⟩ := va
  obtain ⟨b0, b1⟩ := vb
  obtain ⟨c0, c1⟩ := vc
  obtain ⟨d0, d1⟩ := vd
  have hle : Hid (relB 3 a b c d = true) := hr
  clear hr
  go_enter Try.func36, Try.ntmps36
  go_wp2
  all_goals (go_ret; refine ⟨?_, (by repeat (first | exact Below.refl _ _ | assumption | refine below_step ?_ (by assumption) | (refine Below.alloc ?_ (by first | omega | (simp; done) | (simp; omega)) _) | (refine Below.setCell ?_ (by first | omega | (simp; done) | (simp; omega)) _) | refine Below.drew ?_))⟩; have h1 := hle.out; clear hle; exact ret_int (by go_light; simp [relB] at h1; simp [distI]; try omega))
set_option maxHeartbeats 400000 in
theorem distance4 (a b c d : Int) (w : World) (va : 0 ≤ a ∧ a ≤ 1099511627776) (vb : 0 ≤ b ∧ b ≤ 1099511627776) (vc : 0 ≤ c ∧ c ≤ 1099511627776) (vd : 0 ≤ d ∧ d ≤ 1099511627776) (hr : relB 4 a b c d = true) :
    Calls Try.prog 36 #[.int .i64 4, .agg #[.int .i64 a, .int .i64 b], .agg #[.int .i64 c, .int .i64 d]] w fun e w' => e = .returned (.int .i64 (distI 4 a b c d)) ∧ Below w.heap.size w w' := by
  obtain ⟨a0, a1⟩ := va
  obtain ⟨b0, b1⟩ := vb
  obtain ⟨c0, c1⟩ := vc
  obtain ⟨d0, d1⟩ := vd
  have hle : Hid (relB 4 a b c d = true) := hr
  clear hr
  go_enter Try.func36, Try.ntmps36
  go_wp2
  all_goals (go_ret; refine ⟨?_, (by repeat (first | exact Below.refl _ _ | assumption | refine below_step ?_ (by assumption) | (refine Below.alloc ?_ (by first | omega | (simp; done) | (simp; omega)) _) | (refine Below.setCell ?_ (by first | omega | (simp; done) | (simp; omega)) _) | refine Below.drew ?_))⟩; have h1 := hle.out; clear hle; exact ret_int (by go_light; simp [relB] at h1; simp [distI]; try omega))
set_option maxHeartbeats 400000 in
theorem distance5 (a b c d : Int) (w : World) (va : 0 ≤ a ∧ a ≤ 1099511627776) (vb : 0 ≤ b ∧ b ≤ 1099511627776) (vc : 0 ≤ c ∧ c ≤ 1099511627776) (vd : 0 ≤ d ∧ d ≤ 1099511627776) (hr : relB 5 a b c d = true) :
    Calls Try.prog 36 #[.int .i64 5, .agg #[.int .i64 a, .int .i64 b], .agg #[.int .i64 c, .int .i64 d]] w fun e w' => e = .returned (.int .i64 (distI 5 a b c d)) ∧ Below w.heap.size w w' := by
  obtain ⟨a0, a1⟩ := va
  obtain ⟨b0, b1⟩ := vb
  obtain ⟨c0, c1⟩ := vc
  obtain ⟨d0, d1⟩ := vd
  have hle : Hid (relB 5 a b c d = true) := hr
  clear hr
  go_enter Try.func36, Try.ntmps36
  go_wp2
  all_goals (go_ret; refine ⟨?_, (by repeat (first | exact Below.refl _ _ | assumption | refine below_step ?_ (by assumption) | (refine Below.alloc ?_ (by first | omega | (simp; done) | (simp; omega)) _) | (refine Below.setCell ?_ (by first | omega | (simp; done) | (simp; omega)) _) | refine Below.drew ?_))⟩; have h1 := hle.out; clear hle; exact ret_int (by go_light; simp [relB] at h1; simp [distI]; try omega))
set_option maxHeartbeats 400000 in
theorem distance6 (a b c d : Int) (w : World) (va : 0 ≤ a ∧ a ≤ 1099511627776) (vb : 0 ≤ b ∧ b ≤ 1099511627776) (vc : 0 ≤ c ∧ c ≤ 1099511627776) (vd : 0 ≤ d ∧ d ≤ 1099511627776) (hr : relB 6 a b c d = true) :
    Calls Try.prog 36 #[.int .i64 6, .agg #[.int .i64 a, .int .i64 b], .agg #[.int .i64 c, .int .i64 d]] w fun e w' => e = .returned (.int .i64 (distI 6 a b c d)) ∧ Below w.heap.size w w' := by
  obtain ⟨a0, a1⟩ := va
  obtain ⟨b0, b1⟩ := vb
  obtain ⟨c0, c1⟩ := vc
  obtain ⟨d0, d1⟩ := vd
  have hle : Hid (relB 6 a b c d = true) := hr
  clear hr
  go_enter Try.func36, Try.ntmps36
  go_wp2
  all_goals (go_ret; refine ⟨?_, (by repeat (first | exact Below.refl _ _ | assumption | refine below_step ?_ (by assumption) | (refine Below.alloc ?_ (by first | omega | (simp; done) | (simp; omega)) _) | (refine Below.setCell ?_ (by first | omega | (simp; done) | (simp; omega)) _) | refine Below.drew ?_))⟩; have h1 := hle.out; clear hle; exact ret_int (by go_light; simp [relB] at h1; simp [distI]; try omega))
set_option maxHeartbeats 400000 in
theorem distance7 (a b c d : Int) (w : World) (va : 0 ≤ a ∧ a ≤ 1099511627776) (vb : 0 ≤ b ∧ b ≤ 1099511627776) (vc : 0 ≤ c ∧ c ≤ 1099511627776) (vd : 0 ≤ d ∧ d ≤ 1099511627776) (hr : relB 7 a b c d = true) :
    Calls Try.prog 36 #[.int .i64 7, .agg #[.int .i64 a, .int .i64 b], .agg #[.int .i64 c, .int .i64 d]] w fun e w' => e = .returned (.int .i64 (distI 7 a b c d)) ∧ Below w.heap.size w w' := by
  obtain ⟨a0, a1⟩ := va
  obtain ⟨b0, b1⟩ := vb
  obtain ⟨c0, c1⟩ := vc
  obtain ⟨d0, d1⟩ := vd
  have hle : Hid (relB 7 a b c d = true) := hr
  clear hr
  go_enter Try.func36, Try.ntmps36
  go_wp2
  all_goals (go_ret; refine ⟨?_, (by repeat (first | exact Below.refl _ _ | assumption | refine below_step ?_ (by assumption) | (refine Below.alloc ?_ (by first | omega | (simp; done) | (simp; omega)) _) | (refine Below.setCell ?_ (by first | omega | (simp; done) | (simp; omega)) _) | refine Below.drew ?_))⟩; have h1 := hle.out; clear hle; exact ret_int (by go_light; simp [relB] at h1; simp [distI]; try omega))
set_option maxHeartbeats 400000 in
theorem distance8 (a b c d : Int) (w : World) (va : 0 ≤ a ∧ a ≤ 1099511627776) (vb : 0 ≤ b ∧ b ≤ 1099511627776) (vc : 0 ≤ c ∧ c ≤ 1099511627776) (vd : 0 ≤ d ∧ d ≤ 1099511627776) (hr : relB 8 a b c d = true) :
    Calls Try.prog 36 #[.int .i64 8, .agg #[.int .i64 a, .int .i64 b], .agg #[.int .i64 c, .int .i64 d]] w fun e w' => e = .returned (.int .i64 (distI 8 a b c d)) ∧ Below w.heap.size w w' := by
  obtain ⟨a0, a1⟩ := va
  obtain ⟨b0, b1⟩ := vb
  obtain ⟨c0, c1⟩ := vc
  obtain ⟨d0, d1⟩ := vd
  have hle : Hid (relB 8 a b c d = true) := hr
  clear hr
  go_enter Try.func36, Try.ntmps36
  go_wp2
  all_goals (go_ret; refine ⟨?_, (by repeat (first | exact Below.refl _ _ | assumption | refine below_step ?_ (by assumption) | (refine Below.alloc ?_ (by first | omega | (simp; done) | (simp; omega)) _) | (refine Below.setCell ?_ (by first | omega | (simp; done) | (simp; omega)) _) | refine Below.drew ?_))⟩; have h1 := hle.out; clear hle; exact ret_int (by go_light; simp [relB] at h1; simp [distI]; try omega))
set_option maxHeartbeats 400000 in
theorem distance9 (a b c d : Int) (w : World) (va : 0 ≤ a ∧ a ≤ 1099511627776) (vb : 0 ≤ b ∧ b ≤ 1099511627776) (vc : 0 ≤ c ∧ c ≤ 1099511627776) (vd : 0 ≤ d ∧ d ≤ 1099511627776) (hr : relB 9 a b c d = true) :
    Calls Try.prog 36 #[.int .i64 9, .agg #[.int .i64 a, .int .i64 b], .agg #[.int .i64 c, .int .i64 d]] w fun e w' => e = .returned (.int .i64 (distI 9 a b c d)) ∧ Below w.heap.size w w' := by
  obtain ⟨a0, a1⟩ := va
  obtain ⟨b0, b1⟩ := vb
  obtain ⟨c0, c1⟩ := vc
  obtain ⟨d0, d1⟩ := vd
  have hle : Hid (relB 9 a b c d = true) := hr
  clear hr
  go_enter Try.func36, Try.ntmps36
  go_wp2
  all_goals (go_ret; refine ⟨?_, (by repeat (first | exact Below.refl _ _ | assumption | refine below_step ?_ (by assumption) | (refine Below.alloc ?_ (by first | omega | (simp; done) | (simp; omega)) _) | (refine Below.setCell ?_ (by first | omega | (simp; done) | (simp; omega)) _) | refine Below.drew ?_))⟩; have h1 := hle.out; clear hle; exact ret_int (by go_light; simp [relB] at h1; simp [distI]; try omega))
set_option maxHeartbeats 400000 in
theorem distance10 (a b c d : Int) (w : World) (va : 0 ≤ a ∧ a ≤ 1099511627776) (vb : 0 ≤ b ∧ b ≤ 1099511627776) (vc : 0 ≤ c ∧ c ≤ 1099511627776) (vd : 0 ≤ d ∧ d ≤ 1099511627776) (hr : relB 10 a b c d = true) :
    Calls Try.prog 36 #[.int .i64 10, .agg #[.int .i64 a, .int .i64 b], .agg #[.int .i64 c, .int .i64 d]] w fun e w' => e = .returned (.int .i64 (distI 10 a b c d)) ∧ Below w.heap.size w w' := by
  obtain ⟨a0, a1⟩ := va
  obtain ⟨b0, b1⟩ := vb
  obtain ⟨c0, c1⟩ := vc
  obtain ⟨d0, d1⟩ := vd
  have hle : Hid (relB 10 a b c d = true) := hr
  clear hr
  go_enter Try.func36, Try.ntmps36
  go_wp2
  all_goals (go_ret; refine ⟨?_, (by repeat (first | exact Below.refl _ _ | assumption | refine below_step ?_ (by assumption) | (refine Below.alloc ?_ (by first | omega | (simp; done) | (simp; omega)) _) | (refine Below.setCell ?_ (by first | omega | (simp; done) | (simp; omega)) _) | refine Below.drew ?_))⟩; have h1 := hle.out; clear hle; exact ret_int (by go_light; simp [relB] at h1; simp [distI]; try omega))
set_option maxHeartbeats 400000 in
theorem distance11 (a b c d : Int) (w : World) (va : 0 ≤ a ∧ a ≤ 1099511627776) (vb : 0 ≤ b ∧ b ≤ 1099511627776) (vc : 0 ≤ c ∧ c ≤ 1099511627776) (vd : 0 ≤ d ∧ d ≤ 1099511627776) (hr : relB 11 a b c d = true) :
    Calls Try.prog 36 #[.int .i64 11, .agg #[.int .i64 a, .int .i64 b], .agg #[.int .i64 c, .int .i64 d]] w fun e w' => e = .returned (.int .i64 (distI 11 a b c d)) ∧ Below w.heap.size w w' := by
  obtain ⟨a0, a1⟩ := va
  obtain ⟨b0, b1⟩ := vb
  obtain ⟨c0, c1⟩ := vc
  obtain ⟨d0, d1⟩ := vd
  have hle : Hid (relB 11 a b c d = true) := hr
  clear hr
  go_enter Try.func36, Try.ntmps36
  go_wp2
  all_goals (go_ret; refine ⟨?_, (by repeat (first | exact Below.refl _ _ | assumption | refine below_step ?_ (by assumption) | (refine Below.alloc ?_ (by first | omega | (simp; done) | (simp; omega)) _) | (refine Below.setCell ?_ (by first | omega | (simp; done) | (simp; omega)) _) | refine Below.drew ?_))⟩; have h1 := hle.out; clear hle; exact ret_int (by go_light; simp [relB] at h1; simp [distI]; try omega))
set_option maxHeartbeats 400000 in
theorem distance12 (a b c d : Int) (w : World) (va : 0 ≤ a ∧ a ≤ 1099511627776) (vb : 0 ≤ b ∧ b ≤ 1099511627776) (vc : 0 ≤ c ∧ c ≤ 1099511627776) (vd : 0 ≤ d ∧ d ≤ 1099511627776) (hr : relB 12 a b c d = true) :
    Calls Try.prog 36 #[.int .i64 12, .agg #[.int .i64 a, .int .i64 b], .agg #[.int .i64 c, .int .i64 d]] w fun e w' => e = .returned (.int .i64 (distI 12 a b c d)) ∧ Below w.heap.size w w' := by
  obtain ⟨a0, a1⟩ := va
  obtain ⟨b0, b1⟩ := vb
  obtain ⟨c0, c1⟩ := vc
  obtain ⟨d0, d1⟩ := vd
  have hle : Hid (relB 12 a b c d = true) := hr
  clear hr
  go_enter Try.func36, Try.ntmps36
  go_wp2
  all_goals (go_ret; refine ⟨?_, (by repeat (first | exact Below.refl _ _ | assumption | refine below_step ?_ (by assumption) | (refine Below.alloc ?_ (by first | omega | (simp; done) | (simp; omega)) _) | (refine Below.setCell ?_ (by first | omega | (simp; done) | (simp; omega)) _) | refine Below.drew ?_))⟩; have h1 := hle.out; clear hle; exact ret_int (by go_light; simp [relB] at h1; simp [distI]; try omega))
set_option maxHeartbeats 400000 in
theorem distance13 (a b c d : Int) (w : World) (va : 0 ≤ a ∧ a ≤ 1099511627776) (vb : 0 ≤ b ∧ b ≤ 1099511627776) (vc : 0 ≤ c ∧ c ≤ 1099511627776) (vd : 0 ≤ d ∧ d ≤ 1099511627776) (hr : relB 13 a b c d = true) :
    Calls Try.prog 36 #[.int .i64 13, .agg #[.int .i64 a, .int .i64 b], .agg #[.int .i64 c, .int .i64 d]] w fun e w' => e = .returned (.int .i64 (distI 13 a b c d)) ∧ Below w.heap.size w w' := by
  obtain ⟨a0, a1⟩ := va
  obtain ⟨b0, b1⟩ := vb
  obtain ⟨c0, c1⟩ := vc
  obtain ⟨d0, d1⟩ := vd
  have hle : Hid (relB 13 a b c d = true) := hr
  clear hr
  go_enter Try.func36, Try.ntmps36
  go_wp2
  all_goals (go_ret; refine ⟨?_, (by repeat (first | exact Below.refl _ _ | assumption | refine below_step ?_ (by assumption) | (refine Below.alloc ?_ (by first | omega | (simp; done) | (simp; omega)) _) | (refine Below.setCell ?_ (by first | omega | (simp; done) | (simp; omega)) _) | refine Below.drew ?_))⟩; have h1 := hle.out; clear hle; exact ret_int (by go_light; simp [relB] at h1; simp [distI]; try omega))
theorem distance_any (r a b c d : Int) (w : World) (h : 1 ≤ r ∧ r ≤ 13) (va : 0 ≤ a ∧ a ≤ 1099511627776) (vb : 0 ≤ b ∧ b ≤ 1099511627776) (vc : 0 ≤ c ∧ c ≤ 1099511627776) (vd : 0 ≤ d ∧ d ≤ 1099511627776) (hr : relB r a b c d = true) :
    Calls Try.prog 36 #[.int .i64 r, .agg #[.int .i64 a, .int .i64 b], .agg #[.int .i64 c, .int .i64 d]] w fun e w' => e = .returned (.int .i64 (distI r a b c d)) ∧ Below w.heap.size w w' := by
  rcases thirteen h with rfl | rfl | rfl | rfl | rfl | rfl | rfl | rfl | rfl | rfl | rfl | rfl | rfl
  · exact distance1 a b c d w va vb vc vd hr
  · exact distance2 a b c d w va vb vc vd hr
  · exact distance3 a b c d w va vb vc vd hr
  · exact distance4 a b c d w va vb vc vd hr
  · exact distance5 a b c d w va vb vc vd hr
  · exact distance6 a b c d w va vb vc vd hr
  · exact distance7 a b c d w va vb vc vd hr
  · exact distance8 a b c d w va vb vc vd hr
  · exact distance9 a b c d w va vb vc vd hr
  · exact distance10 a b c d w va vb vc vd hr
  · exact distance11 a b c d w va vb vc vd hr
  · exact distance12 a b c d w va vb vc vd hr
  · exact distance13 a b c d w va vb vc vd hr
set_option maxHeartbeats 400000 in
theorem gap1 (a b c d : Int) (w : World) (va : 0 ≤ a ∧ a ≤ 1099511627776) (vb : 0 ≤ b ∧ b ≤ 1099511627776) (vc : 0 ≤ c ∧ c ≤ 1099511627776) (vd : 0 ≤ d ∧ d ≤ 1099511627776) (hr : relB 1 a b c d = true) :
    Calls Try.prog 37 #[.int .i64 1, .agg #[.int .i64 a, .int .i64 b], .agg #[.int .i64 c, .int .i64 d]] w fun e w' => e = .returned (.int .i64 (distI 1 a b c d)) ∧ Below w.heap.size w w' := by
  obtain ⟨a0, a1⟩ := va
  obtain ⟨b0, b1⟩ := vb
  obtain ⟨c0, c1⟩ := vc
  obtain ⟨d0, d1⟩ := vd
  have hle : Hid (relB 1 a b c d = true) := hr
  clear hr
  go_enter Try.func37, Try.ntmps37
  go_wp2
  all_goals (go_ret; refine ⟨?_, (by repeat (first | exact Below.refl _ _ | assumption | refine below_step ?_ (by assumption) | (refine Below.alloc ?_ (by first | omega | (simp; done) | (simp; omega)) _) | (refine Below.setCell ?_ (by first | omega | (simp; done) | (simp; omega)) _) | refine Below.drew ?_))⟩; have h1 := hle.out; clear hle; exact ret_int (by go_light; simp [relB] at h1; simp [distI]; try omega))
set_option maxHeartbeats 400000 in
theorem gap2 (a b c d : Int) (w : World) (va : 0 ≤ a ∧ a ≤ 1099511627776) (vb : 0 ≤ b ∧ b ≤ 1099511627776) (vc : 0 ≤ c ∧ c ≤ 1099511627776) (vd : 0 ≤ d ∧ d ≤ 1099511627776) (hr : relB 2 a b c d = true) :
    Calls Try.prog 37 #[.int .i64 2, .agg #[.int .i64 a, .int .i64 b], .agg #[.int .i64 c, .int .i64 d]] w fun e w' => e = .returned (.int .i64 (distI 2 a b c d)) ∧ Below w.heap.size w w' := by
  obtain ⟨a0, a1⟩ := va
  obtain ⟨b0, b1⟩ := vb
  obtain ⟨c0, c1⟩ := vc
  obtain ⟨d0, d1⟩ := vd
  have hle : Hid (relB 2 a b c d = true) := hr
  clear hr
  go_enter Try.func37, Try.ntmps37
  go_wp2
  all_goals (go_ret; refine ⟨?_, (by repeat (first | exact Below.refl _ _ | assumption | refine below_step ?_ (by assumption) | (refine Below.alloc ?_ (by first | omega | (simp; done) | (simp; omega)) _) | (refine Below.setCell ?_ (by first | omega | (simp; done) | (simp; omega)) _) | refine Below.drew ?_))⟩; have h1 := hle.out; clear hle; exact ret_int (by go_light; simp [relB] at h1; simp [distI]; try omega))
set_option maxHeartbeats 400000 in
theorem gap3 (a b c d : Int) (w : World) (va : 0 ≤ a ∧ a ≤ 1099511627776) (vb : 0 ≤ b ∧ b ≤ 1099511627776) (vc : 0 ≤ c ∧ c ≤ 1099511627776) (vd : 0 ≤ d ∧ d ≤ 1099511627776) (hr : relB 3 a b c d = true) :
    Calls Try.prog 37 #[.int .i64 3, .agg #[.int .i64 a, .int .i64 b], .agg #[.int .i64 c, .int .i64 d]] w fun e w' => e = .returned (.int .i64 (distI 3 a b c d)) ∧ Below w.heap.size w w' := by
  obtain ⟨a0, a1⟩ := va
  obtain ⟨b0, b1⟩ := vb
  obtain ⟨c0, c1⟩ := vc
  obtain ⟨d0, d1⟩ := vd
  have hle : Hid (relB 3 a b c d = true) := hr
  clear hr
  go_enter Try.func37, Try.ntmps37
  go_wp2
  all_goals (go_ret; refine ⟨?_, (by repeat (first | exact Below.refl _ _ | assumption | refine below_step ?_ (by assumption) | (refine Below.alloc ?_ (by first | omega | (simp; done) | (simp; omega)) _) | (refine Below.setCell ?_ (by first | omega | (simp; done) | (simp; omega)) _) | refine Below.drew ?_))⟩; have h1 := hle.out; clear hle; exact ret_int (by go_light; simp [relB] at h1; simp [distI]; try omega))
set_option maxHeartbeats 400000 in
theorem gap4 (a b c d : Int) (w : World) (va : 0 ≤ a ∧ a ≤ 1099511627776) (vb : 0 ≤ b ∧ b ≤ 1099511627776) (vc : 0 ≤ c ∧ c ≤ 1099511627776) (vd : 0 ≤ d ∧ d ≤ 1099511627776) (hr : relB 4 a b c d = true) :
    Calls Try.prog 37 #[.int .i64 4, .agg #[.int .i64 a, .int .i64 b], .agg #[.int .i64 c, .int .i64 d]] w fun e w' => e = .returned (.int .i64 (distI 4 a b c d)) ∧ Below w.heap.size w w' := by
  obtain ⟨a0, a1⟩ := va
  obtain ⟨b0, b1⟩ := vb
  obtain ⟨c0, c1⟩ := vc
  obtain ⟨d0, d1⟩ := vd
  have hle : Hid (relB 4 a b c d = true) := hr
  clear hr
  go_enter Try.func37, Try.ntmps37
  go_wp2
  all_goals (go_ret; refine ⟨?_, (by repeat (first | exact Below.refl _ _ | assumption | refine below_step ?_ (by assumption) | (refine Below.alloc ?_ (by first | omega | (simp; done) | (simp; omega)) _) | (refine Below.setCell ?_ (by first | omega | (simp; done) | (simp; omega)) _) | refine Below.drew ?_))⟩; have h1 := hle.out; clear hle; exact ret_int (by go_light; simp [relB] at h1; simp [distI]; try omega))
set_option maxHeartbeats 400000 in
theorem gap5 (a b c d : Int) (w : World) (va : 0 ≤ a ∧ a ≤ 1099511627776) (vb : 0 ≤ b ∧ b ≤ 1099511627776) (vc : 0 ≤ c ∧ c ≤ 1099511627776) (vd : 0 ≤ d ∧ d ≤ 1099511627776) (hr : relB 5 a b c d = true) :
    Calls Try.prog 37 #[.int .i64 5, .agg #[.int .i64 a, .int .i64 b], .agg #[.int .i64 c, .int .i64 d]] w fun e w' => e = .returned (.int .i64 (distI 5 a b c d)) ∧ Below w.heap.size w w' := by
  obtain ⟨a0, a1⟩ := va
  obtain ⟨b0, b1⟩ := vb
  obtain ⟨c0, c1⟩ := vc
  obtain ⟨d0, d1⟩ := vd
  have hle : Hid (relB 5 a b c d = true) := hr
  clear hr
  go_enter Try.func37, Try.ntmps37
  go_wp2
  all_goals (go_ret; refine ⟨?_, (by repeat (first | exact Below.refl _ _ | assumption | refine below_step ?_ (by assumption) | (refine Below.alloc ?_ (by first | omega | (simp; done) | (simp; omega)) _) | (refine Below.setCell ?_ (by first | omega | (simp; done) | (simp; omega)) _) | refine Below.drew ?_))⟩; have h1 := hle.out; clear hle; exact ret_int (by go_light; simp [relB] at h1; simp [distI]; try omega))
set_option maxHeartbeats 400000 in
theorem gap6 (a b c d : Int) (w : World) (va : 0 ≤ a ∧ a ≤ 1099511627776) (vb : 0 ≤ b ∧ b ≤ 1099511627776) (vc : 0 ≤ c ∧ c ≤ 1099511627776) (vd : 0 ≤ d ∧ d ≤ 1099511627776) (hr : relB 6 a b c d = true) :
    Calls Try.prog 37 #[.int .i64 6, .agg #[.int .i64 a, .int .i64 b], .agg #[.int .i64 c, .int .i64 d]] w fun e w' => e = .returned (.int .i64 (distI 6 a b c d)) ∧ Below w.heap.size w w' := by
  obtain ⟨a0, a1⟩ := va
  obtain ⟨b0, b1⟩ := vb
  obtain ⟨c0, c1⟩ := vc
  obtain ⟨d0, d1⟩ := vd
  have hle : Hid (relB 6 a b c d = true) := hr
  clear hr
  go_enter Try.func37, Try.ntmps37
  go_wp2
  all_goals (go_ret; refine ⟨?_, (by repeat (first | exact Below.refl _ _ | assumption | refine below_step ?_ (by assumption) | (refine Below.alloc ?_ (by first | omega | (simp; done) | (simp; omega)) _) | (refine Below.setCell ?_ (by first | omega | (simp; done) | (simp; omega)) _) | refine Below.drew ?_))⟩; have h1 := hle.out; clear hle; exact ret_int (by go_light; simp [relB] at h1; simp [distI]; try omega))
set_option maxHeartbeats 400000 in
theorem gap7 (a b c d : Int) (w : World) (va : 0 ≤ a ∧ a ≤ 1099511627776) (vb : 0 ≤ b ∧ b ≤ 1099511627776) (vc : 0 ≤ c ∧ c ≤ 1099511627776) (vd : 0 ≤ d ∧ d ≤ 1099511627776) (hr : relB 7 a b c d = true) :
    Calls Try.prog 37 #[.int .i64 7, .agg #[.int .i64 a, .int .i64 b], .agg #[.int .i64 c, .int .i64 d]] w fun e w' => e = .returned (.int .i64 (distI 7 a b c d)) ∧ Below w.heap.size w w' := by
  obtain ⟨a0, a1⟩ := va
  obtain ⟨b0, b1⟩ := vb
  obtain ⟨c0, c1⟩ := vc
  obtain ⟨d0, d1⟩ := vd
  have hle : Hid (relB 7 a b c d = true) := hr
  clear hr
  go_enter Try.func37, Try.ntmps37
  go_wp2
  all_goals (go_ret; refine ⟨?_, (by repeat (first | exact Below.refl _ _ | assumption | refine below_step ?_ (by assumption) | (refine Below.alloc ?_ (by first | omega | (simp; done) | (simp; omega)) _) | (refine Below.setCell ?_ (by first | omega | (simp; done) | (simp; omega)) _) | refine Below.drew ?_))⟩; have h1 := hle.out; clear hle; exact ret_int (by go_light; simp [relB] at h1; simp [distI]; try omega))
set_option maxHeartbeats 400000 in
theorem gap8 (a b c d : Int) (w : World) (va : 0 ≤ a ∧ a ≤ 1099511627776) (vb : 0 ≤ b ∧ b ≤ 1099511627776) (vc : 0 ≤ c ∧ c ≤ 1099511627776) (vd : 0 ≤ d ∧ d ≤ 1099511627776) (hr : relB 8 a b c d = true) :
    Calls Try.prog 37 #[.int .i64 8, .agg #[.int .i64 a, .int .i64 b], .agg #[.int .i64 c, .int .i64 d]] w fun e w' => e = .returned (.int .i64 (distI 8 a b c d)) ∧ Below w.heap.size w w' := by
  obtain ⟨a0, a1⟩ := va
  obtain ⟨b0, b1⟩ := vb
  obtain ⟨c0, c1⟩ := vc
  obtain ⟨d0, d1⟩ := vd
  have hle : Hid (relB 8 a b c d = true) := hr
  clear hr
  go_enter Try.func37, Try.ntmps37
  go_wp2
  all_goals (go_ret; refine ⟨?_, (by repeat (first | exact Below.refl _ _ | assumption | refine below_step ?_ (by assumption) | (refine Below.alloc ?_ (by first | omega | (simp; done) | (simp; omega)) _) | (refine Below.setCell ?_ (by first | omega | (simp; done) | (simp; omega)) _) | refine Below.drew ?_))⟩; have h1 := hle.out; clear hle; exact ret_int (by go_light; simp [relB] at h1; simp [distI]; try omega))
set_option maxHeartbeats 400000 in
theorem gap9 (a b c d : Int) (w : World) (va : 0 ≤ a ∧ a ≤ 1099511627776) (vb : 0 ≤ b ∧ b ≤ 1099511627776) (vc : 0 ≤ c ∧ c ≤ 1099511627776) (vd : 0 ≤ d ∧ d ≤ 1099511627776) (hr : relB 9 a b c d = true) :
    Calls Try.prog 37 #[.int .i64 9, .agg #[.int .i64 a, .int .i64 b], .agg #[.int .i64 c, .int .i64 d]] w fun e w' => e = .returned (.int .i64 (distI 9 a b c d)) ∧ Below w.heap.size w w' := by
  obtain ⟨a0, a1⟩ := va
  obtain ⟨b0, b1⟩ := vb
  obtain ⟨c0, c1⟩ := vc
  obtain ⟨d0, d1⟩ := vd
  have hle : Hid (relB 9 a b c d = true) := hr
  clear hr
  go_enter Try.func37, Try.ntmps37
  go_wp2
  all_goals (go_ret; refine ⟨?_, (by repeat (first | exact Below.refl _ _ | assumption | refine below_step ?_ (by assumption) | (refine Below.alloc ?_ (by first | omega | (simp; done) | (simp; omega)) _) | (refine Below.setCell ?_ (by first | omega | (simp; done) | (simp; omega)) _) | refine Below.drew ?_))⟩; have h1 := hle.out; clear hle; exact ret_int (by go_light; simp [relB] at h1; simp [distI]; try omega))
set_option maxHeartbeats 400000 in
theorem gap10 (a b c d : Int) (w : World) (va : 0 ≤ a ∧ a ≤ 1099511627776) (vb : 0 ≤ b ∧ b ≤ 1099511627776) (vc : 0 ≤ c ∧ c ≤ 1099511627776) (vd : 0 ≤ d ∧ d ≤ 1099511627776) (hr : relB 10 a b c d = true) :
    Calls Try.prog 37 #[.int .i64 10, .agg #[.int .i64 a, .int .i64 b], .agg #[.int .i64 c, .int .i64 d]] w fun e w' => e = .returned (.int .i64 (distI 10 a b c d)) ∧ Below w.heap.size w w' := by
  obtain ⟨a0, a1⟩ := va
  obtain ⟨b0, b1⟩ := vb
  obtain ⟨c0, c1⟩ := vc
  obtain ⟨d0, d1⟩ := vd
  have hle : Hid (relB 10 a b c d = true) := hr
  clear hr
  go_enter Try.func37, Try.ntmps37
  go_wp2
  all_goals (go_ret; refine ⟨?_, (by repeat (first | exact Below.refl _ _ | assumption | refine below_step ?_ (by assumption) | (refine Below.alloc ?_ (by first | omega | (simp; done) | (simp; omega)) _) | (refine Below.setCell ?_ (by first | omega | (simp; done) | (simp; omega)) _) | refine Below.drew ?_))⟩; have h1 := hle.out; clear hle; exact ret_int (by go_light; simp [relB] at h1; simp [distI]; try omega))
set_option maxHeartbeats 400000 in
theorem gap11 (a b c d : Int) (w : World) (va : 0 ≤ a ∧ a ≤ 1099511627776) (vb : 0 ≤ b ∧ b ≤ 1099511627776) (vc : 0 ≤ c ∧ c ≤ 1099511627776) (vd : 0 ≤ d ∧ d ≤ 1099511627776) (hr : relB 11 a b c d = true) :
    Calls Try.prog 37 #[.int .i64 11, .agg #[.int .i64 a, .int .i64 b], .agg #[.int .i64 c, .int .i64 d]] w fun e w' => e = .returned (.int .i64 (distI 11 a b c d)) ∧ Below w.heap.size w w' := by
  obtain ⟨a0, a1⟩ := va
  obtain ⟨b0, b1⟩ := vb
  obtain ⟨c0, c1⟩ := vc
  obtain ⟨d0, d1⟩ := vd
  have hle : Hid (relB 11 a b c d = true) := hr
  clear hr
  go_enter Try.func37, Try.ntmps37
  go_wp2
  all_goals (go_ret; refine ⟨?_, (by repeat (first | exact Below.refl _ _ | assumption | refine below_step ?_ (by assumption) | (refine Below.alloc ?_ (by first | omega | (simp; done) | (simp; omega)) _) | (refine Below.setCell ?_ (by first | omega | (simp; done) | (simp; omega)) _) | refine Below.drew ?_))⟩; have h1 := hle.out; clear hle; exact ret_int (by go_light; simp [relB] at h1; simp [distI]; try omega))
set_option maxHeartbeats 400000 in
theorem gap12 (a b c d : Int) (w : World) (va : 0 ≤ a ∧ a ≤ 1099511627776) (vb : 0 ≤ b ∧ b ≤ 1099511627776) (vc : 0 ≤ c ∧ c ≤ 1099511627776) (vd : 0 ≤ d ∧ d ≤ 1099511627776) (hr : relB 12 a b c d = true) :
    Calls Try.prog 37 #[.int .i64 12, .agg #[.int .i64 a, .int .i64 b], .agg #[.int .i64 c, .int .i64 d]] w fun e w' => e = .returned (.int .i64 (distI 12 a b c d)) ∧ Below w.heap.size w w' := by
  obtain ⟨a0, a1⟩ := va
  obtain ⟨b0, b1⟩ := vb
  obtain ⟨c0, c1⟩ := vc
  obtain ⟨d0, d1⟩ := vd
  have hle : Hid (relB 12 a b c d = true) := hr
  clear hr
  go_enter Try.func37, Try.ntmps37
  go_wp2
  all_goals (go_ret; refine ⟨?_, (by repeat (first | exact Below.refl _ _ | assumption | refine below_step ?_ (by assumption) | (refine Below.alloc ?_ (by first | omega | (simp; done) | (simp; omega)) _) | (refine Below.setCell ?_ (by first | omega | (simp; done) | (simp; omega)) _) | refine Below.drew ?_))⟩; have h1 := hle.out; clear hle; exact ret_int (by go_light; simp [relB] at h1; simp [distI]; try omega))
set_option maxHeartbeats 400000 in
theorem gap13 (a b c d : Int) (w : World) (va : 0 ≤ a ∧ a ≤ 1099511627776) (vb : 0 ≤ b ∧ b ≤ 1099511627776) (vc : 0 ≤ c ∧ c ≤ 1099511627776) (vd : 0 ≤ d ∧ d ≤ 1099511627776) (hr : relB 13 a b c d = true) :
    Calls Try.prog 37 #[.int .i64 13, .agg #[.int .i64 a, .int .i64 b], .agg #[.int .i64 c, .int .i64 d]] w fun e w' => e = .returned (.int .i64 (distI 13 a b c d)) ∧ Below w.heap.size w w' := by
  obtain ⟨a0, a1⟩ := va
  obtain ⟨b0, b1⟩ := vb
  obtain ⟨c0, c1⟩ := vc
  obtain ⟨d0, d1⟩ := vd
  have hle : Hid (relB 13 a b c d = true) := hr
  clear hr
  go_enter Try.func37, Try.ntmps37
  go_wp2
  all_goals (go_ret; refine ⟨?_, (by repeat (first | exact Below.refl _ _ | assumption | refine below_step ?_ (by assumption) | (refine Below.alloc ?_ (by first | omega | (simp; done) | (simp; omega)) _) | (refine Below.setCell ?_ (by first | omega | (simp; done) | (simp; omega)) _) | refine Below.drew ?_))⟩; have h1 := hle.out; clear hle; exact ret_int (by go_light; simp [relB] at h1; simp [distI]; try omega))
theorem gap_any (r a b c d : Int) (w : World) (h : 1 ≤ r ∧ r ≤ 13) (va : 0 ≤ a ∧ a ≤ 1099511627776) (vb : 0 ≤ b ∧ b ≤ 1099511627776) (vc : 0 ≤ c ∧ c ≤ 1099511627776) (vd : 0 ≤ d ∧ d ≤ 1099511627776) (hr : relB r a b c d = true) :
    Calls Try.prog 37 #[.int .i64 r, .agg #[.int .i64 a, .int .i64 b], .agg #[.int .i64 c, .int .i64 d]] w fun e w' => e = .returned (.int .i64 (distI r a b c d)) ∧ Below w.heap.size w w' := by
  rcases thirteen h with rfl | rfl | rfl | rfl | rfl | rfl | rfl | rfl | rfl | rfl | rfl | rfl | rfl
  · exact gap1 a b c d w va vb vc vd hr
  · exact gap2 a b c d w va vb vc vd hr
  · exact gap3 a b c d w va vb vc vd hr
  · exact gap4 a b c d w va vb vc vd hr
  · exact gap5 a b c d w va vb vc vd hr
  · exact gap6 a b c d w va vb vc vd hr
  · exact gap7 a b c d w va vb vc vd hr
  · exact gap8 a b c d w va vb vc vd hr
  · exact gap9 a b c d w va vb vc vd hr
  · exact gap10 a b c d w va vb vc vd hr
  · exact gap11 a b c d w va vb vc vd hr
  · exact gap12 a b c d w va vb vc vd hr
  · exact gap13 a b c d w va vb vc vd hr
set_option maxHeartbeats 400000 in
theorem both_any (a b c d : Int) (w : World) :
    Calls Try.prog 32 #[.agg #[.int .i64 a, .int .i64 b], .agg #[.int .i64 c, .int .i64 d]] w fun e w' => e = .returned (.int .i64 (bothE a b c d)) ∧ Below w.heap.size w w' := by
  go_enter Try.func32, Try.ntmps32
  go_wp2_with fail
  refine (check_any _ _ _).mono ?_
  rintro e w1 ⟨rfl, hb⟩
  obtain ⟨hc, hf⟩ := bcell hb
  go_wp2_with (go_at_call 14; refine (check_any _ _ _).mono ?_; rintro e w2 ⟨rfl, hb2⟩)
  all_goals (go_ret; refine ⟨ret_int ?_, (by repeat (first | exact Below.refl _ _ | assumption | refine below_step ?_ (by assumption) | (refine Below.alloc ?_ (by first | omega | (simp; done) | (simp; omega)) _) | (refine Below.setCell ?_ (by first | omega | (simp; done) | (simp; omega)) _) | refine Below.drew ?_))⟩; go_light; simp [bothE] at *; intros; simp_all)
set_option maxHeartbeats 400000 in
theorem twoSpans_any (a b c d : Int) (w : World) :
    Calls Try.prog 34 #[.agg #[.int .i64 a, .int .i64 b], .agg #[.int .i64 c, .int .i64 d]] w fun e w' => e = .returned (.int .i64 (bothE a b c d)) ∧ Below w.heap.size w w' := by
  go_enter Try.func34, Try.ntmps34
  go_wp2_with fail
  refine (fault_any _ _ _).mono ?_
  rintro e w1 ⟨rfl, hb⟩
  obtain ⟨hc, hf⟩ := bcell hb
  go_wp2_with (go_at_call 15; refine (fault_any _ _ _).mono ?_; rintro e w2 ⟨rfl, hb2⟩)
  all_goals (go_ret; refine ⟨ret_int ?_, (by repeat (first | exact Below.refl _ _ | assumption | refine below_step ?_ (by assumption) | (refine Below.alloc ?_ (by first | omega | (simp; done) | (simp; omega)) _) | (refine Below.setCell ?_ (by first | omega | (simp; done) | (simp; omega)) _) | refine Below.drew ?_))⟩; go_light; simp [bothE] at *; intros; simp_all)
end Go.Proofs.Ytbambidojppklaa
