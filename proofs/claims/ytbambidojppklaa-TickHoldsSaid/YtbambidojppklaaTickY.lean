/-
  The walks of package tick and of its reference, third part: the exported functions.
-/
import Derived.Test.YtbambidojppklaaTickX
namespace Go.Proofs.Ytbambidojppklaa
open Go.RowKit
set_option linter.unusedVariables false
set_option linter.unusedSimpArgs false

/-- What a relation and two spans are refused for. -/
def holdsE (r a b c d : Int) : Int := if 1 ≤ r ∧ r ≤ 13 then bothE a b c d else 3
def holdsX (r a b c d : Int) : Bool := if holdsE r a b c d = 0 then relB r a b c d else false

theorem spanE_zero {a b : Int} (h : spanE a b = 0) : (0 ≤ a ∧ a ≤ 1099511627776) ∧ (0 ≤ b ∧ b ≤ 1099511627776) ∧ a ≤ b := by
  unfold spanE at h; (repeat' split at h) <;> omega
theorem bothE_zero {a b c d : Int} (h : bothE a b c d = 0) : spanE a b = 0 ∧ spanE c d = 0 := by
  unfold bothE at h; split at h <;> simp_all
theorem ret_two {a b c d : Value} (h : a = c) (k : b = d) : Ending.returned (.tuple #[a, b]) = .returned (.tuple #[c, d]) := by rw [h, k]

theorem ret_bi {x y : Bool} {k : IntKind} {a b : Int} (h : x = y) (h' : a = b) : Ending.returned (.tuple #[.bool x, .int k a]) = .returned (.tuple #[.bool y, .int k b]) := by rw [h, h']
theorem ret_ii {k k' : IntKind} {a b c d : Int} (h : a = c) (h' : b = d) : Ending.returned (.tuple #[.int k a, .int k' b]) = .returned (.tuple #[.int k c, .int k' d]) := by rw [h, h']

set_option maxHeartbeats 400000 in
theorem Holds_any (r a b c d : Int) (w : World) :
    Calls Try.prog 20 #[.int .i64 r, .agg #[.int .i64 a, .int .i64 b], .agg #[.int .i64 c, .int .i64 d]] w fun e w' => e = .returned (.tuple #[.bool (holdsX r a b c d), .int .i64 (holdsE r a b c d)]) ∧ Below w.heap.size w w' := by
  cases hr : inB r 1 13 with
  | false =>
    go_enter Try.func20, Try.ntmps20
    go_wp2_with (go_at_call 30; refine (relation_any _ _).mono ?_; rintro e w' ⟨rfl, rfl⟩)
    go_ret2
    rw [inB_false] at hr
    exact ⟨ret_two (by simp [holdsX, holdsE, hr]) (by simp [holdsE, hr]), (by repeat (first | exact Below.refl _ _ | assumption | refine below_step ?_ (by assumption) | (refine Below.alloc ?_ (by first | omega | (simp; done) | (simp; omega)) _) | (refine Below.setCell ?_ (by first | omega | (simp; done) | (simp; omega)) _) | refine Below.drew ?_))⟩
  | true =>
    have hr' : Hid (1 ≤ r ∧ r ≤ 13) := inB_true.1 hr
    by_cases hz : bothE a b c d = 0
    · have hz1 : (bothE a b c d != 0) = false := by simp [hz]
      have H : Hid (bothE a b c d = 0) := hz; clear hz
      go_enter Try.func20, Try.ntmps20
      go_wp2_with (go_at_call 30; refine (relation_any _ _).mono ?_; rintro e w' ⟨rfl, rfl⟩)
      refine (both_any _ _ _ _ _).mono ?_
      rintro e w1 ⟨rfl, hb⟩
      obtain ⟨hc_w1, hf_w1⟩ := bcell hb; have hs_w1 := hb.size; (try simp only [World.size_alloc, World.size_drew] at hs_w1); have z0_w1 : w.heap.size < w1.heap.size := (by omega); have z1_w1 : w.heap.size + 1 < w1.heap.size := (by omega)
      go_wp2_with fail
      refine (holds_any _ _ _ _ _ _ hr'.out).mono ?_
      rintro e w2 ⟨rfl, hb2⟩
      go_wp2
      go_ret2
      exact ⟨ret_two (by simp [holdsX, holdsE, hr'.out, H.out]) (by simp [holdsE, hr'.out, H.out]), (by repeat (first | exact Below.refl _ _ | assumption | refine below_step ?_ (by assumption) | (refine Below.alloc ?_ (by first | omega | (simp; done) | (simp; omega)) _) | (refine Below.setCell ?_ (by first | omega | (simp; done) | (simp; omega)) _) | refine Below.drew ?_))⟩
    · have hz1 : (bothE a b c d != 0) = true := by simp [hz]
      have H : Hid (¬ bothE a b c d = 0) := hz; clear hz
      go_enter Try.func20, Try.ntmps20
      go_wp2_with (go_at_call 30; refine (relation_any _ _).mono ?_; rintro e w' ⟨rfl, rfl⟩)
      refine (both_any _ _ _ _ _).mono ?_
      rintro e w1 ⟨rfl, hb⟩
      go_wp2
      go_ret2
      exact ⟨ret_two (by simp [holdsX, holdsE, hr'.out, H.out]) (by simp [holdsE, hr'.out]), (by repeat (first | exact Below.refl _ _ | assumption | refine below_step ?_ (by assumption) | (refine Below.alloc ?_ (by first | omega | (simp; done) | (simp; omega)) _) | (refine Below.setCell ?_ (by first | omega | (simp; done) | (simp; omega)) _) | refine Below.drew ?_))⟩

set_option maxHeartbeats 400000 in
theorem HoldsOf_any (r a b c d : Int) (w : World) :
    Calls Try.prog 21 #[.int .i64 r, .agg #[.int .i64 a, .int .i64 b], .agg #[.int .i64 c, .int .i64 d]] w fun e w' => e = .returned (.tuple #[.bool (holdsX r a b c d), .int .i64 (holdsE r a b c d)]) ∧ Below w.heap.size w w' := by
  cases hr : inB r 1 13 with
  | false =>
    go_enter Try.func21, Try.ntmps21
    go_wp2_with (go_at_call 31; refine (in_any _ _ _ _).mono ?_; rintro e w' ⟨rfl, rfl⟩)
    go_ret2
    rw [inB_false] at hr
    exact ⟨ret_two (by simp [holdsX, holdsE, hr]) (by simp [holdsE, hr]), (by repeat (first | exact Below.refl _ _ | assumption | refine below_step ?_ (by assumption) | (refine Below.alloc ?_ (by first | omega | (simp; done) | (simp; omega)) _) | (refine Below.setCell ?_ (by first | omega | (simp; done) | (simp; omega)) _) | refine Below.drew ?_))⟩
  | true =>
    have hr' : Hid (1 ≤ r ∧ r ≤ 13) := inB_true.1 hr
    by_cases hz : bothE a b c d = 0
    · have hz1 : (bothE a b c d != 0) = false := by simp [hz]
      have H : Hid (bothE a b c d = 0) := hz; clear hz
      go_enter Try.func21, Try.ntmps21
      go_wp2_with (go_at_call 31; refine (in_any _ _ _ _).mono ?_; rintro e w' ⟨rfl, rfl⟩)
      refine (twoSpans_any _ _ _ _ _).mono ?_
      rintro e w1 ⟨rfl, hb⟩
      obtain ⟨hc_w1, hf_w1⟩ := bcell hb; have hs_w1 := hb.size; (try simp only [World.size_alloc, World.size_drew] at hs_w1); have z0_w1 : w.heap.size < w1.heap.size := (by omega); have z1_w1 : w.heap.size + 1 < w1.heap.size := (by omega)
      go_wp2_with fail
      refine (related_any _ _ _ _ _ _ hr'.out).mono ?_
      rintro e w2 ⟨rfl, hb2⟩
      go_wp2
      go_ret2
      exact ⟨ret_two (by simp [holdsX, holdsE, hr'.out, H.out]) (by simp [holdsE, hr'.out, H.out]), (by repeat (first | exact Below.refl _ _ | assumption | refine below_step ?_ (by assumption) | (refine Below.alloc ?_ (by first | omega | (simp; done) | (simp; omega)) _) | (refine Below.setCell ?_ (by first | omega | (simp; done) | (simp; omega)) _) | refine Below.drew ?_))⟩
    · have hz1 : (bothE a b c d != 0) = true := by simp [hz]
      have H : Hid (¬ bothE a b c d = 0) := hz; clear hz
      go_enter Try.func21, Try.ntmps21
      go_wp2_with (go_at_call 31; refine (in_any _ _ _ _).mono ?_; rintro e w' ⟨rfl, rfl⟩)
      refine (twoSpans_any _ _ _ _ _).mono ?_
      rintro e w1 ⟨rfl, hb⟩
      go_wp2
      go_ret2
      exact ⟨ret_two (by simp [holdsX, holdsE, hr'.out, H.out]) (by simp [holdsE, hr'.out]), (by repeat (first | exact Below.refl _ _ | assumption | refine below_step ?_ (by assumption) | (refine Below.alloc ?_ (by first | omega | (simp; done) | (simp; omega)) _) | (refine Below.setCell ?_ (by first | omega | (simp; done) | (simp; omega)) _) | refine Below.drew ?_))⟩


/-- What the distance of two spans by a relation is refused for; the distance. -/
def distE (r a b c d : Int) : Int := if holdsE r a b c d = 0 then (if relB r a b c d = true then 0 else 6) else holdsE r a b c d
def distX (r a b c d : Int) : Int := if distE r a b c d = 0 then distI r a b c d else 0

set_option maxHeartbeats 400000 in
theorem Distance_any (r a b c d : Int) (w : World) :
    Calls Try.prog 24 #[.int .i64 r, .agg #[.int .i64 a, .int .i64 b], .agg #[.int .i64 c, .int .i64 d]] w fun e w' => e = .returned (.tuple #[.int .i64 (distX r a b c d), .int .i64 (distE r a b c d)]) ∧ Below w.heap.size w w' := by
  cases hr : inB r 1 13 with
  | false =>
    go_enter Try.func24, Try.ntmps24
    go_wp2_with (go_at_call 30; refine (relation_any _ _).mono ?_; rintro e w' ⟨rfl, rfl⟩)
    go_ret2
    rw [inB_false] at hr
    exact ⟨ret_two (by simp [distX, distE, holdsE, hr]) (by simp [distE, holdsE, hr]), (by repeat (first | exact Below.refl _ _ | assumption | refine below_step ?_ (by assumption) | (refine Below.alloc ?_ (by first | omega | (simp; done) | (simp; omega)) _) | (refine Below.setCell ?_ (by first | omega | (simp; done) | (simp; omega)) _) | refine Below.drew ?_))⟩
  | true =>
    have hr' : Hid (1 ≤ r ∧ r ≤ 13) := inB_true.1 hr
    by_cases hz : bothE a b c d = 0
    · have hz1 : (bothE a b c d != 0) = false := by simp [hz]
      have H : Hid (bothE a b c d = 0) := hz; clear hz
      cases hq : relB r a b c d with
      | true =>
        have hq' : Hid (relB r a b c d = true) := hq
        go_enter Try.func24, Try.ntmps24
        go_wp2_with (go_at_call 30; refine (relation_any _ _).mono ?_; rintro e w' ⟨rfl, rfl⟩)
        refine (both_any _ _ _ _ _).mono ?_
        rintro e w1 ⟨rfl, hb⟩
        obtain ⟨hc_w1, hf_w1⟩ := bcell hb; have hs_w1 := hb.size; (try simp only [World.size_alloc, World.size_drew] at hs_w1); have z0_w1 : w.heap.size < w1.heap.size := (by omega); have z1_w1 : w.heap.size + 1 < w1.heap.size := (by omega)
        go_wp2_with fail
        refine (holds_any _ _ _ _ _ _ hr'.out).mono ?_
        rintro e w2 ⟨rfl, hb2⟩
        obtain ⟨hc_w2, hf_w2⟩ := bcell hb2; have hs_w2 := hb2.size; (try simp only [World.size_alloc, World.size_drew] at hs_w2); have z0_w2 : w.heap.size < w2.heap.size := (by omega); have z1_w2 : w.heap.size + 1 < w2.heap.size := (by omega)
        go_wp2_with fail
        refine (distance_any _ _ _ _ _ _ hr'.out (spanE_zero (bothE_zero H.out).1).1 (spanE_zero (bothE_zero H.out).1).2.1 (spanE_zero (bothE_zero H.out).2).1 (spanE_zero (bothE_zero H.out).2).2.1 hq'.out).mono ?_
        rintro e w3 ⟨rfl, hb3⟩
        go_wp2
        go_ret2
        exact ⟨ret_two (by simp [distX, distE, holdsE, hr'.out, H.out, hq'.out]) (by simp [distE, holdsE, hr'.out, H.out, hq'.out]), (by repeat (first | exact Below.refl _ _ | assumption | refine below_step ?_ (by assumption) | (refine Below.alloc ?_ (by first | omega | (simp; done) | (simp; omega)) _) | (refine Below.setCell ?_ (by first | omega | (simp; done) | (simp; omega)) _) | refine Below.drew ?_))⟩
      | false =>
        have hq' : Hid (relB r a b c d = false) := hq
        go_enter Try.func24, Try.ntmps24
        go_wp2_with (go_at_call 30; refine (relation_any _ _).mono ?_; rintro e w' ⟨rfl, rfl⟩)
        refine (both_any _ _ _ _ _).mono ?_
        rintro e w1 ⟨rfl, hb⟩
        obtain ⟨hc_w1, hf_w1⟩ := bcell hb; have hs_w1 := hb.size; (try simp only [World.size_alloc, World.size_drew] at hs_w1); have z0_w1 : w.heap.size < w1.heap.size := (by omega); have z1_w1 : w.heap.size + 1 < w1.heap.size := (by omega)
        go_wp2_with fail
        refine (holds_any _ _ _ _ _ _ hr'.out).mono ?_
        rintro e w2 ⟨rfl, hb2⟩
        go_wp2
        go_ret2
        exact ⟨ret_two (by simp [distX, distE, holdsE, hr'.out, H.out, hq'.out]) (by simp [distE, holdsE, hr'.out, H.out, hq'.out]), (by repeat (first | exact Below.refl _ _ | assumption | refine below_step ?_ (by assumption) | (refine Below.alloc ?_ (by first | omega | (simp; done) | (simp; omega)) _) | (refine Below.setCell ?_ (by first | omega | (simp; done) | (simp; omega)) _) | refine Below.drew ?_))⟩
    · have hz1 : (bothE a b c d != 0) = true := by simp [hz]
      have H : Hid (¬ bothE a b c d = 0) := hz; clear hz
      go_enter Try.func24, Try.ntmps24
      go_wp2_with (go_at_call 30; refine (relation_any _ _).mono ?_; rintro e w' ⟨rfl, rfl⟩)
      refine (both_any _ _ _ _ _).mono ?_
      rintro e w1 ⟨rfl, hb⟩
      go_wp2
      go_ret2
      exact ⟨ret_two (by simp [distX, distE, holdsE, hr'.out, H.out]) (by simp [distE, holdsE, hr'.out, H.out]), (by repeat (first | exact Below.refl _ _ | assumption | refine below_step ?_ (by assumption) | (refine Below.alloc ?_ (by first | omega | (simp; done) | (simp; omega)) _) | (refine Below.setCell ?_ (by first | omega | (simp; done) | (simp; omega)) _) | refine Below.drew ?_))⟩

set_option maxHeartbeats 400000 in
theorem DistanceOf_any (r a b c d : Int) (w : World) :
    Calls Try.prog 25 #[.int .i64 r, .agg #[.int .i64 a, .int .i64 b], .agg #[.int .i64 c, .int .i64 d]] w fun e w' => e = .returned (.tuple #[.int .i64 (distX r a b c d), .int .i64 (distE r a b c d)]) ∧ Below w.heap.size w w' := by
  by_cases hz : holdsE r a b c d = 0
  · have hr : 1 ≤ r ∧ r ≤ 13 := by unfold holdsE at hz; split at hz <;> omega
    have hr' : Hid (1 ≤ r ∧ r ≤ 13) := hr
    have hv : bothE a b c d = 0 := by unfold holdsE at hz; rw [if_pos hr] at hz; exact hz
    have V : Hid (bothE a b c d = 0) := hv
    have hz1 : (holdsE r a b c d != 0) = false := by simp [hz]
    have hx : holdsX r a b c d = relB r a b c d := by simp [holdsX, hz]
    have X : Hid (holdsX r a b c d = relB r a b c d) := hx
    have H : Hid (holdsE r a b c d = 0) := hz
    clear hz hv hx hr
    cases hq : holdsX r a b c d with
    | true =>
      have hq' : Hid (relB r a b c d = true) := by have := hq; rw [X.out] at this; exact this
      go_enter Try.func25, Try.ntmps25
      go_wp2_with fail
      refine (HoldsOf_any _ _ _ _ _ _).mono ?_
      rintro e w1 ⟨rfl, hb⟩
      obtain ⟨hc_w1, hf_w1⟩ := bcell hb; have hs_w1 := hb.size; (try simp only [World.size_alloc, World.size_drew] at hs_w1); have z0_w1 : w.heap.size < w1.heap.size := (by omega); have z1_w1 : w.heap.size + 1 < w1.heap.size := (by omega)
      go_wp2_with fail
      refine (gap_any _ _ _ _ _ _ hr'.out (spanE_zero (bothE_zero V.out).1).1 (spanE_zero (bothE_zero V.out).1).2.1 (spanE_zero (bothE_zero V.out).2).1 (spanE_zero (bothE_zero V.out).2).2.1 hq'.out).mono ?_
      rintro e w2 ⟨rfl, hb2⟩
      go_wp2
      go_ret2
      exact ⟨ret_two (by simp [distX, distE, H.out, hq'.out]) (by simp [distE, H.out, hq'.out]), (by repeat (first | exact Below.refl _ _ | assumption | refine below_step ?_ (by assumption) | (refine Below.alloc ?_ (by first | omega | (simp; done) | (simp; omega)) _) | (refine Below.setCell ?_ (by first | omega | (simp; done) | (simp; omega)) _) | refine Below.drew ?_))⟩
    | false =>
      have hq' : Hid (relB r a b c d = false) := by have := hq; rw [X.out] at this; exact this
      go_enter Try.func25, Try.ntmps25
      go_wp2_with fail
      refine (HoldsOf_any _ _ _ _ _ _).mono ?_
      rintro e w1 ⟨rfl, hb⟩
      go_wp2
      go_ret2
      exact ⟨ret_two (by simp [distX, distE, H.out, hq'.out]) (by simp [distE, H.out, hq'.out]), (by repeat (first | exact Below.refl _ _ | assumption | refine below_step ?_ (by assumption) | (refine Below.alloc ?_ (by first | omega | (simp; done) | (simp; omega)) _) | (refine Below.setCell ?_ (by first | omega | (simp; done) | (simp; omega)) _) | refine Below.drew ?_))⟩
  · have hz1 : (holdsE r a b c d != 0) = true := by simp [hz]
    have H : Hid (¬ holdsE r a b c d = 0) := hz; clear hz
    go_enter Try.func25, Try.ntmps25
    go_wp2_with fail
    refine (HoldsOf_any _ _ _ _ _ _).mono ?_
    rintro e w1 ⟨rfl, hb⟩
    go_wp2
    go_ret2
    exact ⟨ret_two (by simp [distX, distE, H.out]) (by simp [distE, H.out]), (by repeat (first | exact Below.refl _ _ | assumption | refine below_step ?_ (by assumption) | (refine Below.alloc ?_ (by first | omega | (simp; done) | (simp; omega)) _) | (refine Below.setCell ?_ (by first | omega | (simp; done) | (simp; omega)) _) | refine Below.drew ?_))⟩

/-- What an option and two spans are refused for; whether the option holds. -/
def fitsE (r l h a b c d : Int) : Int := if optE r l h = 0 then bothE a b c d else optE r l h
def inOpt (l h x : Int) : Bool := decide (l ≤ x ∧ (h < 0 ∨ x ≤ h))
def fitsX (r l h a b c d : Int) : Bool := if fitsE r l h a b c d = 0 then relB r a b c d && inOpt l h (distI r a b c d) else false
theorem optE_zero {r l h : Int} (k : optE r l h = 0) : (1 ≤ r ∧ r ≤ 13) ∧ 0 ≤ l ∧ -1 ≤ h := by
  unfold optE at k; (repeat' split at k) <;> omega

set_option maxHeartbeats 400000 in
theorem Fits_any (r l h a b c d : Int) (w : World) :
    Calls Try.prog 26 #[.agg #[.int .i64 r, .int .i64 l, .int .i64 h], .agg #[.int .i64 a, .int .i64 b], .agg #[.int .i64 c, .int .i64 d]] w fun e w' => e = .returned (.tuple #[.bool (fitsX r l h a b c d), .int .i64 (fitsE r l h a b c d)]) ∧ Below w.heap.size w w' := by
  by_cases ho : optE r l h = 0
  · have ho1 : (optE r l h != 0) = false := by simp [ho]
    have O : Hid (optE r l h = 0) := ho; clear ho
    have hr' : Hid (1 ≤ r ∧ r ≤ 13) := (optE_zero O.out).1
    by_cases hz : bothE a b c d = 0
    · have hz1 : (bothE a b c d != 0) = false := by simp [hz]
      have H : Hid (bothE a b c d = 0) := hz; clear hz
      cases hq : relB r a b c d with
      | true =>
        have hq' : Hid (relB r a b c d = true) := hq
        go_enter Try.func26, Try.ntmps26
        go_wp2_with fail
        refine (optCheck_any _ _ _ _).mono ?_
        rintro e w0 ⟨rfl, hb0⟩
        obtain ⟨hc_w0, hf_w0⟩ := bcell hb0; have hs_w0 := hb0.size; (try simp only [World.size_alloc, World.size_drew] at hs_w0); have z0_w0 : w.heap.size < w0.heap.size := (by omega); have z1_w0 : w.heap.size + 1 < w0.heap.size := (by omega); have z2_w0 : w.heap.size + 1 + 1 < w0.heap.size := (by omega)
        go_wp2_with fail
        refine (both_any _ _ _ _ _).mono ?_
        rintro e w1 ⟨rfl, hb⟩
        obtain ⟨hc_w1, hf_w1⟩ := bcell hb; have hs_w1 := hb.size; (try simp only [World.size_alloc, World.size_drew] at hs_w1); have z0_w1 : w.heap.size < w1.heap.size := (by omega); have z1_w1 : w.heap.size + 1 < w1.heap.size := (by omega); have z2_w1 : w.heap.size + 1 + 1 < w1.heap.size := (by omega)
        go_wp2_with fail
        refine (holds_any _ _ _ _ _ _ hr'.out).mono ?_
        rintro e w2 ⟨rfl, hb2⟩
        obtain ⟨hc_w2, hf_w2⟩ := bcell hb2; have hs_w2 := hb2.size; (try simp only [World.size_alloc, World.size_drew] at hs_w2); have z0_w2 : w.heap.size < w2.heap.size := (by omega); have z1_w2 : w.heap.size + 1 < w2.heap.size := (by omega); have z2_w2 : w.heap.size + 1 + 1 < w2.heap.size := (by omega)
        go_wp2_with fail
        refine (distance_any _ _ _ _ _ _ hr'.out (spanE_zero (bothE_zero H.out).1).1 (spanE_zero (bothE_zero H.out).1).2.1 (spanE_zero (bothE_zero H.out).2).1 (spanE_zero (bothE_zero H.out).2).2.1 hq'.out).mono ?_
        rintro e w3 ⟨rfl, hb3⟩
        obtain ⟨hc_w3, hf_w3⟩ := bcell hb3; have hs_w3 := hb3.size; (try simp only [World.size_alloc, World.size_drew] at hs_w3); have z0_w3 : w.heap.size < w3.heap.size := (by omega); have z1_w3 : w.heap.size + 1 < w3.heap.size := (by omega); have z2_w3 : w.heap.size + 1 + 1 < w3.heap.size := (by omega)
        go_wp2
        all_goals (go_ret2; refine ⟨ret_bi ?_ (by simp [fitsE, O.out, H.out]), (by repeat (first | exact Below.refl _ _ | assumption | refine below_step ?_ (by assumption) | (refine Below.alloc ?_ (by first | omega | (simp; done) | (simp; omega)) _) | (refine Below.setCell ?_ (by first | omega | (simp; done) | (simp; omega)) _) | refine Below.drew ?_))⟩; go_light; rw [Bool.eq_iff_iff]; simp [fitsX, fitsE, O.out, H.out, hq'.out, inOpt]; try omega)
      | false =>
        have hq' : Hid (relB r a b c d = false) := hq
        go_enter Try.func26, Try.ntmps26
        go_wp2_with fail
        refine (optCheck_any _ _ _ _).mono ?_
        rintro e w0 ⟨rfl, hb0⟩
        obtain ⟨hc_w0, hf_w0⟩ := bcell hb0; have hs_w0 := hb0.size; (try simp only [World.size_alloc, World.size_drew] at hs_w0); have z0_w0 : w.heap.size < w0.heap.size := (by omega); have z1_w0 : w.heap.size + 1 < w0.heap.size := (by omega); have z2_w0 : w.heap.size + 1 + 1 < w0.heap.size := (by omega)
        go_wp2_with fail
        refine (both_any _ _ _ _ _).mono ?_
        rintro e w1 ⟨rfl, hb⟩
        obtain ⟨hc_w1, hf_w1⟩ := bcell hb; have hs_w1 := hb.size; (try simp only [World.size_alloc, World.size_drew] at hs_w1); have z0_w1 : w.heap.size < w1.heap.size := (by omega); have z1_w1 : w.heap.size + 1 < w1.heap.size := (by omega); have z2_w1 : w.heap.size + 1 + 1 < w1.heap.size := (by omega)
        go_wp2_with fail
        refine (holds_any _ _ _ _ _ _ hr'.out).mono ?_
        rintro e w2 ⟨rfl, hb2⟩
        go_wp2
        go_ret2
        exact ⟨ret_two (by simp [fitsX, fitsE, O.out, H.out, hq'.out]) (by simp [fitsE, O.out, H.out]), (by repeat (first | exact Below.refl _ _ | assumption | refine below_step ?_ (by assumption) | (refine Below.alloc ?_ (by first | omega | (simp; done) | (simp; omega)) _) | (refine Below.setCell ?_ (by first | omega | (simp; done) | (simp; omega)) _) | refine Below.drew ?_))⟩
    · have hz1 : (bothE a b c d != 0) = true := by simp [hz]
      have H : Hid (¬ bothE a b c d = 0) := hz; clear hz
      go_enter Try.func26, Try.ntmps26
      go_wp2_with fail
      refine (optCheck_any _ _ _ _).mono ?_
      rintro e w0 ⟨rfl, hb0⟩
      obtain ⟨hc_w0, hf_w0⟩ := bcell hb0; have hs_w0 := hb0.size; (try simp only [World.size_alloc, World.size_drew] at hs_w0); have z0_w0 : w.heap.size < w0.heap.size := (by omega); have z1_w0 : w.heap.size + 1 < w0.heap.size := (by omega); have z2_w0 : w.heap.size + 1 + 1 < w0.heap.size := (by omega)
      go_wp2_with fail
      refine (both_any _ _ _ _ _).mono ?_
      rintro e w1 ⟨rfl, hb⟩
      go_wp2
      go_ret2
      exact ⟨ret_two (by simp [fitsX, fitsE, O.out, H.out]) (by simp [fitsE, O.out]), (by repeat (first | exact Below.refl _ _ | assumption | refine below_step ?_ (by assumption) | (refine Below.alloc ?_ (by first | omega | (simp; done) | (simp; omega)) _) | (refine Below.setCell ?_ (by first | omega | (simp; done) | (simp; omega)) _) | refine Below.drew ?_))⟩
  · have ho1 : (optE r l h != 0) = true := by simp [ho]
    have O : Hid (¬ optE r l h = 0) := ho; clear ho
    go_enter Try.func26, Try.ntmps26
    go_wp2_with fail
    refine (optCheck_any _ _ _ _).mono ?_
    rintro e w0 ⟨rfl, hb0⟩
    go_wp2
    go_ret2
    exact ⟨ret_two (by simp [fitsX, fitsE, O.out]) (by simp [fitsE, O.out]), (by repeat (first | exact Below.refl _ _ | assumption | refine below_step ?_ (by assumption) | (refine Below.alloc ?_ (by first | omega | (simp; done) | (simp; omega)) _) | (refine Below.setCell ?_ (by first | omega | (simp; done) | (simp; omega)) _) | refine Below.drew ?_))⟩

set_option maxHeartbeats 400000 in
theorem Fitting_any (r l h a b c d : Int) (w : World) (ho : optE r l h = 0) (hz : bothE a b c d = 0) :
    Calls Try.prog 38 #[.agg #[.int .i64 r, .int .i64 l, .int .i64 h], .agg #[.int .i64 a, .int .i64 b], .agg #[.int .i64 c, .int .i64 d]] w fun e w' => e = .returned (.bool (relB r a b c d && inOpt l h (distI r a b c d))) ∧ Below w.heap.size w w' := by
  have O : Hid (optE r l h = 0) := ho; clear ho
  have hr' : Hid (1 ≤ r ∧ r ≤ 13) := (optE_zero O.out).1
  have H : Hid (bothE a b c d = 0) := hz; clear hz
  cases hq : relB r a b c d with
  | true =>
    have hq' : Hid (relB r a b c d = true) := hq
    go_enter Try.func38, Try.ntmps38
    go_wp2_with fail
    refine (related_any _ _ _ _ _ _ hr'.out).mono ?_
    rintro e w2 ⟨rfl, hb2⟩
    obtain ⟨hc_w2, hf_w2⟩ := bcell hb2; have hs_w2 := hb2.size; (try simp only [World.size_alloc, World.size_drew] at hs_w2); have z0_w2 : w.heap.size < w2.heap.size := (by omega); have z1_w2 : w.heap.size + 1 < w2.heap.size := (by omega); have z2_w2 : w.heap.size + 1 + 1 < w2.heap.size := (by omega)
    go_wp2_with fail
    refine (gap_any _ _ _ _ _ _ hr'.out (spanE_zero (bothE_zero H.out).1).1 (spanE_zero (bothE_zero H.out).1).2.1 (spanE_zero (bothE_zero H.out).2).1 (spanE_zero (bothE_zero H.out).2).2.1 hq'.out).mono ?_
    rintro e w3 ⟨rfl, hb3⟩
    obtain ⟨hc_w3, hf_w3⟩ := bcell hb3; have hs_w3 := hb3.size; (try simp only [World.size_alloc, World.size_drew] at hs_w3); have z0_w3 : w.heap.size < w3.heap.size := (by omega); have z1_w3 : w.heap.size + 1 < w3.heap.size := (by omega); have z2_w3 : w.heap.size + 1 + 1 < w3.heap.size := (by omega)
    go_wp2
    all_goals (go_ret; have hl := optE_zero O.out; refine ⟨ret_bool ?_, (by repeat (first | exact Below.refl _ _ | assumption | refine below_step ?_ (by assumption) | (refine Below.alloc ?_ (by first | omega | (simp; done) | (simp; omega)) _) | (refine Below.setCell ?_ (by first | omega | (simp; done) | (simp; omega)) _) | refine Below.drew ?_))⟩; go_light; rw [Bool.eq_iff_iff]; simp [inOpt]; try omega)
  | false =>
    have hq' : Hid (relB r a b c d = false) := hq
    go_enter Try.func38, Try.ntmps38
    go_wp2_with fail
    refine (related_any _ _ _ _ _ _ hr'.out).mono ?_
    rintro e w2 ⟨rfl, hb2⟩
    go_wp2
    go_ret
    exact ⟨rfl, (by repeat (first | exact Below.refl _ _ | assumption | refine below_step ?_ (by assumption) | (refine Below.alloc ?_ (by first | omega | (simp; done) | (simp; omega)) _) | (refine Below.setCell ?_ (by first | omega | (simp; done) | (simp; omega)) _) | refine Below.drew ?_))⟩


set_option maxHeartbeats 400000 in
theorem FitsOf_any (r l h a b c d : Int) (w : World) :
    Calls Try.prog 27 #[.agg #[.int .i64 r, .int .i64 l, .int .i64 h], .agg #[.int .i64 a, .int .i64 b], .agg #[.int .i64 c, .int .i64 d]] w fun e w' => e = .returned (.tuple #[.bool (fitsX r l h a b c d), .int .i64 (fitsE r l h a b c d)]) ∧ Below w.heap.size w w' := by
  by_cases ho : optE r l h = 0
  · have ho1 : (optE r l h == 0) = true := by simp [ho]
    have O : Hid (optE r l h = 0) := ho
    by_cases hz : bothE a b c d = 0
    · have hz1 : (bothE a b c d != 0) = false := by simp [hz]
      have H : Hid (bothE a b c d = 0) := hz; clear hz ho
      go_enter Try.func27, Try.ntmps27
      go_wp2_with fail
      refine (optFault_any _ _ _ _).mono ?_
      rintro e w0 ⟨rfl, hb0⟩
      obtain ⟨hc_w0, hf_w0⟩ := bcell hb0; have hs_w0 := hb0.size; (try simp only [World.size_alloc, World.size_drew] at hs_w0); have z0_w0 : w.heap.size < w0.heap.size := (by omega); have z1_w0 : w.heap.size + 1 < w0.heap.size := (by omega); have z2_w0 : w.heap.size + 1 + 1 < w0.heap.size := (by omega)
      go_wp2_with fail
      refine (twoSpans_any _ _ _ _ _).mono ?_
      rintro e w1 ⟨rfl, hb⟩
      obtain ⟨hc_w1, hf_w1⟩ := bcell hb; have hs_w1 := hb.size; (try simp only [World.size_alloc, World.size_drew] at hs_w1); have z0_w1 : w.heap.size < w1.heap.size := (by omega); have z1_w1 : w.heap.size + 1 < w1.heap.size := (by omega); have z2_w1 : w.heap.size + 1 + 1 < w1.heap.size := (by omega)
      go_wp2_with fail
      refine (Fitting_any _ _ _ _ _ _ _ _ O.out H.out).mono ?_
      rintro e w2 ⟨rfl, hb2⟩
      go_wp2
      go_ret2
      exact ⟨ret_two (by simp [fitsX, fitsE, O.out, H.out]) (by simp [fitsE, O.out, H.out]), (by repeat (first | exact Below.refl _ _ | assumption | refine below_step ?_ (by assumption) | (refine Below.alloc ?_ (by first | omega | (simp; done) | (simp; omega)) _) | (refine Below.setCell ?_ (by first | omega | (simp; done) | (simp; omega)) _) | refine Below.drew ?_))⟩
    · have hz1 : (bothE a b c d != 0) = true := by simp [hz]
      have H : Hid (¬ bothE a b c d = 0) := hz; clear hz ho
      go_enter Try.func27, Try.ntmps27
      go_wp2_with fail
      refine (optFault_any _ _ _ _).mono ?_
      rintro e w0 ⟨rfl, hb0⟩
      obtain ⟨hc_w0, hf_w0⟩ := bcell hb0; have hs_w0 := hb0.size; (try simp only [World.size_alloc, World.size_drew] at hs_w0); have z0_w0 : w.heap.size < w0.heap.size := (by omega); have z1_w0 : w.heap.size + 1 < w0.heap.size := (by omega); have z2_w0 : w.heap.size + 1 + 1 < w0.heap.size := (by omega)
      go_wp2_with fail
      refine (twoSpans_any _ _ _ _ _).mono ?_
      rintro e w1 ⟨rfl, hb⟩
      go_wp2
      go_ret2
      exact ⟨ret_two (by simp [fitsX, fitsE, O.out, H.out]) (by simp [fitsE, O.out]), (by repeat (first | exact Below.refl _ _ | assumption | refine below_step ?_ (by assumption) | (refine Below.alloc ?_ (by first | omega | (simp; done) | (simp; omega)) _) | (refine Below.setCell ?_ (by first | omega | (simp; done) | (simp; omega)) _) | refine Below.drew ?_))⟩
  · have ho1 : (optE r l h == 0) = false := by simp [ho]
    have ho2 : (optE r l h != 0) = true := by simp [ho]
    have O : Hid (¬ optE r l h = 0) := ho; clear ho
    go_enter Try.func27, Try.ntmps27
    go_wp2_with fail
    refine (optFault_any _ _ _ _).mono ?_
    rintro e w0 ⟨rfl, hb0⟩
    go_wp2
    go_ret2
    exact ⟨ret_two (by simp [fitsX, fitsE, O.out]) (by simp [fitsE, O.out]), (by repeat (first | exact Below.refl _ _ | assumption | refine below_step ?_ (by assumption) | (refine Below.alloc ?_ (by first | omega | (simp; done) | (simp; omega)) _) | (refine Below.setCell ?_ (by first | omega | (simp; done) | (simp; omega)) _) | refine Below.drew ?_))⟩

/-- The first relation that holds. -/
def whichI (a b c d : Int) : Int :=
  if relB 1 a b c d = true then 1 else if relB 2 a b c d = true then 2 else if relB 3 a b c d = true then 3 else if relB 4 a b c d = true then 4 else if relB 5 a b c d = true then 5 else if relB 6 a b c d = true then 6
  else if relB 7 a b c d = true then 7 else if relB 8 a b c d = true then 8 else if relB 9 a b c d = true then 9 else if relB 10 a b c d = true then 10 else if relB 11 a b c d = true then 11 else if relB 12 a b c d = true then 12 else 13
theorem relB_all {a b c d : Int} (v1 : a ≤ b) (v2 : c ≤ d) (h : ∀ k : Int, 1 ≤ k → k < 13 → relB k a b c d = false) : relB 13 a b c d = true := by
  have h1 := h 1 (by omega) (by omega); have h2 := h 2 (by omega) (by omega); have h3 := h 3 (by omega) (by omega); have h4 := h 4 (by omega) (by omega)
  have h5 := h 5 (by omega) (by omega); have h6 := h 6 (by omega) (by omega); have h7 := h 7 (by omega) (by omega); have h8 := h 8 (by omega) (by omega)
  have h9 := h 9 (by omega) (by omega); have h10 := h 10 (by omega) (by omega); have h11 := h 11 (by omega) (by omega); have h12 := h 12 (by omega) (by omega)
  clear h
  simp [relB] at *
  omega
theorem whichI_of {a b c d r : Int} (h : ∀ k : Int, 1 ≤ k → k < r → relB k a b c d = false) (h1 : 1 ≤ r) (h2 : r ≤ 13) (hr : relB r a b c d = true ∨ r = 13) : whichI a b c d = r := by
  unfold whichI
  rcases thirteen ⟨h1, h2⟩ with rfl | rfl | rfl | rfl | rfl | rfl | rfl | rfl | rfl | rfl | rfl | rfl | rfl
  all_goals (repeat (first | (rw [if_neg (by rw [h _ (by omega) (by omega)]; simp)]; done) | rw [if_neg (by rw [h _ (by omega) (by omega)]; simp)] | (rcases hr with hr | hr <;> first | (rw [if_pos hr]; done) | omega) | rfl))

/-- What both spans are refused for, and which relation holds. -/
def whichX (a b c d : Int) : Int := if bothE a b c d = 0 then whichI a b c d else 0

def NoneTill (a b c d k : Int) : Prop := ∀ j : Int, 1 ≤ j → j < k → relB j a b c d = false
theorem noneTill_one (a b c d : Int) : NoneTill a b c d 1 := fun j h1 h2 => by omega
theorem noneTill_succ {a b c d k : Int} (h : NoneTill a b c d k) (hk : relB k a b c d = false) : NoneTill a b c d (k + 1) := fun j h1 h2 => by
  by_cases e : j = k
  · subst e; exact hk
  · exact h j h1 (by omega)

set_option maxHeartbeats 400000 in
theorem Which_any (a b c d : Int) (w : World) :
    Calls Try.prog 22 #[.agg #[.int .i64 a, .int .i64 b], .agg #[.int .i64 c, .int .i64 d]] w fun e w' => e = .returned (.tuple #[.int .i64 (whichX a b c d), .int .i64 (bothE a b c d)]) ∧ Below w.heap.size w w' := by
  by_cases hz : bothE a b c d = 0
  · have hz1 : (bothE a b c d != 0) = false := by simp [hz]
    have H : Hid (bothE a b c d = 0) := hz; clear hz
    go_enter Try.func22, Try.ntmps22
    go_wp2_with fail
    refine (both_any _ _ _ _ _).mono ?_
    rintro e w1 ⟨rfl, hb⟩
    obtain ⟨hc_w1, hf_w1⟩ := bcell hb; have hs_w1 := hb.size; (try simp only [World.size_alloc, World.size_drew] at hs_w1); have z0_w1 : w.heap.size < w1.heap.size := (by omega); have z1_w1 : w.heap.size + 1 < w1.heap.size := (by omega)
    go_wp2_with fail
    go_loopw [7] (fun r wr => ∃ k : Int, 1 ≤ k ∧ k ≤ 13 ∧ r = .int .i64 k ∧ NoneTill a b c d k ∧ Below w1.heap.size w1 wr) (fun r _ => (13 - intOf r).toNat)
    case atStart => exact ⟨1, by omega, by omega, rfl, noneTill_one a b c d, Below.refl _ _⟩
    case round =>
      obtain ⟨k, hk1, hk2, rfl, hn, hbr⟩ := hrel
      obtain ⟨hc_wr, hf_wr⟩ := bcell hbr; have hs_wr := hbr.size; (try simp only [World.size_alloc, World.size_drew] at hs_wr); have z0_wr : w.heap.size < wr.heap.size := (by omega); have z1_wr : w.heap.size + 1 < wr.heap.size := (by omega)
      by_cases hlt : k < 13
      · cases hq : relB k a b c d with
        | true =>
          have hq' : Hid (relB k a b c d = true) := hq
          go_wp2_with fail
          refine (holds_any _ _ _ _ _ _ ⟨hk1, hk2⟩).mono ?_
          rintro e w2 ⟨rfl, hb2⟩
          go_wp2
          go_ret2
          exact ⟨ret_ii (by simp [whichX, H.out, whichI_of hn hk1 hk2 (Or.inl hq'.out)]) H.out.symm, (by repeat (first | exact Below.refl _ _ | assumption | refine below_step ?_ (by assumption) | (refine Below.alloc ?_ (by first | omega | (simp; done) | (simp; omega)) _) | (refine Below.setCell ?_ (by first | omega | (simp; done) | (simp; omega)) _) | refine Below.drew ?_))⟩
        | false =>
          have hq' : Hid (relB k a b c d = false) := hq
          go_wp2_with fail
          refine (holds_any _ _ _ _ _ _ ⟨hk1, hk2⟩).mono ?_
          rintro e w2 ⟨rfl, hb2⟩
          go_wp2
          go_roundw
          case rel => exact ⟨k + 1, by omega, by omega, rfl, noneTill_succ hn hq'.out, hbr.trans (hb2.mono hbr.size)⟩
          case measure => simp [intOf]; omega
      · go_wp2
        go_ret2
        have e13 : k = 13 := by omega
        subst e13
        exact ⟨ret_ii (by simp [whichX, H.out, whichI_of hn hk1 hk2 (Or.inr rfl)]) H.out.symm, (by repeat (first | exact Below.refl _ _ | assumption | refine below_step ?_ (by assumption) | (refine Below.alloc ?_ (by first | omega | (simp; done) | (simp; omega)) _) | (refine Below.setCell ?_ (by first | omega | (simp; done) | (simp; omega)) _) | refine Below.drew ?_))⟩
  · have hz1 : (bothE a b c d != 0) = true := by simp [hz]
    have H : Hid (¬ bothE a b c d = 0) := hz; clear hz
    go_enter Try.func22, Try.ntmps22
    go_wp2_with fail
    refine (both_any _ _ _ _ _).mono ?_
    rintro e w1 ⟨rfl, hb⟩
    go_wp2
    go_ret2
    exact ⟨ret_two (by simp [whichX, H.out]) rfl, (by repeat (first | exact Below.refl _ _ | assumption | refine below_step ?_ (by assumption) | (refine Below.alloc ?_ (by first | omega | (simp; done) | (simp; omega)) _) | (refine Below.setCell ?_ (by first | omega | (simp; done) | (simp; omega)) _) | refine Below.drew ?_))⟩

theorem none13 {a b c d k : Int} (hn : NoneTill a b c d k) (hk1 : 1 ≤ k) (hk2 : k ≤ 13) (v : bothE a b c d = 0) (hq : relB k a b c d = false) : k < 13 := by
  by_cases e : k = 13
  · subst e
    have h1 := spanE_zero (bothE_zero v).1
    have h2 := spanE_zero (bothE_zero v).2
    have := relB_all h1.2.2 h2.2.2 hn
    rw [hq] at this; cases this
  · omega
set_option maxHeartbeats 400000 in
theorem WhichOf_any (a b c d : Int) (w : World) :
    Calls Try.prog 23 #[.agg #[.int .i64 a, .int .i64 b], .agg #[.int .i64 c, .int .i64 d]] w fun e w' => e = .returned (.tuple #[.int .i64 (whichX a b c d), .int .i64 (bothE a b c d)]) ∧ Below w.heap.size w w' := by
  by_cases hz : bothE a b c d = 0
  · have hz1 : (bothE a b c d != 0) = false := by simp [hz]
    have H : Hid (bothE a b c d = 0) := hz; clear hz
    go_enter Try.func23, Try.ntmps23
    go_wp2_with fail
    refine (twoSpans_any _ _ _ _ _).mono ?_
    rintro e w1 ⟨rfl, hb⟩
    obtain ⟨hc_w1, hf_w1⟩ := bcell hb; have hs_w1 := hb.size; (try simp only [World.size_alloc, World.size_drew] at hs_w1); have z0_w1 : w.heap.size < w1.heap.size := (by omega); have z1_w1 : w.heap.size + 1 < w1.heap.size := (by omega)
    go_wp2_with fail
    go_loopw [7] (fun r wr => ∃ k : Int, 1 ≤ k ∧ k ≤ 13 ∧ r = .int .i64 k ∧ NoneTill a b c d k ∧ Below w1.heap.size w1 wr) (fun r _ => (13 - intOf r).toNat)
    case atStart => exact ⟨1, by omega, by omega, rfl, noneTill_one a b c d, Below.refl _ _⟩
    case round =>
      obtain ⟨k, hk1, hk2, rfl, hn, hbr⟩ := hrel
      obtain ⟨hc_wr, hf_wr⟩ := bcell hbr; have hs_wr := hbr.size; (try simp only [World.size_alloc, World.size_drew] at hs_wr); have z0_wr : w.heap.size < wr.heap.size := (by omega); have z1_wr : w.heap.size + 1 < wr.heap.size := (by omega)
      cases hq : relB k a b c d with
      | true =>
        have hq' : Hid (relB k a b c d = true) := hq
        go_wp2_with fail
        refine (related_any _ _ _ _ _ _ ⟨hk1, hk2⟩).mono ?_
        rintro e w2 ⟨rfl, hb2⟩
        go_wp2
        go_ret2
        exact ⟨ret_ii (by simp [whichX, H.out, whichI_of hn hk1 hk2 (Or.inl hq'.out)]) H.out.symm, (by repeat (first | exact Below.refl _ _ | assumption | refine below_step ?_ (by assumption) | (refine Below.alloc ?_ (by first | omega | (simp; done) | (simp; omega)) _) | (refine Below.setCell ?_ (by first | omega | (simp; done) | (simp; omega)) _) | refine Below.drew ?_))⟩
      | false =>
        have hq' : Hid (relB k a b c d = false) := hq
        have h13 := none13 hn hk1 hk2 H.out hq
        go_wp2_with fail
        refine (related_any _ _ _ _ _ _ ⟨hk1, hk2⟩).mono ?_
        rintro e w2 ⟨rfl, hb2⟩
        go_wp2
        go_roundw
        case rel => exact ⟨k + 1, by omega, by omega, rfl, noneTill_succ hn hq'.out, hbr.trans (hb2.mono hbr.size)⟩
        case measure => simp [intOf]; omega
  · have hz1 : (bothE a b c d != 0) = true := by simp [hz]
    have H : Hid (¬ bothE a b c d = 0) := hz; clear hz
    go_enter Try.func23, Try.ntmps23
    go_wp2_with fail
    refine (twoSpans_any _ _ _ _ _).mono ?_
    rintro e w1 ⟨rfl, hb⟩
    go_wp2
    go_ret2
    exact ⟨ret_two (by simp [whichX, H.out]) rfl, (by repeat (first | exact Below.refl _ _ | assumption | refine below_step ?_ (by assumption) | (refine Below.alloc ?_ (by first | omega | (simp; done) | (simp; omega)) _) | (refine Below.setCell ?_ (by first | omega | (simp; done) | (simp; omega)) _) | refine Below.drew ?_))⟩
end Go.Proofs.Ytbambidojppklaa
