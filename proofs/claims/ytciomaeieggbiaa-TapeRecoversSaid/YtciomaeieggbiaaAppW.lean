/-
  The walks of tape.Append and its reference.
-/
import Derived.Test.YtciomaeieggbiaaNotW
import Derived.Test.YtciomaeieggbiaaTpA
namespace Go.Proofs.Ytciomaeieggbiaa
open Go.RowKit
set_option linter.unusedVariables false
set_option linter.unusedSimpArgs false

def appE (n : Nat) (s : Int) (a : Ac) (vs : List Val) : Int := if mayB n s = true then (if noteE a vs = 0 then (if 200000 < n + 2 + (noteL a vs).length then 8 else 0) else noteE a vs) else 9
def appD (n : Nat) (s : Int) (a : Ac) (vs : List Val) (xs : List UInt8) : List UInt8 := if appE n s a vs = 0 then xs ++ ([UInt8.ofNat ((noteL a vs).length / 256), UInt8.ofNat ((noteL a vs).length % 256)] ++ noteL a vs) else []
def appS (n : Nat) (s : Int) (a : Ac) (vs : List Val) : Int := if appE n s a vs = 0 then s else 0
def TapePost (c s : Int) (l : List UInt8) (w : World) (e : Ending) (w' : World) : Prop :=
  ∃ ao cap, e = .returned (.tuple #[.agg #[.slice ao l.length cap, .int .i64 s], .int .i64 c]) ∧ Below w.heap.size w w' ∧ SlF (from_ w.heap.size) w' 1 byteF ao l.length cap l
theorem tapePost_bad (c : Int) (w w' : World) (e : Ending) (h : e = .returned (.tuple #[.agg #[.slice none 0 0, .int .i64 0], .int .i64 c]) ∧ Below w.heap.size w w') : TapePost c 0 [] w e w' := ⟨none, 0, h.1, h.2, SlF.nil⟩
set_option maxHeartbeats 2000000 in
set_option maxRecDepth 100000 in
theorem append_bad (ao : Option Addr) (n cap : Nat) (s : Int) (a : Ac) (vo : Option Addr) (m vcap : Nat) (w : World) (h : mayB n s = false) :
    Calls Try.prog 14 #[.agg #[.slice ao n cap, .int .i64 s], a.val (.slice vo m vcap)] w fun e w' => e = .returned (.tuple #[.agg #[.slice none 0 0, .int .i64 0], .int .i64 9]) ∧ Below w.heap.size w w' := by
  have H : Hid (∀ wx, Calls Try.prog 36 #[.agg #[.slice ao n cap, .int .i64 s]] wx fun e w' => e = .returned (.tuple #[.agg #[.slice none 0 0, .int .i64 0], .bool false]) ∧ Below wx.heap.size wx w') := fun wx => open_bad ao n cap s wx h
  clear h
  obtain ⟨ak, ⟨ok, ot, o1, o2, od, oc⟩, p, src⟩ := a
  unfold Ac.val
  simp only
  go_enter Try.func14, Try.ntmps14
  go_wp2_with (go_at_call 36; refine (H.out _).mono ?_; rintro e w1 ⟨rfl, hb1⟩; obtain ⟨hc_w1, hf_w1⟩ := bcell hb1; have hs_w1 := hb1.size; (try simp only [World.size_alloc, World.size_drew, World.size_setCell] at hs_w1); (try simp only [World.size_drew, World.cell?_drew, World.frozen?_drew] at hc_w1 hf_w1); have z0_w1 : w.heap.size < w1.heap.size := (by omega); have z1_w1 : w.heap.size + 1 < w1.heap.size := (by omega); have z2_w1 : w.heap.size + 1 + 1 < w1.heap.size := (by omega))
  refine bodyPost_ret (v := .tuple #[.agg #[.slice none 0 0, .int .i64 0], .int .i64 9]) (by simp [results, Try.results14, go_sem, hc_w1, z0_w1, z1_w1, z2_w1, World.cell?_setCell_other]) rfl ?_
  exact ⟨rfl, (by repeat (first | exact Below.refl _ _ | assumption | refine below_step ?_ (by assumption) | refine below_step ?_ (Joins.below_draws _ _ _) | (refine Below.alloc ?_ (by first | omega | (simp; done) | (simp; omega)) _) | (refine Below.setCell ?_ (by first | omega | (simp; done) | (simp; omega)) _) | refine Below.drew ?_))⟩
set_option maxHeartbeats 2000000 in
set_option maxRecDepth 100000 in
theorem appended_bad (ao : Option Addr) (n cap : Nat) (s : Int) (a : Ac) (vo : Option Addr) (m vcap : Nat) (w : World) (h : mayB n s = false) :
    Calls Try.prog 15 #[.agg #[.slice ao n cap, .int .i64 s], a.val (.slice vo m vcap)] w fun e w' => e = .returned (.tuple #[.agg #[.slice none 0 0, .int .i64 0], .int .i64 9]) ∧ Below w.heap.size w w' := by
  have H : Hid (∀ wx, Calls Try.prog 40 #[.agg #[.slice ao n cap, .int .i64 s]] wx fun e w' => e = .returned (.bool false) ∧ Below wx.heap.size wx w') := fun wx => by rw [← h]; exact tapeMay_any ao n cap s wx
  clear h
  obtain ⟨ak, ⟨ok, ot, o1, o2, od, oc⟩, p, src⟩ := a
  unfold Ac.val
  simp only
  go_enter Try.func15, Try.ntmps15
  go_wp2_with (go_at_call 40; refine (H.out _).mono ?_; rintro e w1 ⟨rfl, hb1⟩; obtain ⟨hc_w1, hf_w1⟩ := bcell hb1; have hs_w1 := hb1.size; (try simp only [World.size_alloc, World.size_drew, World.size_setCell] at hs_w1); (try simp only [World.size_drew, World.cell?_drew, World.frozen?_drew] at hc_w1 hf_w1); have z0_w1 : w.heap.size < w1.heap.size := (by omega); have z1_w1 : w.heap.size + 1 < w1.heap.size := (by omega); have z2_w1 : w.heap.size + 1 + 1 < w1.heap.size := (by omega))
  refine bodyPost_ret (v := .tuple #[.agg #[.slice none 0 0, .int .i64 0], .int .i64 9]) (by simp [results, Try.results15, go_sem, hc_w1, z0_w1, z1_w1, z2_w1, World.cell?_setCell_other]) rfl ?_
  exact ⟨rfl, (by repeat (first | exact Below.refl _ _ | assumption | refine below_step ?_ (by assumption) | refine below_step ?_ (Joins.below_draws _ _ _) | (refine Below.alloc ?_ (by first | omega | (simp; done) | (simp; omega)) _) | (refine Below.setCell ?_ (by first | omega | (simp; done) | (simp; omega)) _) | refine Below.drew ?_))⟩
set_option maxHeartbeats 2000000 in
set_option maxRecDepth 100000 in
theorem append_err (F : Nat → Prop) (ao : Option Addr) (n cap : Nat) (s : Int) (xs : List UInt8) (a : Ac) (vo : Option Addr) (m vcap : Nat) (vs : List Val) (w : World) (h : mayB n s = true) (hX : SlF F w 1 byteF ao n cap xs) (ht : a.op.type.size ≤ maxLen) (hs : a.source.size ≤ maxLen) (hV : SlR w 3 valR vo m vcap vs) (hn : ¬ noteE a vs = 0) :
    Calls Try.prog 14 #[.agg #[.slice ao n cap, .int .i64 s], a.val (.slice vo m vcap)] w fun e w' => e = .returned (.tuple #[.agg #[.slice none 0 0, .int .i64 0], .int .i64 (noteE a vs)]) ∧ Below w.heap.size w w' := by
  have H : Hid (∀ wx, Below w.heap.size w wx → Calls Try.prog 36 #[.agg #[.slice ao n cap, .int .i64 s]] wx fun e w' => ∃ ao' cap', e = .returned (.tuple #[.agg #[.slice ao' n cap', .int .i64 s], .bool true]) ∧ Below wx.heap.size wx w' ∧ SlF (from_ wx.heap.size) w' 1 byteF ao' n cap' xs) := fun wx hb => open_good F ao n cap s xs wx h (hX.below byteF_firm hb)
  have HN : Hid (∀ wx, Below w.heap.size w wx → Calls Try.prog 37 #[a.val (.slice vo m vcap)] wx fun e w' => e = .returned (.int .i64 (noteE a vs)) ∧ Below wx.heap.size wx w') := fun wx hb => note_any a vo m vcap vs wx ht hs (hV.mono valR_stays hb)
  have hq : (noteE a vs != 0) = true := by simpa using hn
  clear h hn
  generalize noteE a vs = code at HN hq ⊢
  obtain ⟨ak, ⟨ok, ot, o1, o2, od, oc⟩, p, src⟩ := a
  unfold Ac.val at HN ⊢
  simp only at HN ⊢
  go_enter Try.func14, Try.ntmps14
  go_wp2_with fail
  refine (H.out _ (by repeat (first | exact Below.refl _ _ | assumption | refine below_step ?_ (by assumption) | refine below_step ?_ (Joins.below_draws _ _ _) | (refine Below.alloc ?_ (by first | omega | (simp; done) | (simp; omega)) _) | (refine Below.setCell ?_ (by first | omega | (simp; done) | (simp; omega)) _) | refine Below.drew ?_))).mono ?_
  rintro e w1 ⟨ao1, cap1, rfl, hb1, hS1⟩
  obtain ⟨hc_w1, hf_w1⟩ := bcell hb1; have hs_w1 := hb1.size; (try simp only [World.size_alloc, World.size_drew, World.size_setCell] at hs_w1); (try simp only [World.size_drew, World.cell?_drew, World.frozen?_drew] at hc_w1 hf_w1); have z0_w1 : w.heap.size < w1.heap.size := (by omega); have z1_w1 : w.heap.size + 1 < w1.heap.size := (by omega); have z2_w1 : w.heap.size + 1 + 1 < w1.heap.size := (by omega)
  go_wp2_with fail
  refine (HN.out _ (by repeat (first | exact Below.refl _ _ | assumption | refine below_step ?_ (by assumption) | refine below_step ?_ (Joins.below_draws _ _ _) | (refine Below.alloc ?_ (by first | omega | (simp; done) | (simp; omega)) _) | (refine Below.setCell ?_ (by first | omega | (simp; done) | (simp; omega)) _) | refine Below.drew ?_))).mono ?_
  rintro e w2 ⟨rfl, hb2⟩
  obtain ⟨hc_w2, hf_w2⟩ := bcell hb2; have hs_w2 := hb2.size; (try simp only [World.size_alloc, World.size_drew, World.size_setCell] at hs_w2); (try simp only [World.size_drew, World.cell?_drew, World.frozen?_drew] at hc_w2 hf_w2)
  go_wp2
  refine bodyPost_ret (v := .tuple #[.agg #[.slice none 0 0, .int .i64 0], .int .i64 code]) (by simp [results, Try.results14, go_sem, hc_w1, z0_w1, z1_w1, z2_w1, hc_w2, World.cell?_setCell_other]) rfl ?_
  exact ⟨rfl, (by repeat (first | exact Below.refl _ _ | assumption | refine below_step ?_ (by assumption) | refine below_step ?_ (Joins.below_draws _ _ _) | (refine Below.alloc ?_ (by first | omega | (simp; done) | (simp; omega)) _) | (refine Below.setCell ?_ (by first | omega | (simp; done) | (simp; omega)) _) | refine Below.drew ?_))⟩
set_option maxHeartbeats 2000000 in
set_option maxRecDepth 100000 in
theorem appended_err (ao : Option Addr) (n cap : Nat) (s : Int) (a : Ac) (vo : Option Addr) (m vcap : Nat) (vs : List Val) (w : World) (h : mayB n s = true) (ht : a.op.type.size ≤ maxLen) (hs : a.source.size ≤ maxLen) (hV : SlR w 3 valR vo m vcap vs) (hn : ¬ noteE a vs = 0) :
    Calls Try.prog 15 #[.agg #[.slice ao n cap, .int .i64 s], a.val (.slice vo m vcap)] w fun e w' => e = .returned (.tuple #[.agg #[.slice none 0 0, .int .i64 0], .int .i64 (noteE a vs)]) ∧ Below w.heap.size w w' := by
  have H : Hid (∀ wx, Calls Try.prog 40 #[.agg #[.slice ao n cap, .int .i64 s]] wx fun e w' => e = .returned (.bool true) ∧ Below wx.heap.size wx w') := fun wx => by rw [← h]; exact tapeMay_any ao n cap s wx
  have HN : Hid (∀ wx, Below w.heap.size w wx → Calls Try.prog 41 #[a.val (.slice vo m vcap)] wx fun e w' => e = .returned (.int .i64 (noteE a vs)) ∧ Below wx.heap.size wx w') := fun wx hb => noteFault_any a vo m vcap vs wx ht hs (hV.mono valR_stays hb)
  have hq : (noteE a vs != 0) = true := by simpa using hn
  clear h hn
  generalize noteE a vs = code at HN hq ⊢
  obtain ⟨ak, ⟨ok, ot, o1, o2, od, oc⟩, p, src⟩ := a
  unfold Ac.val at HN ⊢
  simp only at HN ⊢
  go_enter Try.func15, Try.ntmps15
  go_wp2_with fail
  refine (H.out _).mono ?_
  rintro e w1 ⟨rfl, hb1⟩
  obtain ⟨hc_w1, hf_w1⟩ := bcell hb1; have hs_w1 := hb1.size; (try simp only [World.size_alloc, World.size_drew, World.size_setCell] at hs_w1); (try simp only [World.size_drew, World.cell?_drew, World.frozen?_drew] at hc_w1 hf_w1); have z0_w1 : w.heap.size < w1.heap.size := (by omega); have z1_w1 : w.heap.size + 1 < w1.heap.size := (by omega); have z2_w1 : w.heap.size + 1 + 1 < w1.heap.size := (by omega)
  go_wp2_with fail
  refine (HN.out _ (by repeat (first | exact Below.refl _ _ | assumption | refine below_step ?_ (by assumption) | refine below_step ?_ (Joins.below_draws _ _ _) | (refine Below.alloc ?_ (by first | omega | (simp; done) | (simp; omega)) _) | (refine Below.setCell ?_ (by first | omega | (simp; done) | (simp; omega)) _) | refine Below.drew ?_))).mono ?_
  rintro e w2 ⟨rfl, hb2⟩
  obtain ⟨hc_w2, hf_w2⟩ := bcell hb2; have hs_w2 := hb2.size; (try simp only [World.size_alloc, World.size_drew, World.size_setCell] at hs_w2); (try simp only [World.size_drew, World.cell?_drew, World.frozen?_drew] at hc_w2 hf_w2)
  go_wp2
  refine bodyPost_ret (v := .tuple #[.agg #[.slice none 0 0, .int .i64 0], .int .i64 code]) (by simp [results, Try.results15, go_sem, hc_w1, z0_w1, z1_w1, z2_w1, hc_w2, World.cell?_setCell_other]) rfl ?_
  exact ⟨rfl, (by repeat (first | exact Below.refl _ _ | assumption | refine below_step ?_ (by assumption) | refine below_step ?_ (Joins.below_draws _ _ _) | (refine Below.alloc ?_ (by first | omega | (simp; done) | (simp; omega)) _) | (refine Below.setCell ?_ (by first | omega | (simp; done) | (simp; omega)) _) | refine Below.drew ?_))⟩
end Go.Proofs.Ytciomaeieggbiaa
