/-
  The law WireEncodes, walked.
-/
import Derived.Test.YtciomaeieggbiaaEncZ
import Derived.Test.YtciomaeieggbiaaTapX
namespace Go.Proofs.Ytciomaeieggbiaa
open Go.RowKit
set_option linter.unusedVariables false
set_option linter.unusedSimpArgs false

theorem str_same (xs ys : List UInt8) : ((⟨xs.toArray⟩ : ByteArray).toList == (⟨ys.toArray⟩ : ByteArray).toList) = (xs == ys) := by
  rw [ByteArray.toList_eq, ByteArray.toList_eq]
theorem encode_any (o : Opn) (vo : Option Addr) (m vcap : Nat) (vs : List Val) (w : World) (ht : o.type.size ≤ maxLen) (hV : SlR w 3 valR vo m vcap vs) :
    Calls Try.prog 11 #[o.val (.slice vo m vcap)] w (EncPost o vs w) := by
  by_cases h : wireE o vs = 0
  · have hm := wireE_may h
    obtain ⟨kind, type, start, stop, delta, collect⟩ := o
    rcases hm with ⟨h1, h2, h3⟩ | ⟨h1, h2⟩ | ⟨h1, h2, ⟨⟨h3, h4⟩, h5, h6⟩, h7, h8⟩
    · simp only at h1 h2 h3
      subst h1
      obtain ⟨d, rfl⟩ : ∃ d : Nat, delta = d := ⟨delta.toNat, by omega⟩
      cases collect
      · exact encode_adv0 d type start stop vo m vcap vs w ht hV h (by omega)
      · exact encode_adv1 d type start stop vo m vcap vs w ht hV h (by omega)
    · simp only at h1 h2
      subst h1
      exact encode_query delta collect type start stop vo m vcap vs w h2 hV h
    · simp only at h1 h2 h3 h4 h5 h6
      subst h1
      obtain ⟨a, rfl⟩ : ∃ a : Nat, start = a := ⟨start.toNat, by omega⟩
      obtain ⟨b, rfl⟩ : ∃ b : Nat, stop = b := ⟨stop.toNat, by omega⟩
      exact encode_ins delta collect type a b vo m vcap vs w h2 (by omega) (by omega) h7 h8 hV h
  · exact encode_bad o vo m vcap vs w ht hV h
theorem opb_any (o : Opn) (vo : Option Addr) (m vcap : Nat) (vs : List Val) (w : World) (ht : o.type.size ≤ maxLen) (hV : SlR w 3 valR vo m vcap vs) :
    Calls Try.prog 12 #[o.val (.slice vo m vcap)] w (EncPost o vs w) := by
  by_cases h : wireE o vs = 0
  · have hm := wireE_may h
    obtain ⟨kind, type, start, stop, delta, collect⟩ := o
    rcases hm with ⟨h1, h2, h3⟩ | ⟨h1, h2⟩ | ⟨h1, h2, ⟨⟨h3, h4⟩, h5, h6⟩, h7, h8⟩
    · simp only at h1 h2 h3
      subst h1
      obtain ⟨d, rfl⟩ : ∃ d : Nat, delta = d := ⟨delta.toNat, by omega⟩
      cases collect
      · exact opb_adv0 d type start stop vo m vcap vs w ht hV h (by omega)
      · exact opb_adv1 d type start stop vo m vcap vs w ht hV h (by omega)
    · simp only at h1 h2
      subst h1
      exact opb_query delta collect type start stop vo m vcap vs w h2 hV h
    · simp only at h1 h2 h3 h4 h5 h6
      subst h1
      obtain ⟨a, rfl⟩ : ∃ a : Nat, start = a := ⟨start.toNat, by omega⟩
      obtain ⟨b, rfl⟩ : ∃ b : Nat, stop = b := ⟨stop.toNat, by omega⟩
      exact opb_ins delta collect type a b vo m vcap vs w h2 (by omega) (by omega) h7 h8 hV h
  · exact opb_bad o vo m vcap vs w ht hV h

set_option maxHeartbeats 1000000 in
set_option maxRecDepth 100000 in
theorem wireEncodes_walk (o : Opn) (vo : Option Addr) (m vcap : Nat) (vs : List Val) (w : World) (ht : o.type.size ≤ maxLen) (hV : SlR w 3 valR vo m vcap vs) :
    Calls Try.prog 4 #[o.val (.slice vo m vcap)] w fun e w' => e = .returned (.bool true) ∧ Below w.heap.size w w' := by
  have H1 : Hid (∀ wx, Below w.heap.size w wx → Calls Try.prog 11 #[o.val (.slice vo m vcap)] wx (EncPost o vs wx)) := fun wx hb => encode_any o vo m vcap vs wx ht (hV.mono valR_stays hb)
  have H2 : Hid (∀ wx, Below w.heap.size w wx → Calls Try.prog 12 #[o.val (.slice vo m vcap)] wx (EncPost o vs wx)) := fun wx hb => opb_any o vo m vcap vs wx ht (hV.mono valR_stays hb)
  unfold EncPost at H1 H2
  generalize wireE o vs = code at H1 H2
  generalize encL o vs = L at H1 H2
  unfold Opn.val at H1 H2 ⊢
  go_enter Try.func4, Try.ntmps4
  go_wp2_with fail
  refine (H1.out _ (by repeat (first | exact Below.refl _ _ | assumption | refine below_step ?_ (by assumption) | refine below_step ?_ (Joins.below_draws _ _ _) | (refine Below.alloc ?_ (by first | omega | (simp; done) | (simp; omega)) _) | (refine Below.setCell ?_ (by first | omega | (simp; done) | (simp; omega)) _) | refine Below.drew ?_))).mono ?_
  rintro e w1 ⟨ao1, cap1, rfl, hb1, hS1⟩
  obtain ⟨hc_w1, hf_w1⟩ := bcell hb1; have hs_w1 := hb1.size; (try simp only [World.size_alloc, World.size_drew, World.size_setCell] at hs_w1); (try simp only [World.size_drew, World.cell?_drew, World.frozen?_drew] at hc_w1 hf_w1); have z0_w1 : w.heap.size < w1.heap.size := (by omega)
  go_wp2_with fail
  refine (H2.out _ (by repeat (first | exact Below.refl _ _ | assumption | refine below_step ?_ (by assumption) | refine below_step ?_ (Joins.below_draws _ _ _) | (refine Below.alloc ?_ (by first | omega | (simp; done) | (simp; omega)) _) | (refine Below.setCell ?_ (by first | omega | (simp; done) | (simp; omega)) _) | refine Below.drew ?_))).mono ?_
  rintro e w2 ⟨ao2, cap2, rfl, hb2, hS2⟩
  have c1 := convert_bytes (P := Try.prog) (src := 34) (dst := 9) Try.underlying34 Try.underlying5 Try.underlying9 (hS1.below byteF_firm hb2)
  have c2 := convert_bytes (P := Try.prog) (src := 34) (dst := 9) Try.underlying34 Try.underlying5 Try.underlying9 hS2
  clear H1 H2 hS1 hS2
  go_wp2
  go_ret
  exact ⟨ret_bool (by simp), (by repeat (first | exact Below.refl _ _ | assumption | refine below_step ?_ (by assumption) | refine below_step ?_ (Joins.below_draws _ _ _) | (refine Below.alloc ?_ (by first | omega | (simp; done) | (simp; omega)) _) | (refine Below.setCell ?_ (by first | omega | (simp; done) | (simp; omega)) _) | refine Below.drew ?_))⟩
end Go.Proofs.Ytciomaeieggbiaa
