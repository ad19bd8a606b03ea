/-
  The walks of arena, third part: a place given back.
-/
import Derived.Test.YtciomaeieggbiaaArnY
import Derived.StillTailTactics
namespace Go.Proofs.Ytciomaeieggbiaa
open Go.RowKit
set_option linter.unusedVariables false
set_option linter.unusedSimpArgs false

theorem cell_bad (B b : Nat) (cs : List Cl) (f c p t : Int) (w : World) (h : ArenaAt B b cs f c w) (hB : B ≤ w.heap.size) (hl : cs.length ≤ 2000) (hf : ¬ cellFault cs p t = 0) :
    Calls Try.prog 54 #[.pointer (some ⟨b, 0, none⟩), .agg #[.int .i64 p, .int .i64 t]] w fun e w' => e = .returned (.tuple #[.pointer none, .int .i64 (cellFault cs p t)]) ∧ Below w.heap.size w w' := by
  by_cases h1 : p < 0
  · have e : cellFault cs p t = 6 := by unfold cellFault; rw [if_neg (by omega)]
    rw [e]; exact cell_low B b cs f c p t w h hB hl h1
  · by_cases h2 : (cs.length : Int) ≤ p
    · have e : cellFault cs p t = 6 := by unfold cellFault; rw [if_neg (by omega)]
      rw [e]; exact cell_high B b cs f c p t w h hB hl h2
    · by_cases h3 : t < 1
      · have e : cellFault cs p t = 6 := by unfold cellFault; rw [if_neg (by omega)]
        rw [e]; exact cell_early B b cs f c p t w h hB hl (by omega) (by omega) h3
      · by_cases h4 : ((cs.getD p.toNat default).turn : Int) < t
        · have e : cellFault cs p t = 6 := by unfold cellFault; rw [if_neg (by omega)]
          rw [e]; exact cell_later B b cs f c p t w h hB hl (by omega) (by omega) (by omega) h4
        · have hin : (0 ≤ p ∧ p ≤ (cs.length : Int) - 1) ∧ (1 ≤ t ∧ t ≤ ((cs.getD p.toNat default).turn : Int)) := by omega
          by_cases h5 : (cs.getD p.toNat default).used = false
          · have e : cellFault cs p t = 17 := by unfold cellFault; rw [if_pos hin, if_pos (Or.inl h5)]
            rw [e]; exact cell_unused B b cs f c p t w h hB hl (by omega) (by omega) (by omega) (by omega) h5
          · by_cases h6 : ((cs.getD p.toNat default).turn : Int) ≠ t
            · have e : cellFault cs p t = 17 := by unfold cellFault; rw [if_pos hin, if_pos (Or.inr h6)]
              rw [e]; exact cell_other B b cs f c p t w h hB hl (by omega) (by omega) (by omega) (by omega) (by simpa using h5) h6
            · exact absurd (by unfold cellFault; rw [if_pos hin, if_neg (by rintro (h | h); exact h5 h; exact h6 h)]) hf
/-- What a handle that is good says. -/
theorem cellFault_good {cs : List Cl} {p t : Int} (hf : cellFault cs p t = 0) : ∃ q tn : Nat, ∃ hq : q < cs.length, p = q ∧ t = tn ∧ 1 ≤ tn ∧ cs[q].used = true ∧ cs[q].turn = tn := by
  unfold cellFault at hf
  by_cases hin : (0 ≤ p ∧ p ≤ (cs.length : Int) - 1) ∧ (1 ≤ t ∧ t ≤ ((cs.getD p.toNat default).turn : Int))
  · rw [if_pos hin] at hf
    by_cases h5 : (cs.getD p.toNat default).used = false ∨ ((cs.getD p.toNat default).turn : Int) ≠ t
    · rw [if_pos h5] at hf; omega
    · have hq : p.toNat < cs.length := by omega
      have hgd : cs.getD p.toNat default = cs[p.toNat] := by simp [List.getD, List.getElem?_eq_getElem hq]
      rw [hgd] at h5
      refine ⟨p.toNat, t.toNat, hq, by omega, by omega, by omega, ?_, ?_⟩
      · cases hu : cs[p.toNat].used
        · exact absurd (Or.inl hu) h5
        · rfl
      · by_cases e : (cs[p.toNat].turn : Int) = t
        · omega
        · exact absurd (Or.inr e) h5
  · rw [if_neg hin] at hf; omega

theorem ArenaAt.drew {B b : Nat} {cs : List Cl} {f c : Int} {w : World} (h : ArenaAt B b cs f c w) : ArenaAt B b cs f c w.drew := h
theorem Spares.drew {b : Nat} {w w' : World} (h : Spares b w w') : Spares b w w'.drew := h
theorem arena_is {B b m : Nat} {v : Value} {cs : List Cl} {f c : Int} {w : World} (hB : B ≤ b) (h1 : w.heap[b]? = some (.cells #[v, .int .i64 f, .int .i64 c] 62 (0, 0))) (h2 : w.ownsRow B 115 4 v m (cs.flatMap clC)) (hm : m = cs.length) : ArenaAt B b cs f c w := by
  subst hm; exact ⟨hB, v, h1, h2⟩
def BackPost (B b : Nat) (cs : List Cl) (f c : Int) (n code : Int) (w : World) (e : Ending) (w' : World) : Prop :=
  e = .returned (.tuple #[.int .i64 n, .int .i64 code]) ∧ ArenaAt B b cs f c w' ∧ Below B w w' ∧ Spares b w w'
set_option maxHeartbeats 400000 in
set_option maxRecDepth 100000 in
theorem back_bad (B b : Nat) (cs : List Cl) (f c p t : Int) (w : World) (h : ArenaAt B b cs f c w) (hB : B ≤ w.heap.size) (hl : cs.length ≤ 2000) (hf : ¬ cellFault cs p t = 0) :
    Calls Try.prog 55 #[.pointer (some ⟨b, 0, none⟩), .agg #[.int .i64 p, .int .i64 t]] w (BackPost B b cs f c 0 (cellFault cs p t) w) := by
  have HA := Lib.hid h
  have HC : Hid (∀ wx, Below w.heap.size w wx → Calls Try.prog 54 #[.pointer (some ⟨b, 0, none⟩), .agg #[.int .i64 p, .int .i64 t]] wx fun e w' => e = .returned (.tuple #[.pointer none, .int .i64 (cellFault cs p t)]) ∧ Below wx.heap.size wx w') := fun wx hb => cell_bad B b cs f c p t wx (h.below hb) (Nat.le_trans hB hb.size) hl hf
  have hq : (cellFault cs p t != 0) = true := by simpa using hf
  clear h hf
  generalize cellFault cs p t = code at HC hq ⊢
  go_enter Try.func55, Try.ntmps55
  go_wp2_with fail
  refine (HC.out _ (by repeat (first | exact Below.refl _ _ | assumption | refine below_step ?_ (by assumption) | refine below_step ?_ (Joins.below_draws _ _ _) | (refine Below.alloc ?_ (by first | omega | (simp; done) | (simp; omega)) _) | (refine Below.setCell ?_ (by first | omega | (simp; done) | (simp; omega)) _) | refine Below.drew ?_))).mono ?_
  rintro e w1 ⟨rfl, hb1⟩
  go_wp2
  go_ret2
  exact ⟨rfl, still_arena HA.out (by repeat (first | exact Below.refl _ _ | assumption | refine below_step ?_ (by assumption) | refine below_step ?_ (Joins.below_draws _ _ _) | (refine Below.alloc ?_ (by first | omega | (simp; done) | (simp; omega)) _) | (refine Below.setCell ?_ (by first | omega | (simp; done) | (simp; omega)) _) | refine Below.drew ?_)) hB⟩
set_option maxHeartbeats 1000000 in
set_option maxRecDepth 100000 in
theorem back_good (B b : Nat) (cs : List Cl) (f : Int) (c q t : Nat) (w : World) (h : ArenaAt B b cs f c w) (hB : B ≤ w.heap.size) (hl : cs.length ≤ 2000) (hq : q < cs.length) (ht : 1 ≤ t) (hu : cs[q].used = true) (hne : cs[q].turn = t) (hc : 1 ≤ c) (hc2 : c ≤ 120) :
    Calls Try.prog 55 #[.pointer (some ⟨b, 0, none⟩), .agg #[.int .i64 q, .int .i64 t]] w (BackPost B b (cs.set q ⟨false, cs[q].turn, 0, f⟩) q ((c : Int) - 1) cs[q].number 0 w) := by
  have HA := Lib.hid h
  have HC : Hid (∀ wx, Below w.heap.size w wx → Calls Try.prog 54 #[.pointer (some ⟨b, 0, none⟩), .agg #[.int .i64 q, .int .i64 t]] wx fun e w' => ∃ g n cap, wx.heap[b]? = some (.cells #[.slice (some ⟨g, 0, none⟩) n cap, .int .i64 f, .int .i64 c] 62 (0, 0)) ∧ e = .returned (.tuple #[.pointer (some ⟨g, q * 4, none⟩), .int .i64 0]) ∧ Below wx.heap.size wx w') := fun wx hb => cell_good B b cs f c q t wx (h.below hb) (Nat.le_trans hB hb.size) hl hq ht hu hne
  clear h
  go_enter Try.func55, Try.ntmps55
  go_wp2_with fail
  refine (HC.out _ (by repeat (first | exact Below.refl _ _ | assumption | refine below_step ?_ (by assumption) | refine below_step ?_ (Joins.below_draws _ _ _) | (refine Below.alloc ?_ (by first | omega | (simp; done) | (simp; omega)) _) | (refine Below.setCell ?_ (by first | omega | (simp; done) | (simp; omega)) _) | refine Below.drew ?_))).mono ?_
  rintro e w1 ⟨g1, n1, cap1, hk1, rfl, hb1⟩
  have hA1 := HA.out.below (show Below w.heap.size w w1 from (by repeat (first | exact Below.refl _ _ | assumption | refine below_step ?_ (by assumption) | refine below_step ?_ (Joins.below_draws _ _ _) | (refine Below.alloc ?_ (by first | omega | (simp; done) | (simp; omega)) _) | (refine Below.setCell ?_ (by first | omega | (simp; done) | (simp; omega)) _) | refine Below.drew ?_)))
  obtain ⟨ao, m, cap, hm, hm1, hm2, c0, c1, c2, fz, hbk, hown, hg⟩ := hA1.open
  obtain ⟨g, rfl, hgb, hBg, hglt, fg, hcells⟩ := hg (by omega)
  have hbw1 := hb1.block b (by have := HA.out.lt; simp; omega)
  rw [hk1] at hbw1
  rw [hbk] at hbw1
  simp only [Option.some.injEq, Obj.cells.injEq] at hbw1
  obtain ⟨rfl, rfl, rfl⟩ : g = g1 ∧ m = n1 ∧ cap = cap1 := by simpa using hbw1.1
  have hr1 : w1.heap[w.heap.size]? = some (.cells #[.int .i64 q, .int .i64 t] 64 (0, 0)) := by
    rw [hb1.block w.heap.size (by simp)]; exact heap_alloc_new w _
  have hgr : g ≠ w.heap.size := fun e => own_ne_at hown hr1 (by decide) (by simp [Value.ownBlock, e])
  have hlt1 := hA1.lt
  have hltw := HA.out.lt
  have r0 : w1.cell? ⟨w.heap.size, 0, none⟩ = some (.int .i64 q) := by rw [Lib.cell_of_heap hr1]; rfl
  have hbr : b ≠ w.heap.size := by omega
  have hgb2 : b ≠ g := fun e => hgb e.symm
  obtain ⟨d0, d1, d2, d3⟩ := hcells q hq
  have HO := Lib.hid hown
  have HK := Lib.hid hbk
  have HM := Lib.hid hm
  have hb1s := hb1.size
  simp only [World.size_alloc] at hb1s
  have HB1 : Hid (Below w.heap.size w w1) := by show Below _ _ _; exact (by repeat (first | exact Below.refl _ _ | assumption | refine below_step ?_ (by assumption) | refine below_step ?_ (Joins.below_draws _ _ _) | (refine Below.alloc ?_ (by first | omega | (simp; done) | (simp; omega)) _) | (refine Below.setCell ?_ (by first | omega | (simp; done) | (simp; omega)) _) | refine Below.drew ?_))
  clear hown hbk hk1 hbw1 hm hcells hA1 HC hb1 hr1
  generalize hx : cs[q] = x at d0 d1 d2 d3 hu hne ⊢
  have HX := Lib.hid hx
  clear hx
  obtain ⟨u, tu, nn, nx⟩ := x
  simp only at d0 d1 d2 d3 hu hne ⊢
  subst hu hne
  have hc' : (c : Int) ≤ 120 := by omega
  go_wp2_with fail
  go_region
  all_goals go_wp2
  go_ret2
  have hbB := HA.out.1
  have T1 := ArenaAt.store hbB HK.out HO.out HM.out hgb q hq 0 (by omega) ⟨false, tu, nn, nx⟩ (.bool false) (by rw [HX.out]; rfl)
  have T2 := ArenaAt.store hbB T1.1 T1.2 (by rw [List.length_set]; exact HM.out) hgb q (by rw [List.length_set]; exact hq) 2 (by omega) ⟨false, tu, 0, nx⟩ (.int .i64 0) (by rw [List.getElem_set_self]; rfl)
  have T3 := ArenaAt.store hbB T2.1 T2.2 (by rw [List.length_set, List.length_set]; exact HM.out) hgb q (by rw [List.length_set, List.length_set]; exact hq) 3 (by omega) ⟨false, tu, 0, f⟩ (.int .i64 f) (by rw [List.getElem_set_self]; rfl)
  have S4 := (arena_put T3.1 T3.2 hgb (.int .i64 q)).1
  have S5 := (arena_put S4.1 S4.2 hgb (.int .i64 ((c : Int) - 1))).2
  rw [List.set_set, List.set_set] at S5
  have e1 : cs[q].turn = tu := by rw [HX.out]
  have e2 : cs[q].number = nn := by rw [HX.out]
  unfold BackPost
  rw [e1, e2]
  have hlx : (cs.set q ⟨false, tu, 0, f⟩).length = m := by rw [List.length_set, HM.out]
  have hA : ArenaAt B b (cs.set q ⟨false, tu, 0, f⟩) q ((c : Int) - 1) _ := arena_is hbB S5.1 S5.2 hlx.symm
  refine ⟨rfl, hA.drew, ?_, ?_⟩
  · exact (HB1.out.mono hB).trans (Below.drew (((((Below.refl B w1).setCell (p := ⟨g, q * 4, none⟩) hBg _).setCell (p := ⟨g, q * 4 + 2, none⟩) hBg _).setCell (p := ⟨g, q * 4 + 3, none⟩) hBg _).setCell (p := ⟨b, 1, none⟩) hbB _ |>.setCell (p := ⟨b, 2, none⟩) hbB _))
  · refine ((Spares.below hltw HB1.out).trans (spares_of HK.out (v' := .slice (some ⟨g, 0, none⟩) m cap) S5.1 (Or.inl rfl) (fun k hk hkb hkv => ?_)) (by omega)).drew
    have hkg : k ≠ g := fun e => hkv (by simp [Value.ownBlock, e])
    have p1 : ∀ o, k ≠ (⟨b, o, none⟩ : Addr).block := fun o => hkb
    have p2 : ∀ o, k ≠ (⟨g, o, none⟩ : Addr).block := fun o => hkg
    rw [Below.heap_setCell _ _ _ _ (p1 _), Below.heap_setCell _ _ _ _ (p1 _), Below.heap_setCell _ _ _ _ (p2 _), Below.heap_setCell _ _ _ _ (p2 _), Below.heap_setCell _ _ _ _ (p2 _)]
end Go.Proofs.Ytciomaeieggbiaa
