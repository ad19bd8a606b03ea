/-
  The walks of arena, fifth part: whatever job.
-/
import Derived.Test.YtciomaeieggbiaaArnD
namespace Go.Proofs.Ytciomaeieggbiaa
open Go.RowKit
set_option linter.unusedVariables false
set_option linter.unusedSimpArgs false

theorem fault_same {k : Nat} {cs : List Cl} {f : Int} {c : Nat} {bs : List Bx} {fr : List Nat} (h : Stands k cs f c bs fr) (p t : Int) : boxFault bs p t = cellFault cs p t := by
  have hcl : bs.length = cs.length := by rw [h.boxes, List.length_map]
  unfold boxFault cellFault
  have b1 : ∀ x : Cl, x.box.number = x.number := fun _ => rfl
  have b2 : ∀ x : Cl, x.box.turn = x.turn := fun _ => rfl
  rw [hcl, h.boxes, box_getD]
  simp only [b1, b2]
  by_cases hin : (0 ≤ p ∧ p ≤ (cs.length : Int) - 1) ∧ (1 ≤ t ∧ t ≤ ((cs.getD p.toNat default).turn : Int))
  · have hq : p.toNat < cs.length := by omega
    have hgd : cs.getD p.toNat default = cs[p.toNat] := by simp [List.getD, List.getElem?_eq_getElem hq]
    have hu := h.used _ (List.getElem_mem hq)
    rw [hgd] at hin ⊢
    rw [if_pos hin, if_pos hin]
    by_cases hn : cs[p.toNat].number = 0
    · rw [if_pos (Or.inl hn), if_pos (Or.inl (by rw [hu]; simp [hn]))]
    · have hu' : cs[p.toNat].used = true := by rw [hu]; simp [hn]
      by_cases ht : (cs[p.toNat].turn : Int) ≠ t
      · rw [if_pos (Or.inr ht), if_pos (Or.inr ht)]
      · rw [if_neg (by rintro (e | e); exact hn e; exact ht e), if_neg (by rintro (e | e); rw [hu'] at e; cases e; exact ht e)]
  · rw [if_neg hin, if_neg hin]
/-- A job's cells. -/
def jbV (j : Jb) : Value := .agg #[.int .i64 j.kind, .int .i64 j.number, .int .i64 j.place, .int .i64 j.turn]
theorem do_any (B b : Nat) (cs : List Cl) (f : Int) (c k : Nat) (bs : List Bx) (fr : List Nat) (j : Jb) (w : World) (h : ArenaAt B b cs f c w) (hB : B ≤ w.heap.size) (hS : Stands k cs f c bs fr) (hk : k ≤ 2000) :
    Calls Try.prog 23 #[.pointer (some ⟨b, 0, none⟩), jbV j] w fun e w' => ∃ (cs' : List Cl) (f' : Int) (c' : Nat), Stands (k + 1) cs' f' c' (stepS bs fr j).1.1 (stepS bs fr j).1.2 ∧ DoPost B b cs' f' c' (stepS bs fr j).2 w e w' := by
  obtain ⟨kind, n, p, t⟩ := j
  unfold jbV
  simp only
  have hcl : bs.length = cs.length := by rw [hS.boxes, List.length_map]
  have hl : cs.length ≤ 2000 := by have := hS.many; omega
  have hcnt := hS.count
  by_cases k1 : kind = 1
  · subst k1
    have e0 : stepS bs fr ⟨1, n, p, t⟩ = lendS bs fr n := by unfold stepS; rw [if_pos rfl]
    rw [e0]
    by_cases hn : 1 ≤ n ∧ n ≤ 1048576
    · by_cases hc : c = 120
      · have e1 : lendS bs fr n = ((bs, fr), ⟨8, 0, 0, 0⟩) := by unfold lendS; rw [if_pos hn, if_pos (by omega)]
        rw [e1]
        subst hc
        exact (do_lend B b cs cs f f 120 120 8 n p t 0 0 w h hB (fun wx hA hBx => lend_full B b cs f n wx hA hBx hn)).mono fun e w' hd => ⟨cs, f, 120, hS.later, hd⟩
      · have hcm := hS.most
        by_cases hf : f < 0
        · obtain ⟨rfl, rfl, e1, hS'⟩ := stands_lend_new hS hf n hn hc
          rw [e1]
          exact (do_lend B b cs _ (-1) (-1) c ((c : Int) + 1) 0 n p t cs.length 1 w h hB (fun wx hA hBx => lend_new B b cs c n wx hA hBx hn (by omega) hl)).mono fun e w' hd => ⟨_, -1, c + 1, hS', hd⟩
        · obtain ⟨i, r, hi, rfl, rfl, hti, e1, hS'⟩ := stands_lend_old hS hf n hn hc
          rw [e1]
          exact (do_lend B b cs _ i _ c ((c : Int) + 1) 0 n p t i (cs[i].turn + 1 : Nat) w h hB (fun wx hA hBx => lend_old B b cs c i n wx hA hBx hn (by omega) hi (by omega))).mono fun e w' hd => ⟨_, _, c + 1, hS', hd⟩
    · have e1 : lendS bs fr n = ((bs, fr), ⟨2, 0, 0, 0⟩) := by unfold lendS; rw [if_neg hn]
      rw [e1]
      exact (do_lend B b cs cs f f c c 2 n p t 0 0 w h hB (fun wx hA hBx => lend_range B b cs f c n wx hA hBx hn)).mono fun e w' hd => ⟨cs, f, c, hS.later, hd⟩
  · by_cases k4 : kind = 4
    · subst k4
      have e0 : stepS bs fr ⟨4, n, p, t⟩ = ((bs, fr), ⟨0, (bs.length - fr.length : Nat), 0, 0⟩) := by unfold stepS; rw [if_neg (by show ¬ (4 : Int) = 1; omega), if_pos rfl]
      have e2 : ((bs.length - fr.length : Nat) : Int) = c := by omega
      rw [e0, e2]
      exact (do_count B b cs f c n p t w h hB).mono fun e w' hd => ⟨cs, f, c, hS.later, hd⟩
    · by_cases k23 : kind = 2 ∨ kind = 3
      · have e0 : stepS bs fr ⟨kind, n, p, t⟩ = (if boxFault bs p t = 0 then ((if kind = 3 then (bs.set p.toNat ⟨(bs.getD p.toNat default).turn, 0⟩, p.toNat :: fr) else (bs, fr)), ⟨0, (bs.getD p.toNat default).number, 0, 0⟩) else ((bs, fr), ⟨boxFault bs p t, 0, 0, 0⟩)) := by
          unfold stepS; rw [if_neg k1, if_neg k4, if_pos k23]
        rw [e0, fault_same hS]
        by_cases hf : cellFault cs p t = 0
        · rw [if_pos hf]
          obtain ⟨q, tn, hq, rfl, rfl, ht1, hu, htn⟩ := cellFault_good hf
          have hgd : cs.getD q default = cs[q] := by simp [List.getD, List.getElem?_eq_getElem hq]
          have hbd : bs.getD q default = cs[q].box := by rw [hS.boxes, box_getD, hgd]
          have hnn : cs[q].number ≠ 0 := by
            have := hS.used _ (List.getElem_mem hq)
            rw [hu] at this
            simpa using this.symm
          simp only [Int.toNat_natCast, hbd]
          rcases k23 with k2 | k3
          · subst k2
            rw [if_neg (by omega)]
            exact (do_look_good B b cs f c n q tn w h hB hl hq ht1 hu htn).mono fun e w' hd => ⟨cs, f, c, hS.later, hd⟩
          · subst k3
            rw [if_pos rfl]
            obtain ⟨hc1, hS'⟩ := stands_back hS q hq hnn
            have e3 : ((c - 1 : Nat) : Int) = (c : Int) - 1 := by omega
            have hcm := hS.most
            exact (do_back B b cs _ f q c ((c : Int) - 1) 0 cs[q].number n q tn w h hB (fun wx hA hBx => back_good B b cs f c q tn wx hA hBx hl hq ht1 hu htn hc1 hcm)).mono fun e w' hd => ⟨_, q, c - 1, hS', by rw [e3]; exact hd⟩
        · rw [if_neg hf]
          rcases k23 with k2 | k3
          · subst k2
            exact (do_look_bad B b cs f c n p t w h hB hl hf).mono fun e w' hd => ⟨cs, f, c, hS.later, hd⟩
          · subst k3
            exact (do_back B b cs cs f f c c (cellFault cs p t) 0 n p t w h hB (fun wx hA hBx => back_bad B b cs f c p t wx hA hBx hl hf)).mono fun e w' hd => ⟨cs, f, c, hS.later, hd⟩
      · have e0 : stepS bs fr ⟨kind, n, p, t⟩ = ((bs, fr), ⟨3, 0, 0, 0⟩) := by unfold stepS; rw [if_neg k1, if_neg k4, if_neg k23]
        rw [e0]
        exact (do_kind B b cs f c kind n p t w h hB k1 (by omega) (by omega) k4).mono fun e w' hd => ⟨cs, f, c, hS.later, hd⟩
end Go.Proofs.Ytciomaeieggbiaa
