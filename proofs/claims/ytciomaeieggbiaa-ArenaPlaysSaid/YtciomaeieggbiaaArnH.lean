/-
  The walk of the reference of arena.
-/
import Derived.Test.YtciomaeieggbiaaArnG
namespace Go.Proofs.Ytciomaeieggbiaa
open Go.RowKit
set_option linter.unusedVariables false
set_option linter.unusedSimpArgs false

theorem stands_step {k : Nat} {cs : List Cl} {f : Int} {c : Nat} {bs : List Bx} {fr : List Nat} (hS : Stands k cs f c bs fr) (j : Jb) : ∃ (cs' : List Cl) (f' : Int) (c' : Nat), Stands (k + 1) cs' f' c' (stepS bs fr j).1.1 (stepS bs fr j).1.2 := by
  obtain ⟨kind, n, p, t⟩ := j
  have hcl : bs.length = cs.length := by rw [hS.boxes, List.length_map]
  have hcnt := hS.count
  by_cases k1 : kind = 1
  · subst k1
    have e0 : stepS bs fr ⟨1, n, p, t⟩ = lendS bs fr n := by unfold stepS; rw [if_pos rfl]
    rw [e0]
    by_cases hn : 1 ≤ n ∧ n ≤ 1048576
    · by_cases hc : c = 120
      · have e1 : lendS bs fr n = ((bs, fr), ⟨8, 0, 0, 0⟩) := by unfold lendS; rw [if_pos hn, if_pos (by omega)]
        rw [e1]; exact ⟨cs, f, c, hS.later⟩
      · by_cases hf : f < 0
        · obtain ⟨rfl, rfl, e1, hS'⟩ := stands_lend_new hS hf n hn hc
          rw [e1]; exact ⟨_, _, _, hS'⟩
        · obtain ⟨i, r, hi, rfl, rfl, hti, e1, hS'⟩ := stands_lend_old hS hf n hn hc
          rw [e1]; exact ⟨_, _, _, hS'⟩
    · have e1 : lendS bs fr n = ((bs, fr), ⟨2, 0, 0, 0⟩) := by unfold lendS; rw [if_neg hn]
      rw [e1]; exact ⟨cs, f, c, hS.later⟩
  · by_cases k4 : kind = 4
    · subst k4
      have e0 : stepS bs fr ⟨4, n, p, t⟩ = ((bs, fr), ⟨0, (bs.length - fr.length : Nat), 0, 0⟩) := by unfold stepS; rw [if_neg (by show ¬ (4 : Int) = 1; omega), if_pos rfl]
      rw [e0]; exact ⟨cs, f, c, hS.later⟩
    · by_cases k23 : kind = 2 ∨ kind = 3
      · have e0 : stepS bs fr ⟨kind, n, p, t⟩ = (if boxFault bs p t = 0 then ((if kind = 3 then (bs.set p.toNat ⟨(bs.getD p.toNat default).turn, 0⟩, p.toNat :: fr) else (bs, fr)), ⟨0, (bs.getD p.toNat default).number, 0, 0⟩) else ((bs, fr), ⟨boxFault bs p t, 0, 0, 0⟩)) := by
          unfold stepS; rw [if_neg k1, if_neg k4, if_pos k23]
        rw [e0, fault_same hS]
        by_cases hf : cellFault cs p t = 0
        · rw [if_pos hf]
          obtain ⟨q, tn, hq, rfl, rfl, ht1, hu, htn⟩ := cellFault_good hf
          have hgd : cs.getD q default = cs[q] := by simp [List.getD, List.getElem?_eq_getElem hq]
          have hbd : bs.getD q default = cs[q].box := by rw [hS.boxes, box_getD, hgd]
          have hnn : cs[q].number ≠ 0 := by
            have := hS.used _ (List.getElem_mem hq)
            rw [hu] at this
            simpa using this.symm
          simp only [Int.toNat_natCast, hbd]
          rcases k23 with k2 | k3
          · subst k2
            rw [if_neg (by omega)]; exact ⟨cs, f, c, hS.later⟩
          · subst k3
            rw [if_pos rfl]
            exact ⟨_, _, _, (stands_back hS q hq hnn).2⟩
        · rw [if_neg hf]; exact ⟨cs, f, c, hS.later⟩
      · have e0 : stepS bs fr ⟨kind, n, p, t⟩ = ((bs, fr), ⟨3, 0, 0, 0⟩) := by unfold stepS; rw [if_neg k1, if_neg k4, if_neg k23]
        rw [e0]; exact ⟨cs, f, c, hS.later⟩

def RefPost (l : List Jb) (w : World) (e : Ending) (w' : World) : Prop := PlayPost l w e w'
set_option maxHeartbeats 1000000 in
set_option maxRecDepth 100000 in
theorem jobbed_many (F : Nat → Prop) (ao : Option Addr) (n cap : Nat) (l : List Jb) (w : World) (hL : SlF F w 4 jbF ao n cap l) (h2 : 2000 < n) : Calls Try.prog 9 #[.slice ao n cap] w (PlayPost l w) := by
  have hle := hL.le
  have h2' : (2000 : Int) < n := by omega
  have HV : Hid (playV l = []) := by show _ = _; unfold playV; rw [if_pos (by have := hL.len; omega)]
  have HE : Hid (2000 < l.length) := by show _ < _; have := hL.len; omega
  unfold PlayPost
  rw [HV.out, if_pos HE.out]
  go_enter Try.func9, Try.ntmps9
  go_wp2
  go_ret2
  exact ⟨none, 0, rfl, Below.refl _ _, SlF.nil⟩
theorem grown_refs {B k : Nat} {o bx fe : Value} {bs : List Bx} {fr : List Nat} {acc : List Fd} {w w' : World} (hO : OwnF none_ B w 68 4 fdF o acc) (hB : BoxAt B bx bs w) (hF : FreeAt B fe fr w) (hg : w.grownBy w' o.ownBlock) : BoxAt B bx bs w' ∧ FreeAt B fe fr w' := by
  obtain ⟨rs, h3, _⟩ := hO
  exact ⟨hB.same fun g hgb hlt => hg.block g hlt (fun e => apart hB h3 (by decide) g hgb e.symm), hF.same fun g hgb hlt => hg.block g hlt (fun e => apart hF h3 (by decide) g hgb e.symm)⟩
/-- A round's place in the loop: what stands ahead of it. -/
structure RefAt (B k : Nat) (o bx fe : Value) (bs : List Bx) (fr : List Nat) (acc : List Fd) (w : World) : Prop where
  out : OwnF none_ B w 68 4 fdF o acc
  box : BoxAt B bx bs w
  free : FreeAt B fe fr w
  len : acc.length = k
  stands : ∃ cs f c, Stands k cs f c bs fr
set_option maxHeartbeats 60000000 in
set_option maxRecDepth 100000 in
theorem jobbed_few (F : Nat → Prop) (ao : Option Addr) (n cap : Nat) (l : List Jb) (w : World) (hL : SlF F w 4 jbF ao n cap l) (h2 : ¬ 2000 < n) : Calls Try.prog 9 #[.slice ao n cap] w (PlayPost l w) := by
  have hle := hL.le
  have h2' : ¬ (2000 : Int) < n := by omega
  have HV : Hid ([] ++ runS [] [] (l.drop 0) = playV l) := by show _ = _; unfold playV; rw [if_neg (by have := hL.len; omega)]; rfl
  have HE : Hid (¬ 2000 < l.length) := by show ¬ _ < _; have := hL.len; omega
  have NL : Hid (n = l.length) := hL.len
  obtain ⟨i0, hi, hz0, hz1, hz2⟩ := info_parts info_found
  obtain ⟨i1, hi1, hy0, hy1, hy2⟩ := info_parts info_box
  obtain ⟨i2, hi2, hx0, hx1, hx2⟩ := info_parts info_int6
  unfold PlayPost
  rw [if_neg HE.out]
  generalize playV l = V at HV ⊢
  go_enter Try.func9, Try.ntmps9
  go_wp2_with fail
  go_loopw [4, 5, 6, 7] (fun o bx fe i wr => ∃ (k : Nat) (bs : List Bx) (fr : List Nat) (acc : List Fd), k ≤ n ∧ i = .int .i64 k ∧ Below w.heap.size w wr ∧ RefAt w.heap.size k o bx fe bs fr acc wr ∧ Hid (acc ++ runS bs fr (l.drop k) = V)) (fun _ _ _ i _ => n - (intOf i).toNat)
  case atStart => exact ⟨0, [], [], [], by omega, rfl, (by repeat (first | exact Below.refl _ _ | assumption | refine below_step ?_ (by assumption) | refine below_step ?_ (Joins.below_draws _ _ _) | (refine Below.alloc ?_ (by first | omega | (simp; done) | (simp; omega)) _) | (refine Below.setCell ?_ (by first | omega | (simp; done) | (simp; omega)) _) | refine Below.drew ?_)), ⟨OwnF.empty, box_new _ _, free_new _ _, rfl, ⟨_, _, _, stands_new⟩⟩, HV.out⟩
  case round =>
    obtain ⟨k, bs, fr, acc, hk, rfl, hbr, hR, XX⟩ := hrel
    obtain ⟨hO, hBX, hFR, hal, ⟨cs, f, c, hS⟩⟩ := hR
    obtain ⟨ra, rc, rfl⟩ := hO.slice
    rw [hal] at hO ⊢
    obtain ⟨ba, bc, rfl, hbc1, hbc2⟩ := hBX.slice
    obtain ⟨fa, fc, rfl, hfc1, hfc2⟩ := hFR.slice
    have hwr := hbr.size
    by_cases hlt : k < n
    · have hkl : k < l.length := by have := NL.out; omega
      have hk2 : k ≤ 2000 := by omega
      obtain ⟨b, off, row, hix, hblt, hrow, hrr⟩ := (hL.below jbF_firm hbr).toR.index (P := Try.prog) Try.underlying22 size_job (i := k) hkl
      have hrr2 : row = jbC l[k] := hrr
      subst hrr2
      have HX2 : Hid ((acc ++ [(stepS bs fr l[k]).2]) ++ runS (stepS bs fr l[k]).1.1 (stepS bs fr l[k]).1.2 (l.drop (k + 1)) = V) := by
        show _ = _
        rw [← XX.out, runS_at hkl]; simp
      have HS2 := Lib.hid (stands_step hS l[k])
      generalize l[k] = j at hrow HX2 HS2
      have hcnt := hS.count
      have hmany := hS.many
      have hcl : bs.length = cs.length := by rw [hS.boxes, List.length_map]
      have hnfle : fr.length ≤ bs.length := by omega
      have HSS := Lib.hid hS
      obtain ⟨jk, jn, jp, jt⟩ := j
      obtain ⟨c0, c1, c2, c3, c4, c5⟩ := hrow.four
      simp only at c0 c1 c2 c3 c4 c5
      have OR := Lib.hid hO
      have BX := Lib.hid hBX
      have FR := Lib.hid hFR
      have AL := Lib.hid hal
      clear hO hBX hFR hal hS XX hrr HV
      obtain ⟨nb, hnb⟩ : ∃ nb, nb = bs.length := ⟨_, rfl⟩
      obtain ⟨nf, hnf⟩ : ∃ nf, nf = fr.length := ⟨_, rfl⟩
      have NB := Lib.hid hnb
      have NF := Lib.hid hnf
      rw [← hnb] at BX hbc1 hcnt hmany hcl hnfle ⊢
      rw [← hnf] at FR hfc1 hcnt hnfle ⊢
      have HCL := Lib.hid hcl
      have HCN := Lib.hid hcnt
      clear hnb hnf hcl hcnt
      by_cases k1 : jk = 1
      · subst k1
        by_cases hn : 1 ≤ jn ∧ jn ≤ 1048576
        · have HI := Lib.hid (in_is jn 1 1048576 true (inB_true.2 hn))
          by_cases hfull : 120 ≤ nb - nf
          · as_aux_lemma =>
            have E : Hid (stepS bs fr ⟨1, jn, jp, jt⟩ = ((bs, fr), ⟨8, 0, 0, 0⟩)) := by show _ = _; unfold stepS lendS; rw [if_pos rfl, if_pos hn, if_pos (by rw [← NB.out, ← NF.out]; omega)]
            have h120 : (120 : Int) ≤ (nb : Int) - nf := by omega
            clear hn
            rw [E.out] at HX2 HS2
            have O6 := Lib.hid (OR.out.kept fdF_firm (w' := (((wr.alloc (.cells #[.int .i64 1, .int .i64 jn, .int .i64 jp, .int .i64 jt] 66)).alloc (.cells #[.int .i64 (8), .int .i64 (0), .int .i64 (0), .int .i64 (0)] 68)).alloc (.cells #[.int .i64 jp, .int .i64 jt] 64)).alloc (.cells #[.int .i64 (8), .int .i64 (0), .int .i64 (0), .int .i64 (0)] 68)) (by simp only [World.size_alloc]; omega) (fun g _ hg => by rw [Below.heap_alloc _ _ _ (by simp only [World.size_alloc]; omega), Below.heap_alloc _ _ _ (by simp only [World.size_alloc]; omega), Below.heap_alloc _ _ _ (by simp only [World.size_alloc]; omega), Below.heap_alloc _ _ _ hg]))
            have BX6 := Lib.hid (BX.out.same (w' := (((wr.alloc (.cells #[.int .i64 1, .int .i64 jn, .int .i64 jp, .int .i64 jt] 66)).alloc (.cells #[.int .i64 (8), .int .i64 (0), .int .i64 (0), .int .i64 (0)] 68)).alloc (.cells #[.int .i64 jp, .int .i64 jt] 64)).alloc (.cells #[.int .i64 (8), .int .i64 (0), .int .i64 (0), .int .i64 (0)] 68)) (fun g _ hg => by rw [Below.heap_alloc _ _ _ (by simp only [World.size_alloc]; omega), Below.heap_alloc _ _ _ (by simp only [World.size_alloc]; omega), Below.heap_alloc _ _ _ (by simp only [World.size_alloc]; omega), Below.heap_alloc _ _ _ hg]))
            have FR6 := Lib.hid (FR.out.same (w' := (((wr.alloc (.cells #[.int .i64 1, .int .i64 jn, .int .i64 jp, .int .i64 jt] 66)).alloc (.cells #[.int .i64 (8), .int .i64 (0), .int .i64 (0), .int .i64 (0)] 68)).alloc (.cells #[.int .i64 jp, .int .i64 jt] 64)).alloc (.cells #[.int .i64 (8), .int .i64 (0), .int .i64 (0), .int .i64 (0)] 68)) (fun g _ hg => by rw [Below.heap_alloc _ _ _ (by simp only [World.size_alloc]; omega), Below.heap_alloc _ _ _ (by simp only [World.size_alloc]; omega), Below.heap_alloc _ _ _ (by simp only [World.size_alloc]; omega), Below.heap_alloc _ _ _ hg]))
            have CN : Hid (∀ q u, (fdC ⟨8, 0, 0, 0⟩)[q]? = some u → ((((wr.alloc (.cells #[.int .i64 1, .int .i64 jn, .int .i64 jp, .int .i64 jt] 66)).alloc (.cells #[.int .i64 (8), .int .i64 (0), .int .i64 (0), .int .i64 (0)] 68)).alloc (.cells #[.int .i64 jp, .int .i64 jt] 64)).alloc (.cells #[.int .i64 (8), .int .i64 (0), .int .i64 (0), .int .i64 (0)] 68)).cell? ((⟨wr.heap.size + 1 + 1 + 1, 0, none⟩ : Addr).add q) = some u) := fun q u hu => by
              have hh := heap_alloc_new (((wr.alloc (.cells #[.int .i64 1, .int .i64 jn, .int .i64 jp, .int .i64 jt] 66)).alloc (.cells #[.int .i64 (8), .int .i64 (0), .int .i64 (0), .int .i64 (0)] 68)).alloc (.cells #[.int .i64 jp, .int .i64 jt] 64)) (.cells #[.int .i64 (8), .int .i64 (0), .int .i64 (0), .int .i64 (0)] 68)
              simp only [World.size_alloc] at hh
              rw [Go.WideShapes.add_plain, Nat.zero_add, Lib.cell_of_heap hh]
              simpa [fdC] using hu
            go_wp2_with (first
              | (go_at_call 24; (with_reducible refine (HI.out _).mono ?_); rintro e w' ⟨rfl, rfl⟩)
              | (at_builtin; go_loud (refine wpList_append_F rfl _ _ 23 rfl w.heap.size 68 i0 (.agg #[.int .i64 0, .int .i64 0, .int .i64 0, .int .i64 0]) 4 32 Try.underlying23 hi hz0 hz1 hz2 rfl (by decide) _ k rfl O6.out AL.out fdF_firm ⟨8, 0, 0, 0⟩ _ ⟨wr.heap.size + 1 + 1 + 1, 0, none⟩ rfl rfl CN.out (fd_one ⟨8, 0, 0, 0⟩) rfl (by omega) (by decide) (by simp; omega) ?_); intro ra5 rc5 w5 hown' hgrow hb5)
              | fail)
            obtain ⟨BX5, FR5⟩ := grown_refs (k := k) O6.out BX6.out FR6.out hgrow
            rw [NB.out, NF.out]
            exact ⟨⟨k + 1, bs, fr, _, by omega, by go_num, (Below.alloc (Below.alloc (Below.alloc (Below.alloc hbr (by omega) _) (by simp; omega) _) (by simp; omega) _) (by simp; omega) _).trans hb5, ⟨hown', by rw [← NB.out]; exact BX5, by rw [← NF.out]; exact FR5, by rw [List.length_append, AL.out]; rfl, HS2.out⟩, HX2.out⟩, by simp [intOf]; omega⟩
          · by_cases hf0 : fr.length = 0
            · as_aux_lemma =>
              obtain rfl : fr = [] := List.eq_nil_of_length_eq_zero hf0
              have hnf0 : nf = 0 := by rw [NF.out]; rfl
              subst hnf0
              have E : Hid (stepS bs [] ⟨1, jn, jp, jt⟩ = ((bs ++ [⟨1, jn⟩], []), ⟨0, 0, nb, 1⟩)) := by show _ = _; unfold stepS lendS; rw [if_pos rfl, if_pos hn, if_neg (by rw [← NB.out, ← NF.out]; exact hfull)]; simp only [NB.out]
              rw [E.out] at HX2 HS2
              have h120 : ¬ (120 : Int) ≤ (nb : Int) := by omega
              have hn1 := hn.1
              clear hn hfull hf0 E
              have e8 : (((wr.alloc (.cells #[.int .i64 1, .int .i64 jn, .int .i64 jp, .int .i64 jt] 66)).alloc (.cells #[.int .i64 0, .int .i64 0, .int .i64 0, .int .i64 0] 68)).alloc (.cells #[.int .i64 jp, .int .i64 jt] 64)).heap[wr.heap.size]? = some (.cells #[.int .i64 1, .int .i64 jn, .int .i64 jp, .int .i64 jt] 66 (0, 0)) := by
                rw [Below.heap_alloc _ _ _ (by simp only [World.size_alloc]; omega), Below.heap_alloc _ _ _ (by simp only [World.size_alloc]; omega)]; exact heap_alloc_new wr _
              have e9 : (((wr.alloc (.cells #[.int .i64 1, .int .i64 jn, .int .i64 jp, .int .i64 jt] 66)).alloc (.cells #[.int .i64 0, .int .i64 0, .int .i64 0, .int .i64 0] 68)).alloc (.cells #[.int .i64 jp, .int .i64 jt] 64)).heap[wr.heap.size + 1]? = some (.cells #[.int .i64 0, .int .i64 0, .int .i64 0, .int .i64 0] 68 (0, 0)) := by
                rw [Below.heap_alloc _ _ _ (by simp only [World.size_alloc]; omega)]
                have := heap_alloc_new (wr.alloc (.cells #[.int .i64 1, .int .i64 jn, .int .i64 jp, .int .i64 jt] 66)) (.cells #[.int .i64 0, .int .i64 0, .int .i64 0, .int .i64 0] 68)
                simpa only [World.size_alloc] using this
              have e10 : (((wr.alloc (.cells #[.int .i64 1, .int .i64 jn, .int .i64 jp, .int .i64 jt] 66)).alloc (.cells #[.int .i64 0, .int .i64 0, .int .i64 0, .int .i64 0] 68)).alloc (.cells #[.int .i64 jp, .int .i64 jt] 64)).heap[wr.heap.size + 1 + 1]? = some (.cells #[.int .i64 jp, .int .i64 jt] 64 (0, 0)) := by
                have := heap_alloc_new ((wr.alloc (.cells #[.int .i64 1, .int .i64 jn, .int .i64 jp, .int .i64 jt] 66)).alloc (.cells #[.int .i64 0, .int .i64 0, .int .i64 0, .int .i64 0] 68)) (.cells #[.int .i64 jp, .int .i64 jt] 64)
                simpa only [World.size_alloc] using this
              have hlow3 : ∀ g, g < wr.heap.size → (((wr.alloc (.cells #[.int .i64 1, .int .i64 jn, .int .i64 jp, .int .i64 jt] 66)).alloc (.cells #[.int .i64 0, .int .i64 0, .int .i64 0, .int .i64 0] 68)).alloc (.cells #[.int .i64 jp, .int .i64 jt] 64)).heap[g]? = wr.heap[g]? := fun g hg => by
                rw [Below.heap_alloc _ _ _ (by simp only [World.size_alloc]; omega), Below.heap_alloc _ _ _ (by simp only [World.size_alloc]; omega), Below.heap_alloc _ _ _ hg]
              have BXa : Hid (World.ownsRow (((((wr.alloc (.cells #[.int .i64 1, .int .i64 jn, .int .i64 jp, .int .i64 jt] 66)).alloc (.cells #[.int .i64 0, .int .i64 0, .int .i64 0, .int .i64 0] 68)).alloc (.cells #[.int .i64 jp, .int .i64 jt] 64))).alloc (.cells #[.int .i64 0, .int .i64 0] 74)) w.heap.size 74 2 (.slice ba nb bc) nb (bs.flatMap bxC)) := by
                have h0 := BX.out
                unfold BoxAt at h0
                rw [← NB.out] at h0
                exact Lib.hid ((((h0.alloc _).alloc _).alloc _).alloc _)
              have CN1 : Hid (∀ q u, (bxC ⟨0, 0⟩)[q]? = some u → ((((wr.alloc (.cells #[.int .i64 1, .int .i64 jn, .int .i64 jp, .int .i64 jt] 66)).alloc (.cells #[.int .i64 0, .int .i64 0, .int .i64 0, .int .i64 0] 68)).alloc (.cells #[.int .i64 jp, .int .i64 jt] 64)).alloc (.cells #[.int .i64 0, .int .i64 0] 74)).cell? ((⟨wr.heap.size + 1 + 1 + 1, 0, none⟩ : Addr).add q) = some u) := fun q u hu => by
                have hh := heap_alloc_new (((wr.alloc (.cells #[.int .i64 1, .int .i64 jn, .int .i64 jp, .int .i64 jt] 66)).alloc (.cells #[.int .i64 0, .int .i64 0, .int .i64 0, .int .i64 0] 68)).alloc (.cells #[.int .i64 jp, .int .i64 jt] 64)) (.cells #[.int .i64 0, .int .i64 0] 74)
                simp only [World.size_alloc] at hh
                rw [Go.WideShapes.add_plain, Nat.zero_add, Lib.cell_of_heap hh]
                simpa [bxC] using hu
              have E8 := Lib.hid e8
              have E9 := Lib.hid e9
              have E10 := Lib.hid e10
              have L3 := Lib.hid hlow3
              clear e8 e9 e10 hlow3
              go_wp2_with (first
                | (go_at_call 24; (with_reducible refine (HI.out _).mono ?_); rintro e w' ⟨rfl, rfl⟩)
                | (at_builtin; (refine wpList_append_own_at _ rfl _ _ 70 rfl w.heap.size 74 i1 (.agg #[.int .i64 0, .int .i64 0]) 2 16 Try.underlying70 hi1 hy0 hy1 hy2 rfl (by decide) _ nb _ rfl BXa.out ⟨wr.heap.size + 1 + 1 + 1, 0, none⟩ 1 1 (bxC ⟨0, 0⟩) rfl rfl CN1.out box_one (by unfold maxLen; omega) (by omega) (by simp; omega) ?_); intro v' w4 hown4 hgrow4 _ hob4; go_loud (obtain ⟨gb, cap', rfl, hcp1, hcp2, hBgb, hgb, fzb, d0, d1, k8, k9, k10, m0, m1, m2, HB4, hkeep, hs4⟩ := box_grown (r0 := .nilIface) (T := 3) BX.out NB.out rfl L3.out (by simp) E8.out E9.out E10.out hgrow4 hown4); go_loud (obtain ⟨O6, BX6, FR6, CN6⟩ := box_done (jn := jn) BX.out NB.out rfl OR.out FR.out HB4 hkeep m1 hs4); (have GR4 := Lib.hid hgrow4); clear hgrow4 hown4 hob4 hkeep HB4; obtain ⟨x0, x1, x2, x3, xf⟩ := four_cells k8; obtain ⟨y0, y1, y2, y3, yf⟩ := four_cells k9; obtain ⟨z0, z1, zf⟩ := two_cells k10; (have m0' : wr.heap.size < w4.heap.size := (by omega)); (have m1' : wr.heap.size + 1 < w4.heap.size := (by omega)); (have m2' : wr.heap.size + 1 + 1 < w4.heap.size := (by omega)); (have m1n : wr.heap.size + 1 ≠ gb := fun e => m1 e.symm); (have m0n : wr.heap.size ≠ gb := fun e => m0 e.symm); (have m2n : wr.heap.size + 1 + 1 ≠ gb := fun e => m2 e.symm))
                | (at_builtin; go_loud (refine wpList_append_F rfl _ _ 23 rfl w.heap.size 68 i0 (.agg #[.int .i64 0, .int .i64 0, .int .i64 0, .int .i64 0]) 4 32 Try.underlying23 hi hz0 hz1 hz2 rfl (by decide) _ k rfl O6.out AL.out fdF_firm ⟨0, 0, nb, 1⟩ _ ⟨w4.heap.size, 0, none⟩ rfl rfl CN6.out (fd_one ⟨0, 0, nb, 1⟩) rfl (by omega) (by decide) (by simp; omega) ?_); intro ra5 rc5 w5 hown' hgrow hb5)
                | fail)
              obtain ⟨BX5, FR5⟩ := grown_refs (k := k) O6.out BX6.out FR6.out hgrow
              have hln : (bs ++ [(⟨1, jn⟩ : Bx)]).length = nb + 1 := by simp [NB.out]
              exact ⟨⟨k + 1, bs ++ [(⟨1, jn⟩ : Bx)], [], _, by omega, by go_num, (Below.alloc (Below.setCell (Below.setCell (Below.setCell (Below.setCell ((Below.alloc (Below.alloc (Below.alloc (Below.alloc hbr (by omega) _) (by simp; omega) _) (by simp; omega) _) (by simp; omega) _).grown GR4.out (by simp; omega) (fun g hg => (World.ownsRow.lt (show World.ownsRow _ _ _ _ _ _ _ from BX.out) g hg).1)) (p := ⟨gb, nb * 2, none⟩) hBgb _) (p := ⟨gb, nb * 2 + 1, none⟩) hBgb _) (p := ⟨wr.heap.size + 1, 2, none⟩) (by show w.heap.size ≤ wr.heap.size + 1; omega) _) (p := ⟨wr.heap.size + 1, 3, none⟩) (by show w.heap.size ≤ wr.heap.size + 1; omega) _) (by simp; omega) _).trans hb5, ⟨hown', BX5, FR5, by rw [List.length_append, AL.out]; rfl, HS2.out⟩, HX2.out⟩, by simp [intOf]; omega⟩
            · as_aux_lemma =>
              obtain ⟨tt, rr, rfl⟩ : ∃ tt rr, fr = tt :: rr := by
                match fr, hf0 with
                | a :: b, _ => exact ⟨a, b, rfl⟩
              obtain ⟨gf, rfl, hBf, hgf, cf, hnf', hFR'⟩ := FR.out.top
              obtain ⟨htl, htz⟩ := HSS.out.free tt (by simp)
              have htb : tt < bs.length := by rw [← NB.out, HCL.out]; exact htl
              have htn : tt < nb := by rw [NB.out]; exact htb
              obtain ⟨gb, rfl, hBb, hgb, fzb, ⟨cur, hcur⟩, hbcells⟩ := BX.out.cells (by omega)
              obtain ⟨d0, d1⟩ := hbcells tt htb
              have hgbf : gb ≠ gf := fun e => apart BX.out FR.out (by decide) gb rfl (by simp [Value.ownBlock, e])
              have htu : bs[tt].turn ≤ 2000 := by
                have h3 : bs[tt] = (cs[tt]'htl).box := by
                  have h4 := HSS.out.boxes
                  subst h4
                  simp
                rw [h3]
                have h5 := HSS.out.turns _ (List.getElem_mem htl)
                show cs[tt].turn ≤ 2000
                omega
              have hbd : bs.getD tt default = bs[tt] := by simp [List.getD, List.getElem?_eq_getElem htb]
              have E : Hid (stepS bs (tt :: rr) ⟨1, jn, jp, jt⟩ = ((bs.set tt ⟨bs[tt].turn + 1, jn⟩, rr), ⟨0, 0, tt, (bs[tt].turn : Int) + 1⟩)) := by show _ = _; unfold stepS lendS; rw [if_pos rfl, if_pos hn, if_neg (by rw [← NB.out, ← NF.out]; exact hfull)]; simp only [hbd]; rw [Int.natCast_add]; rfl
              rw [E.out] at HX2 HS2
              have HBS := Lib.hid (fun (x : Bx) (hx : x = bs[tt]) => hx)
              generalize hbt : bs[tt] = bt at d0 d1 htu HX2 HS2 E
              have HBT := Lib.hid hbt
              obtain ⟨bu, bn⟩ := bt
              simp only at d0 d1 htu HX2 HS2 E
              have h120 : ¬ (120 : Int) ≤ (nb : Int) - nf := by omega
              have hn1 := hn.1
              subst hnf'
              have hrr2 : rr.length ≤ 2000 := by omega
              clear hn hfull hbt hbcells hcur HBS E hf0 hbd
              have hB1 := BX.out.store tt htb 0 (by omega) ⟨bu + 1, bn⟩ (.int .i64 (bu + 1)) (by rw [HBT.out]; simp [bxC]) NB.out
              have hB1' : BoxAt w.heap.size (.slice (some ⟨gb, 0, none⟩) nb bc) (bs.set tt ⟨bu + 1, bn⟩) (wr.setCell ⟨gb, tt * 2, none⟩ (.int .i64 (bu + 1))) := hB1
              clear hB1
              have hB1 := hB1'
              clear hB1'
              have hB2 := hB1.store tt (by rw [List.length_set]; exact htb) 1 (by omega) ⟨bu + 1, jn⟩ (.int .i64 jn) (by rw [List.getElem_set_self]; rfl) (by rw [List.length_set]; exact NB.out)
              rw [List.set_set] at hB2
              have hlow : ∀ g, g < wr.heap.size → g ≠ gb → ((((((wr.setCell ⟨gb, tt * 2, none⟩ (.int .i64 (bu + 1))).setCell ⟨gb, tt * 2 + 1, none⟩ (.int .i64 jn)).alloc (.cells #[.int .i64 1, .int .i64 jn, .int .i64 jp, .int .i64 jt] 66)).alloc (.cells #[.int .i64 0, .int .i64 0, .int .i64 tt, .int .i64 (bu + 1)] 68)).alloc (.cells #[.int .i64 jp, .int .i64 jt] 64)).alloc (.cells #[.int .i64 0, .int .i64 0, .int .i64 tt, .int .i64 (bu + 1)] 68)).heap[g]? = wr.heap[g]? := fun g hg hgn => by
                rw [Below.heap_alloc _ _ _ (by simp; omega), Below.heap_alloc _ _ _ (by simp; omega), Below.heap_alloc _ _ _ (by simp; omega), Below.heap_alloc _ _ _ (by simpa using hg), Below.heap_setCell _ _ _ _ (by simpa using hgn), Below.heap_setCell _ _ _ _ (by simpa using hgn)]
              have O6 := Lib.hid (OR.out.kept fdF_firm (w' := (((((wr.setCell ⟨gb, tt * 2, none⟩ (.int .i64 (bu + 1))).setCell ⟨gb, tt * 2 + 1, none⟩ (.int .i64 jn)).alloc (.cells #[.int .i64 1, .int .i64 jn, .int .i64 jp, .int .i64 jt] 66)).alloc (.cells #[.int .i64 0, .int .i64 0, .int .i64 tt, .int .i64 (bu + 1)] 68)).alloc (.cells #[.int .i64 jp, .int .i64 jt] 64)).alloc (.cells #[.int .i64 0, .int .i64 0, .int .i64 tt, .int .i64 (bu + 1)] 68)) (by simp; omega) (fun g hg1 hg => hlow g hg (fun e => by
                obtain ⟨rs, h3, _⟩ := OR.out
                exact apart BX.out h3 (by decide) gb rfl (by rw [← e]; exact hg1))))
              have BX6 := Lib.hid (hB2.same (w' := (((((wr.setCell ⟨gb, tt * 2, none⟩ (.int .i64 (bu + 1))).setCell ⟨gb, tt * 2 + 1, none⟩ (.int .i64 jn)).alloc (.cells #[.int .i64 1, .int .i64 jn, .int .i64 jp, .int .i64 jt] 66)).alloc (.cells #[.int .i64 0, .int .i64 0, .int .i64 tt, .int .i64 (bu + 1)] 68)).alloc (.cells #[.int .i64 jp, .int .i64 jt] 64)).alloc (.cells #[.int .i64 0, .int .i64 0, .int .i64 tt, .int .i64 (bu + 1)] 68)) (fun g _ hg => by rw [Below.heap_alloc _ _ _ (by simp at hg ⊢; omega), Below.heap_alloc _ _ _ (by simp at hg ⊢; omega), Below.heap_alloc _ _ _ (by simp at hg ⊢; omega), Below.heap_alloc _ _ _ hg]))
              have FR6 := Lib.hid (hFR'.same (w' := (((((wr.setCell ⟨gb, tt * 2, none⟩ (.int .i64 (bu + 1))).setCell ⟨gb, tt * 2 + 1, none⟩ (.int .i64 jn)).alloc (.cells #[.int .i64 1, .int .i64 jn, .int .i64 jp, .int .i64 jt] 66)).alloc (.cells #[.int .i64 0, .int .i64 0, .int .i64 tt, .int .i64 (bu + 1)] 68)).alloc (.cells #[.int .i64 jp, .int .i64 jt] 64)).alloc (.cells #[.int .i64 0, .int .i64 0, .int .i64 tt, .int .i64 (bu + 1)] 68)) (fun g hg1 hg => hlow g hg (fun e => by simp [Value.ownBlock] at hg1; omega)))
              have CN : Hid (∀ q u, (fdC ⟨0, 0, tt, (bu : Int) + 1⟩)[q]? = some u → ((((((wr.setCell ⟨gb, tt * 2, none⟩ (.int .i64 (bu + 1))).setCell ⟨gb, tt * 2 + 1, none⟩ (.int .i64 jn)).alloc (.cells #[.int .i64 1, .int .i64 jn, .int .i64 jp, .int .i64 jt] 66)).alloc (.cells #[.int .i64 0, .int .i64 0, .int .i64 tt, .int .i64 (bu + 1)] 68)).alloc (.cells #[.int .i64 jp, .int .i64 jt] 64)).alloc (.cells #[.int .i64 0, .int .i64 0, .int .i64 tt, .int .i64 (bu + 1)] 68)).cell? ((⟨wr.heap.size + 1 + 1 + 1, 0, none⟩ : Addr).add q) = some u) := fun q u hu => by
                have hh := heap_alloc_new (((((wr.setCell ⟨gb, tt * 2, none⟩ (.int .i64 (bu + 1))).setCell ⟨gb, tt * 2 + 1, none⟩ (.int .i64 jn)).alloc (.cells #[.int .i64 1, .int .i64 jn, .int .i64 jp, .int .i64 jt] 66)).alloc (.cells #[.int .i64 0, .int .i64 0, .int .i64 tt, .int .i64 (bu + 1)] 68)).alloc (.cells #[.int .i64 jp, .int .i64 jt] 64)) (.cells #[.int .i64 0, .int .i64 0, .int .i64 tt, .int .i64 (bu + 1)] 68)
                simp only [World.size_alloc, World.size_setCell] at hh
                rw [Go.WideShapes.add_plain, Nat.zero_add, Lib.cell_of_heap hh]
                simpa [fdC] using hu
              have h3low : ∀ g o, g < wr.heap.size → (((wr.alloc (.cells #[.int .i64 1, .int .i64 jn, .int .i64 jp, .int .i64 jt] 66)).alloc (.cells #[.int .i64 0, .int .i64 0, .int .i64 0, .int .i64 0] 68)).alloc (.cells #[.int .i64 jp, .int .i64 jt] 64)).cell? ⟨g, o, none⟩ = wr.cell? ⟨g, o, none⟩ := fun g o hg => World.cell?_of_block (a := ⟨g, o, none⟩) (by
                rw [Below.heap_alloc _ _ _ (by simp; omega), Below.heap_alloc _ _ _ (by simp; omega), Below.heap_alloc _ _ _ hg])
              have cf3 := (h3low gf rr.length hgf).trans cf
              have d03 := (h3low gb (tt * 2) hgb).trans d0
              have d13 := (h3low gb (tt * 2 + 1) hgb).trans d1
              clear h3low
              have fzb' := fzb
              have hgf1 : gf < wr.heap.size + 1 := by omega
              have hgf2 : gf < wr.heap.size + 1 + 1 := by omega
              have hgb1 : gb < wr.heap.size + 1 := by omega
              have hgb2 : gb < wr.heap.size + 1 + 1 := by omega
              have nf0 : gf ≠ wr.heap.size := by omega
              have nf1 : gf ≠ wr.heap.size + 1 := by omega
              have nf2 : gf ≠ wr.heap.size + 1 + 1 := by omega
              have nb0 : gb ≠ wr.heap.size := by omega
              have nb1 : gb ≠ wr.heap.size + 1 := by omega
              have nb2 : gb ≠ wr.heap.size + 1 + 1 := by omega
              clear hB1 hB2 hlow hFR'
              go_wp2_with (first
                | (go_at_call 24; (with_reducible refine (HI.out _).mono ?_); rintro e w' ⟨rfl, rfl⟩)
                | (at_builtin; go_loud (refine wpList_append_F rfl _ _ 23 rfl w.heap.size 68 i0 (.agg #[.int .i64 0, .int .i64 0, .int .i64 0, .int .i64 0]) 4 32 Try.underlying23 hi hz0 hz1 hz2 rfl (by decide) _ k rfl O6.out AL.out fdF_firm ⟨0, 0, tt, (bu : Int) + 1⟩ _ ⟨wr.heap.size + 1 + 1 + 1, 0, none⟩ rfl rfl CN.out (fd_one ⟨0, 0, tt, (bu : Int) + 1⟩) rfl (by omega) (by decide) (by simp; omega) ?_); intro ra5 rc5 w5 hown' hgrow hb5)
                | fail)
              obtain ⟨BX5, FR5⟩ := grown_refs (k := k) O6.out BX6.out FR6.out hgrow
              exact ⟨⟨k + 1, bs.set tt ⟨bu + 1, jn⟩, rr, _, by omega, by go_num, (Below.alloc (Below.alloc (Below.alloc (Below.alloc ((hbr.setCell (p := ⟨gb, tt * 2, none⟩) hBb _).setCell (p := ⟨gb, tt * 2 + 1, none⟩) hBb _) (by simp; omega) _) (by simp; omega) _) (by simp; omega) _) (by simp; omega) _).trans hb5, ⟨hown', BX5, FR5, by rw [List.length_append, AL.out]; rfl, HS2.out⟩, HX2.out⟩, by simp [intOf]; omega⟩
        · as_aux_lemma =>
          have HI := Lib.hid (in_is jn 1 1048576 false (inB_false.2 (by omega)))
          have E : Hid (stepS bs fr ⟨1, jn, jp, jt⟩ = ((bs, fr), ⟨2, 0, 0, 0⟩)) := by show _ = _; unfold stepS lendS; rw [if_pos rfl, if_neg hn]
          clear hn
          rw [E.out] at HX2 HS2
          have O6 := Lib.hid (OR.out.kept fdF_firm (w' := (((wr.alloc (.cells #[.int .i64 1, .int .i64 jn, .int .i64 jp, .int .i64 jt] 66)).alloc (.cells #[.int .i64 (2), .int .i64 (0), .int .i64 (0), .int .i64 (0)] 68)).alloc (.cells #[.int .i64 jp, .int .i64 jt] 64)).alloc (.cells #[.int .i64 (2), .int .i64 (0), .int .i64 (0), .int .i64 (0)] 68)) (by simp only [World.size_alloc]; omega) (fun g _ hg => by rw [Below.heap_alloc _ _ _ (by simp only [World.size_alloc]; omega), Below.heap_alloc _ _ _ (by simp only [World.size_alloc]; omega), Below.heap_alloc _ _ _ (by simp only [World.size_alloc]; omega), Below.heap_alloc _ _ _ hg]))
          have BX6 := Lib.hid (BX.out.same (w' := (((wr.alloc (.cells #[.int .i64 1, .int .i64 jn, .int .i64 jp, .int .i64 jt] 66)).alloc (.cells #[.int .i64 (2), .int .i64 (0), .int .i64 (0), .int .i64 (0)] 68)).alloc (.cells #[.int .i64 jp, .int .i64 jt] 64)).alloc (.cells #[.int .i64 (2), .int .i64 (0), .int .i64 (0), .int .i64 (0)] 68)) (fun g _ hg => by rw [Below.heap_alloc _ _ _ (by simp only [World.size_alloc]; omega), Below.heap_alloc _ _ _ (by simp only [World.size_alloc]; omega), Below.heap_alloc _ _ _ (by simp only [World.size_alloc]; omega), Below.heap_alloc _ _ _ hg]))
          have FR6 := Lib.hid (FR.out.same (w' := (((wr.alloc (.cells #[.int .i64 1, .int .i64 jn, .int .i64 jp, .int .i64 jt] 66)).alloc (.cells #[.int .i64 (2), .int .i64 (0), .int .i64 (0), .int .i64 (0)] 68)).alloc (.cells #[.int .i64 jp, .int .i64 jt] 64)).alloc (.cells #[.int .i64 (2), .int .i64 (0), .int .i64 (0), .int .i64 (0)] 68)) (fun g _ hg => by rw [Below.heap_alloc _ _ _ (by simp only [World.size_alloc]; omega), Below.heap_alloc _ _ _ (by simp only [World.size_alloc]; omega), Below.heap_alloc _ _ _ (by simp only [World.size_alloc]; omega), Below.heap_alloc _ _ _ hg]))
          have CN : Hid (∀ q u, (fdC ⟨2, 0, 0, 0⟩)[q]? = some u → ((((wr.alloc (.cells #[.int .i64 1, .int .i64 jn, .int .i64 jp, .int .i64 jt] 66)).alloc (.cells #[.int .i64 (2), .int .i64 (0), .int .i64 (0), .int .i64 (0)] 68)).alloc (.cells #[.int .i64 jp, .int .i64 jt] 64)).alloc (.cells #[.int .i64 (2), .int .i64 (0), .int .i64 (0), .int .i64 (0)] 68)).cell? ((⟨wr.heap.size + 1 + 1 + 1, 0, none⟩ : Addr).add q) = some u) := fun q u hu => by
            have hh := heap_alloc_new (((wr.alloc (.cells #[.int .i64 1, .int .i64 jn, .int .i64 jp, .int .i64 jt] 66)).alloc (.cells #[.int .i64 (2), .int .i64 (0), .int .i64 (0), .int .i64 (0)] 68)).alloc (.cells #[.int .i64 jp, .int .i64 jt] 64)) (.cells #[.int .i64 (2), .int .i64 (0), .int .i64 (0), .int .i64 (0)] 68)
            simp only [World.size_alloc] at hh
            rw [Go.WideShapes.add_plain, Nat.zero_add, Lib.cell_of_heap hh]
            simpa [fdC] using hu
          go_wp2_with (first
            | (go_at_call 24; (with_reducible refine (HI.out _).mono ?_); rintro e w' ⟨rfl, rfl⟩)
            | (at_builtin; go_loud (refine wpList_append_F rfl _ _ 23 rfl w.heap.size 68 i0 (.agg #[.int .i64 0, .int .i64 0, .int .i64 0, .int .i64 0]) 4 32 Try.underlying23 hi hz0 hz1 hz2 rfl (by decide) _ k rfl O6.out AL.out fdF_firm ⟨2, 0, 0, 0⟩ _ ⟨wr.heap.size + 1 + 1 + 1, 0, none⟩ rfl rfl CN.out (fd_one ⟨2, 0, 0, 0⟩) rfl (by omega) (by decide) (by simp; omega) ?_); intro ra5 rc5 w5 hown' hgrow hb5)
            | fail)
          obtain ⟨BX5, FR5⟩ := grown_refs (k := k) O6.out BX6.out FR6.out hgrow
          rw [NB.out, NF.out]
          exact ⟨⟨k + 1, bs, fr, _, by omega, by go_num, (Below.alloc (Below.alloc (Below.alloc (Below.alloc hbr (by omega) _) (by simp; omega) _) (by simp; omega) _) (by simp; omega) _).trans hb5, ⟨hown', by rw [← NB.out]; exact BX5, by rw [← NF.out]; exact FR5, by rw [List.length_append, AL.out]; rfl, HS2.out⟩, HX2.out⟩, by simp [intOf]; omega⟩
      · by_cases k4 : jk = 4
        · as_aux_lemma =>
          subst k4
          have E : Hid (stepS bs fr ⟨4, jn, jp, jt⟩ = ((bs, fr), ⟨0, (nb : Int) - nf, 0, 0⟩)) := by show _ = _; unfold stepS; rw [if_neg (by show ¬ (4 : Int) = 1; omega), if_pos rfl, ← NB.out, ← NF.out, Int.ofNat_sub hnfle]
          rw [E.out] at HX2 HS2
          have O6 := Lib.hid (OR.out.kept fdF_firm (w' := (((wr.alloc (.cells #[.int .i64 4, .int .i64 jn, .int .i64 jp, .int .i64 jt] 66)).alloc (.cells #[.int .i64 (0), .int .i64 ((nb : Int) - nf), .int .i64 (0), .int .i64 (0)] 68)).alloc (.cells #[.int .i64 jp, .int .i64 jt] 64)).alloc (.cells #[.int .i64 (0), .int .i64 ((nb : Int) - nf), .int .i64 (0), .int .i64 (0)] 68)) (by simp only [World.size_alloc]; omega) (fun g _ hg => by rw [Below.heap_alloc _ _ _ (by simp only [World.size_alloc]; omega), Below.heap_alloc _ _ _ (by simp only [World.size_alloc]; omega), Below.heap_alloc _ _ _ (by simp only [World.size_alloc]; omega), Below.heap_alloc _ _ _ hg]))
          have BX6 := Lib.hid (BX.out.same (w' := (((wr.alloc (.cells #[.int .i64 4, .int .i64 jn, .int .i64 jp, .int .i64 jt] 66)).alloc (.cells #[.int .i64 (0), .int .i64 ((nb : Int) - nf), .int .i64 (0), .int .i64 (0)] 68)).alloc (.cells #[.int .i64 jp, .int .i64 jt] 64)).alloc (.cells #[.int .i64 (0), .int .i64 ((nb : Int) - nf), .int .i64 (0), .int .i64 (0)] 68)) (fun g _ hg => by rw [Below.heap_alloc _ _ _ (by simp only [World.size_alloc]; omega), Below.heap_alloc _ _ _ (by simp only [World.size_alloc]; omega), Below.heap_alloc _ _ _ (by simp only [World.size_alloc]; omega), Below.heap_alloc _ _ _ hg]))
          have FR6 := Lib.hid (FR.out.same (w' := (((wr.alloc (.cells #[.int .i64 4, .int .i64 jn, .int .i64 jp, .int .i64 jt] 66)).alloc (.cells #[.int .i64 (0), .int .i64 ((nb : Int) - nf), .int .i64 (0), .int .i64 (0)] 68)).alloc (.cells #[.int .i64 jp, .int .i64 jt] 64)).alloc (.cells #[.int .i64 (0), .int .i64 ((nb : Int) - nf), .int .i64 (0), .int .i64 (0)] 68)) (fun g _ hg => by rw [Below.heap_alloc _ _ _ (by simp only [World.size_alloc]; omega), Below.heap_alloc _ _ _ (by simp only [World.size_alloc]; omega), Below.heap_alloc _ _ _ (by simp only [World.size_alloc]; omega), Below.heap_alloc _ _ _ hg]))
          have CN : Hid (∀ q u, (fdC ⟨0, (nb : Int) - nf, 0, 0⟩)[q]? = some u → ((((wr.alloc (.cells #[.int .i64 4, .int .i64 jn, .int .i64 jp, .int .i64 jt] 66)).alloc (.cells #[.int .i64 (0), .int .i64 ((nb : Int) - nf), .int .i64 (0), .int .i64 (0)] 68)).alloc (.cells #[.int .i64 jp, .int .i64 jt] 64)).alloc (.cells #[.int .i64 (0), .int .i64 ((nb : Int) - nf), .int .i64 (0), .int .i64 (0)] 68)).cell? ((⟨wr.heap.size + 1 + 1 + 1, 0, none⟩ : Addr).add q) = some u) := fun q u hu => by
            have hh := heap_alloc_new (((wr.alloc (.cells #[.int .i64 4, .int .i64 jn, .int .i64 jp, .int .i64 jt] 66)).alloc (.cells #[.int .i64 (0), .int .i64 ((nb : Int) - nf), .int .i64 (0), .int .i64 (0)] 68)).alloc (.cells #[.int .i64 jp, .int .i64 jt] 64)) (.cells #[.int .i64 (0), .int .i64 ((nb : Int) - nf), .int .i64 (0), .int .i64 (0)] 68)
            simp only [World.size_alloc] at hh
            rw [Go.WideShapes.add_plain, Nat.zero_add, Lib.cell_of_heap hh]
            simpa [fdC] using hu
          go_wp2_with (first
            | (at_builtin; go_loud (refine wpList_append_F rfl _ _ 23 rfl w.heap.size 68 i0 (.agg #[.int .i64 0, .int .i64 0, .int .i64 0, .int .i64 0]) 4 32 Try.underlying23 hi hz0 hz1 hz2 rfl (by decide) _ k rfl O6.out AL.out fdF_firm ⟨0, (nb : Int) - nf, 0, 0⟩ _ ⟨wr.heap.size + 1 + 1 + 1, 0, none⟩ rfl rfl CN.out (fd_one ⟨0, (nb : Int) - nf, 0, 0⟩) rfl (by omega) (by decide) (by simp; omega) ?_); intro ra5 rc5 w5 hown' hgrow hb5)
            | fail)
          obtain ⟨BX5, FR5⟩ := grown_refs (k := k) O6.out BX6.out FR6.out hgrow
          rw [NB.out, NF.out]
          exact ⟨⟨k + 1, bs, fr, _, by omega, by go_num, (Below.alloc (Below.alloc (Below.alloc (Below.alloc hbr (by omega) _) (by simp; omega) _) (by simp; omega) _) (by simp; omega) _).trans hb5, ⟨hown', by rw [← NB.out]; exact BX5, by rw [← NF.out]; exact FR5, by rw [List.length_append, AL.out]; rfl, HS2.out⟩, HX2.out⟩, by simp [intOf]; omega⟩
        · by_cases k23 : jk = 2 ∨ jk = 3
          · rcases k23 with rfl | rfl
            · by_cases hp : 0 ≤ jp ∧ jp ≤ (nb : Int) - 1
              · obtain ⟨q, rfl⟩ : ∃ q : Nat, jp = q := ⟨jp.toNat, by omega⟩
                have hqn : q < nb := by omega
                have hqb : q < bs.length := by rw [← NB.out]; exact hqn
                obtain ⟨gb, rfl, hBb, hgb, fzb, ⟨cur, hcur⟩, hbcells⟩ := BX.out.cells (by omega)
                obtain ⟨d0, d1⟩ := hbcells q hqb
                have hbd : bs.getD q default = bs[q] := by simp [List.getD, List.getElem?_eq_getElem hqb]
                have HI1 := Lib.hid (in_is (q : Int) 0 ((nb : Int) - 1) true (inB_true.2 (by omega)))
                have hqi : (q : Int) < nb := by omega
                have L3 := lies_new wr (.int .i64 2) (.int .i64 jn) (.int .i64 (q : Int)) (.int .i64 jt) (.int .i64 0) (.int .i64 0) (.int .i64 0) (.int .i64 0) (.int .i64 (q : Int)) (.int .i64 jt)
                have D30 := L3.cell (o := q * 2) hgb
                rw [d0] at D30
                have D31 := L3.cell (o := q * 2 + 1) hgb
                rw [d1] at D31
                have HCUR := Lib.hid hcur
                clear hbcells hcur L3 hp
                by_cases hin : 1 ≤ jt ∧ jt ≤ (bs[q].turn : Int)
                · by_cases hg : bs[q].number = 0 ∨ (bs[q].turn : Int) ≠ jt
                  · have hF : boxFault bs (q : Int) jt = 17 := by unfold boxFault; rw [if_pos ⟨by rw [← NB.out]; omega, by rw [Int.toNat_natCast, hbd]; exact hin⟩, if_pos (by rw [Int.toNat_natCast, hbd]; exact hg)]
                    have HI2 := Lib.hid (in_is jt 1 (bs[q].turn : Int) true (inB_true.2 hin))
                    have E : Hid (stepS bs fr ⟨2, jn, (q : Int), jt⟩ = ((bs, fr), ⟨17, 0, 0, 0⟩)) := by show _ = _; unfold stepS; rw [if_neg (by show ¬ (2 : Int) = 1; omega), if_neg (by show ¬ (2 : Int) = 4; omega), if_pos (by simp), hF, if_neg (by omega)]
                    rw [E.out] at HX2 HS2
                    clear E hF
                    generalize hbt : bs[q] = bt at d0 d1 D30 D31 HI2 hg
                    have HBT := Lib.hid hbt
                    clear hbt
                    obtain ⟨bu, bn⟩ := bt
                    simp only at d0 d1 D30 D31 HI2 hg
                    clear hin hbd
                    by_cases hz : bn = 0
                    · as_aux_lemma =>
                      subst hz
                      go_wp2_with fail
                      go_quiet (first | (go_at_call 24; with_reducible refine Calls.quiet_of_same (HI1.out _)) | (go_at_call 24; with_reducible refine Calls.quiet_of_same (HI2.out _)))
                      rename_i nq
                      have LZ := (lies_new wr (.int .i64 2) (.int .i64 jn) (.int .i64 (q : Int)) (.int .i64 jt) (.int .i64 0) (.int .i64 0) (.int .i64 0) (.int .i64 0) (.int .i64 (q : Int)) (.int .i64 jt)).drewN nq
                      have BZ : Below w.heap.size w (World.drewN (((wr.alloc (.cells #[.int .i64 2, .int .i64 jn, .int .i64 (q : Int), .int .i64 jt] 66)).alloc (.cells #[.int .i64 0, .int .i64 0, .int .i64 0, .int .i64 0] 68)).alloc (.cells #[.int .i64 (q : Int), .int .i64 jt] 64)) nq) := (Below.alloc (Below.alloc (Below.alloc hbr (by omega) _) (by simp; omega) _) (by simp; omega) _).trans (Joins.below_draws _ _ _)
                      generalize World.drewN (((wr.alloc (.cells #[.int .i64 2, .int .i64 jn, .int .i64 (q : Int), .int .i64 jt] 66)).alloc (.cells #[.int .i64 0, .int .i64 0, .int .i64 0, .int .i64 0] 68)).alloc (.cells #[.int .i64 (q : Int), .int .i64 jt] 64)) nq = wz at LZ BZ ⊢
                      have lzs := LZ.size
                      obtain ⟨x0, x1, x2, x3, xf⟩ := four_cells LZ.job
                      obtain ⟨y0, y1, y2, y3, yf⟩ := four_cells LZ.found
                      obtain ⟨z0, z1, zf⟩ := two_cells LZ.handle
                      have lz0 : wr.heap.size < wz.heap.size := by omega
                      have lz1 : wr.heap.size + 1 < wz.heap.size := by omega
                      have lz2 : wr.heap.size + 1 + 1 < wz.heap.size := by omega
                      clear lzs
                      have DD0 := LZ.cell (o := q * 2) hgb
                      rw [d0] at DD0
                      have DD1 := LZ.cell (o := q * 2 + 1) hgb
                      rw [d1] at DD1
                      go_wp2_with fail
                      go_quiet (fail)
                      skip
                      have LY := LZ.drewN nq
                      have BY : Below w.heap.size w (World.drewN wz nq) := BZ.trans (Joins.below_draws _ _ _)
                      clear x0 x1 x2 x3 xf y0 y1 y2 y3 yf z0 z1 zf DD0 DD1
                      generalize World.drewN wz nq = wy at LY BY ⊢
                      clear LZ BZ lz0 lz1 lz2
                      have lys := LY.size
                      obtain ⟨x0, x1, x2, x3, xf⟩ := four_cells LY.job
                      obtain ⟨y0, y1, y2, y3, yf⟩ := four_cells LY.found
                      obtain ⟨z0, z1, zf⟩ := two_cells LY.handle
                      have ly0 : wr.heap.size < wy.heap.size := by omega
                      have ly1 : wr.heap.size + 1 < wy.heap.size := by omega
                      have ly2 : wr.heap.size + 1 + 1 < wy.heap.size := by omega
                      clear lys
                      have DY0 := LY.cell (o := q * 2) hgb
                      rw [d0] at DY0
                      have DY1 := LY.cell (o := q * 2 + 1) hgb
                      rw [d1] at DY1
                      obtain ⟨O6, BX6, FR6, CN6⟩ := lies_done (k := k) LY OR.out BX.out FR.out 0 (.int .i64 17) #[.int .i64 (17), .int .i64 (0), .int .i64 (0), .int .i64 (0)]
                      have LL := Lib.hid LY
                      clear LY
                      have CN : Hid (∀ q v, (fdC ⟨17, 0, 0, 0⟩)[q]? = some v → World.cell? _ ((⟨wy.heap.size, 0, none⟩ : Addr).add q) = some v) := Lib.hid (fun q v hv => CN6.out q v (by simpa [fdC] using hv))
                      go_wp2_with (first
                        | (at_builtin; go_loud (refine wpList_append_F rfl _ _ 23 rfl w.heap.size 68 i0 (.agg #[.int .i64 0, .int .i64 0, .int .i64 0, .int .i64 0]) 4 32 Try.underlying23 hi hz0 hz1 hz2 rfl (by decide) _ k rfl O6.out AL.out fdF_firm ⟨17, 0, 0, 0⟩ _ ⟨wy.heap.size, 0, none⟩ rfl rfl CN.out (fd_one ⟨17, 0, 0, 0⟩) rfl (by omega) (by decide) (by simp; omega) ?_); intro ra5 rc5 w5 hown' hgrow hb5)
                        | fail)
                      obtain ⟨BX5, FR5⟩ := grown_refs (k := k) O6.out BX6.out FR6.out hgrow
                      rw [NB.out, NF.out]
                      exact ⟨⟨k + 1, bs, fr, _, by omega, by go_num, (Below.alloc (Below.setCell BY (p := ⟨wr.heap.size + 1, 0, none⟩) (by show w.heap.size ≤ wr.heap.size + 1; omega) _) (by simp; omega) _).trans hb5, ⟨hown', by rw [← NB.out]; exact BX5, by rw [← NF.out]; exact FR5, by rw [List.length_append, AL.out]; rfl, HS2.out⟩, HX2.out⟩, by simp [intOf]; omega⟩
                    · as_aux_lemma =>
                      have hk1 : (bn == 0) = false := by simpa using hz
                      have hk2 : ((bu : Int) != jt) = true := by rcases hg with hg | hg; exact absurd hg hz; simpa using hg
                      clear hg hz
                      go_wp2_with fail
                      go_quiet (first | (go_at_call 24; with_reducible refine Calls.quiet_of_same (HI1.out _)) | (go_at_call 24; with_reducible refine Calls.quiet_of_same (HI2.out _)))
                      rename_i nq
                      have LZ := (lies_new wr (.int .i64 2) (.int .i64 jn) (.int .i64 (q : Int)) (.int .i64 jt) (.int .i64 0) (.int .i64 0) (.int .i64 0) (.int .i64 0) (.int .i64 (q : Int)) (.int .i64 jt)).drewN nq
                      have BZ : Below w.heap.size w (World.drewN (((wr.alloc (.cells #[.int .i64 2, .int .i64 jn, .int .i64 (q : Int), .int .i64 jt] 66)).alloc (.cells #[.int .i64 0, .int .i64 0, .int .i64 0, .int .i64 0] 68)).alloc (.cells #[.int .i64 (q : Int), .int .i64 jt] 64)) nq) := (Below.alloc (Below.alloc (Below.alloc hbr (by omega) _) (by simp; omega) _) (by simp; omega) _).trans (Joins.below_draws _ _ _)
                      generalize World.drewN (((wr.alloc (.cells #[.int .i64 2, .int .i64 jn, .int .i64 (q : Int), .int .i64 jt] 66)).alloc (.cells #[.int .i64 0, .int .i64 0, .int .i64 0, .int .i64 0] 68)).alloc (.cells #[.int .i64 (q : Int), .int .i64 jt] 64)) nq = wz at LZ BZ ⊢
                      have lzs := LZ.size
                      obtain ⟨x0, x1, x2, x3, xf⟩ := four_cells LZ.job
                      obtain ⟨y0, y1, y2, y3, yf⟩ := four_cells LZ.found
                      obtain ⟨z0, z1, zf⟩ := two_cells LZ.handle
                      have lz0 : wr.heap.size < wz.heap.size := by omega
                      have lz1 : wr.heap.size + 1 < wz.heap.size := by omega
                      have lz2 : wr.heap.size + 1 + 1 < wz.heap.size := by omega
                      clear lzs
                      have DD0 := LZ.cell (o := q * 2) hgb
                      rw [d0] at DD0
                      have DD1 := LZ.cell (o := q * 2 + 1) hgb
                      rw [d1] at DD1
                      go_wp2_with fail
                      go_quiet (fail)
                      skip
                      have LY := LZ.drewN nq
                      have BY : Below w.heap.size w (World.drewN wz nq) := BZ.trans (Joins.below_draws _ _ _)
                      clear x0 x1 x2 x3 xf y0 y1 y2 y3 yf z0 z1 zf DD0 DD1
                      generalize World.drewN wz nq = wy at LY BY ⊢
                      clear LZ BZ lz0 lz1 lz2
                      have lys := LY.size
                      obtain ⟨x0, x1, x2, x3, xf⟩ := four_cells LY.job
                      obtain ⟨y0, y1, y2, y3, yf⟩ := four_cells LY.found
                      obtain ⟨z0, z1, zf⟩ := two_cells LY.handle
                      have ly0 : wr.heap.size < wy.heap.size := by omega
                      have ly1 : wr.heap.size + 1 < wy.heap.size := by omega
                      have ly2 : wr.heap.size + 1 + 1 < wy.heap.size := by omega
                      clear lys
                      have DY0 := LY.cell (o := q * 2) hgb
                      rw [d0] at DY0
                      have DY1 := LY.cell (o := q * 2 + 1) hgb
                      rw [d1] at DY1
                      obtain ⟨O6, BX6, FR6, CN6⟩ := lies_done (k := k) LY OR.out BX.out FR.out 0 (.int .i64 17) #[.int .i64 (17), .int .i64 (0), .int .i64 (0), .int .i64 (0)]
                      have LL := Lib.hid LY
                      clear LY
                      have CN : Hid (∀ q v, (fdC ⟨17, 0, 0, 0⟩)[q]? = some v → World.cell? _ ((⟨wy.heap.size, 0, none⟩ : Addr).add q) = some v) := Lib.hid (fun q v hv => CN6.out q v (by simpa [fdC] using hv))
                      go_wp2_with (first
                        | (at_builtin; go_loud (refine wpList_append_F rfl _ _ 23 rfl w.heap.size 68 i0 (.agg #[.int .i64 0, .int .i64 0, .int .i64 0, .int .i64 0]) 4 32 Try.underlying23 hi hz0 hz1 hz2 rfl (by decide) _ k rfl O6.out AL.out fdF_firm ⟨17, 0, 0, 0⟩ _ ⟨wy.heap.size, 0, none⟩ rfl rfl CN.out (fd_one ⟨17, 0, 0, 0⟩) rfl (by omega) (by decide) (by simp; omega) ?_); intro ra5 rc5 w5 hown' hgrow hb5)
                        | fail)
                      obtain ⟨BX5, FR5⟩ := grown_refs (k := k) O6.out BX6.out FR6.out hgrow
                      rw [NB.out, NF.out]
                      exact ⟨⟨k + 1, bs, fr, _, by omega, by go_num, (Below.alloc (Below.setCell BY (p := ⟨wr.heap.size + 1, 0, none⟩) (by show w.heap.size ≤ wr.heap.size + 1; omega) _) (by simp; omega) _).trans hb5, ⟨hown', by rw [← NB.out]; exact BX5, by rw [← NF.out]; exact FR5, by rw [List.length_append, AL.out]; rfl, HS2.out⟩, HX2.out⟩, by simp [intOf]; omega⟩
                  · as_aux_lemma =>
                    have hF : boxFault bs (q : Int) jt = 0 := by unfold boxFault; rw [if_pos ⟨by rw [← NB.out]; omega, by rw [Int.toNat_natCast, hbd]; exact hin⟩, if_neg (by rw [Int.toNat_natCast, hbd]; exact hg)]
                    have HI2 := Lib.hid (in_is jt 1 (bs[q].turn : Int) true (inB_true.2 hin))
                    have E : Hid (stepS bs fr ⟨2, jn, (q : Int), jt⟩ = ((bs, fr), ⟨0, bs[q].number, 0, 0⟩)) := by show _ = _; unfold stepS; rw [if_neg (by show ¬ (2 : Int) = 1; omega), if_neg (by show ¬ (2 : Int) = 4; omega), if_pos (by simp), hF, if_pos rfl, if_neg (by show ¬ (2 : Int) = 3; omega)]; simp only [Int.toNat_natCast, hbd]
                    rw [E.out] at HX2 HS2
                    clear E hF
                    generalize hbt : bs[q] = bt at d0 d1 D30 D31 HI2 hg HX2 HS2
                    have HBT := Lib.hid hbt
                    clear hbt
                    obtain ⟨bu, bn⟩ := bt
                    simp only at d0 d1 D30 D31 HI2 hg HX2 HS2
                    clear hin hbd
                    have hz : ¬ bn = 0 := fun e => hg (Or.inl e)
                    have hjt : (bu : Int) = jt := Classical.byContradiction fun e => hg (Or.inr e)
                    have hk1 : (bn == 0) = false := by simpa using hz
                    have hk2 : ((bu : Int) != jt) = false := by simpa using hjt
                    clear hg hz hjt
                    go_wp2_with fail
                    go_quiet (first | (go_at_call 24; with_reducible refine Calls.quiet_of_same (HI1.out _)) | (go_at_call 24; with_reducible refine Calls.quiet_of_same (HI2.out _)))
                    rename_i nq
                    have LZ := (lies_new wr (.int .i64 2) (.int .i64 jn) (.int .i64 (q : Int)) (.int .i64 jt) (.int .i64 0) (.int .i64 0) (.int .i64 0) (.int .i64 0) (.int .i64 (q : Int)) (.int .i64 jt)).drewN nq
                    have BZ : Below w.heap.size w (World.drewN (((wr.alloc (.cells #[.int .i64 2, .int .i64 jn, .int .i64 (q : Int), .int .i64 jt] 66)).alloc (.cells #[.int .i64 0, .int .i64 0, .int .i64 0, .int .i64 0] 68)).alloc (.cells #[.int .i64 (q : Int), .int .i64 jt] 64)) nq) := (Below.alloc (Below.alloc (Below.alloc hbr (by omega) _) (by simp; omega) _) (by simp; omega) _).trans (Joins.below_draws _ _ _)
                    generalize World.drewN (((wr.alloc (.cells #[.int .i64 2, .int .i64 jn, .int .i64 (q : Int), .int .i64 jt] 66)).alloc (.cells #[.int .i64 0, .int .i64 0, .int .i64 0, .int .i64 0] 68)).alloc (.cells #[.int .i64 (q : Int), .int .i64 jt] 64)) nq = wz at LZ BZ ⊢
                    have lzs := LZ.size
                    obtain ⟨x0, x1, x2, x3, xf⟩ := four_cells LZ.job
                    obtain ⟨y0, y1, y2, y3, yf⟩ := four_cells LZ.found
                    obtain ⟨z0, z1, zf⟩ := two_cells LZ.handle
                    have lz0 : wr.heap.size < wz.heap.size := by omega
                    have lz1 : wr.heap.size + 1 < wz.heap.size := by omega
                    have lz2 : wr.heap.size + 1 + 1 < wz.heap.size := by omega
                    clear lzs
                    have DD0 := LZ.cell (o := q * 2) hgb
                    rw [d0] at DD0
                    have DD1 := LZ.cell (o := q * 2 + 1) hgb
                    rw [d1] at DD1
                    go_wp2_with fail
                    go_quiet (fail)
                    skip
                    have LY := LZ.drewN nq
                    have BY : Below w.heap.size w (World.drewN wz nq) := BZ.trans (Joins.below_draws _ _ _)
                    clear x0 x1 x2 x3 xf y0 y1 y2 y3 yf z0 z1 zf DD0 DD1
                    generalize World.drewN wz nq = wy at LY BY ⊢
                    clear LZ BZ lz0 lz1 lz2
                    have lys := LY.size
                    obtain ⟨x0, x1, x2, x3, xf⟩ := four_cells LY.job
                    obtain ⟨y0, y1, y2, y3, yf⟩ := four_cells LY.found
                    obtain ⟨z0, z1, zf⟩ := two_cells LY.handle
                    have ly0 : wr.heap.size < wy.heap.size := by omega
                    have ly1 : wr.heap.size + 1 < wy.heap.size := by omega
                    have ly2 : wr.heap.size + 1 + 1 < wy.heap.size := by omega
                    clear lys
                    have DY0 := LY.cell (o := q * 2) hgb
                    rw [d0] at DY0
                    have DY1 := LY.cell (o := q * 2 + 1) hgb
                    rw [d1] at DY1
                    obtain ⟨O6, BX6, FR6, CN6⟩ := lies_done (k := k) LY OR.out BX.out FR.out 1 (.int .i64 bn) #[.int .i64 (0), .int .i64 (bn), .int .i64 (0), .int .i64 (0)]
                    have LL := Lib.hid LY
                    clear LY
                    have CN : Hid (∀ q v, (fdC ⟨0, bn, 0, 0⟩)[q]? = some v → World.cell? _ ((⟨wy.heap.size, 0, none⟩ : Addr).add q) = some v) := Lib.hid (fun q v hv => CN6.out q v (by simpa [fdC] using hv))
                    go_wp2_with (first
                      | (at_builtin; go_loud (refine wpList_append_F rfl _ _ 23 rfl w.heap.size 68 i0 (.agg #[.int .i64 0, .int .i64 0, .int .i64 0, .int .i64 0]) 4 32 Try.underlying23 hi hz0 hz1 hz2 rfl (by decide) _ k rfl O6.out AL.out fdF_firm ⟨0, bn, 0, 0⟩ _ ⟨wy.heap.size, 0, none⟩ rfl rfl CN.out (fd_one ⟨0, bn, 0, 0⟩) rfl (by omega) (by decide) (by simp; omega) ?_); intro ra5 rc5 w5 hown' hgrow hb5)
                      | fail)
                    obtain ⟨BX5, FR5⟩ := grown_refs (k := k) O6.out BX6.out FR6.out hgrow
                    rw [NB.out, NF.out]
                    exact ⟨⟨k + 1, bs, fr, _, by omega, by go_num, (Below.alloc (Below.setCell BY (p := ⟨wr.heap.size + 1, 1, none⟩) (by show w.heap.size ≤ wr.heap.size + 1; omega) _) (by simp; omega) _).trans hb5, ⟨hown', by rw [← NB.out]; exact BX5, by rw [← NF.out]; exact FR5, by rw [List.length_append, AL.out]; rfl, HS2.out⟩, HX2.out⟩, by simp [intOf]; omega⟩
                · as_aux_lemma =>
                  have hF : boxFault bs (q : Int) jt = 6 := by unfold boxFault; rw [if_neg (by rintro ⟨_, h⟩; rw [Int.toNat_natCast, hbd] at h; exact hin h)]
                  have HI2 := Lib.hid (in_is jt 1 (bs[q].turn : Int) false (inB_false.2 (by omega)))
                  have E : Hid (stepS bs fr ⟨2, jn, (q : Int), jt⟩ = ((bs, fr), ⟨6, 0, 0, 0⟩)) := by show _ = _; unfold stepS; rw [if_neg (by show ¬ (2 : Int) = 1; omega), if_neg (by show ¬ (2 : Int) = 4; omega), if_pos (by simp), hF, if_neg (by omega)]
                  rw [E.out] at HX2 HS2
                  clear E hF
                  generalize hbt : bs[q] = bt at d0 d1 D30 D31 HI2
                  have HBT := Lib.hid hbt
                  clear hbt
                  obtain ⟨bu, bn⟩ := bt
                  simp only at d0 d1 D30 D31 HI2
                  clear hin hbd
                  go_wp2_with fail
                  go_quiet (first | (go_at_call 24; with_reducible refine Calls.quiet_of_same (HI1.out _)) | (go_at_call 24; with_reducible refine Calls.quiet_of_same (HI2.out _)))
                  rename_i nq
                  have LZ := (lies_new wr (.int .i64 2) (.int .i64 jn) (.int .i64 (q : Int)) (.int .i64 jt) (.int .i64 0) (.int .i64 0) (.int .i64 0) (.int .i64 0) (.int .i64 (q : Int)) (.int .i64 jt)).drewN nq
                  have BZ : Below w.heap.size w (World.drewN (((wr.alloc (.cells #[.int .i64 2, .int .i64 jn, .int .i64 (q : Int), .int .i64 jt] 66)).alloc (.cells #[.int .i64 0, .int .i64 0, .int .i64 0, .int .i64 0] 68)).alloc (.cells #[.int .i64 (q : Int), .int .i64 jt] 64)) nq) := (Below.alloc (Below.alloc (Below.alloc hbr (by omega) _) (by simp; omega) _) (by simp; omega) _).trans (Joins.below_draws _ _ _)
                  generalize World.drewN (((wr.alloc (.cells #[.int .i64 2, .int .i64 jn, .int .i64 (q : Int), .int .i64 jt] 66)).alloc (.cells #[.int .i64 0, .int .i64 0, .int .i64 0, .int .i64 0] 68)).alloc (.cells #[.int .i64 (q : Int), .int .i64 jt] 64)) nq = wz at LZ BZ ⊢
                  have lzs := LZ.size
                  obtain ⟨x0, x1, x2, x3, xf⟩ := four_cells LZ.job
                  obtain ⟨y0, y1, y2, y3, yf⟩ := four_cells LZ.found
                  obtain ⟨z0, z1, zf⟩ := two_cells LZ.handle
                  have lz0 : wr.heap.size < wz.heap.size := by omega
                  have lz1 : wr.heap.size + 1 < wz.heap.size := by omega
                  have lz2 : wr.heap.size + 1 + 1 < wz.heap.size := by omega
                  clear lzs
                  obtain ⟨O6, BX6, FR6, CN6⟩ := lies_done (k := k) LZ OR.out BX.out FR.out 0 (.int .i64 6) #[.int .i64 (6), .int .i64 (0), .int .i64 (0), .int .i64 (0)]
                  have LL := Lib.hid LZ
                  clear LZ
                  have CN : Hid (∀ q v, (fdC ⟨6, 0, 0, 0⟩)[q]? = some v → World.cell? _ ((⟨wz.heap.size, 0, none⟩ : Addr).add q) = some v) := Lib.hid (fun q v hv => CN6.out q v (by simpa [fdC] using hv))
                  go_wp2_with (first
                    | (at_builtin; go_loud (refine wpList_append_F rfl _ _ 23 rfl w.heap.size 68 i0 (.agg #[.int .i64 0, .int .i64 0, .int .i64 0, .int .i64 0]) 4 32 Try.underlying23 hi hz0 hz1 hz2 rfl (by decide) _ k rfl O6.out AL.out fdF_firm ⟨6, 0, 0, 0⟩ _ ⟨wz.heap.size, 0, none⟩ rfl rfl CN.out (fd_one ⟨6, 0, 0, 0⟩) rfl (by omega) (by decide) (by simp; omega) ?_); intro ra5 rc5 w5 hown' hgrow hb5)
                    | fail)
                  obtain ⟨BX5, FR5⟩ := grown_refs (k := k) O6.out BX6.out FR6.out hgrow
                  rw [NB.out, NF.out]
                  exact ⟨⟨k + 1, bs, fr, _, by omega, by go_num, (Below.alloc (Below.setCell BZ (p := ⟨wr.heap.size + 1, 0, none⟩) (by show w.heap.size ≤ wr.heap.size + 1; omega) _) (by simp; omega) _).trans hb5, ⟨hown', by rw [← NB.out]; exact BX5, by rw [← NF.out]; exact FR5, by rw [List.length_append, AL.out]; rfl, HS2.out⟩, HX2.out⟩, by simp [intOf]; omega⟩
              · as_aux_lemma =>
                have hF : boxFault bs jp jt = 6 := by unfold boxFault; rw [if_neg (by rw [← NB.out]; omega)]
                have HI1 := Lib.hid (in_is jp 0 ((nb : Int) - 1) false (inB_false.2 (by omega)))
                have HI2 := HI1
                have E : Hid (stepS bs fr ⟨2, jn, jp, jt⟩ = ((bs, fr), ⟨6, 0, 0, 0⟩)) := by show _ = _; unfold stepS; rw [if_neg (by show ¬ (2 : Int) = 1; omega), if_neg (by show ¬ (2 : Int) = 4; omega), if_pos (by simp), hF, if_neg (by omega)]
                rw [E.out] at HX2 HS2
                clear E hF
                clear hp
                go_wp2_with fail
                go_quiet (first | (go_at_call 24; with_reducible refine Calls.quiet_of_same (HI1.out _)) | (go_at_call 24; with_reducible refine Calls.quiet_of_same (HI2.out _)))
                rename_i nq
                have LZ := (lies_new wr (.int .i64 2) (.int .i64 jn) (.int .i64 jp) (.int .i64 jt) (.int .i64 0) (.int .i64 0) (.int .i64 0) (.int .i64 0) (.int .i64 jp) (.int .i64 jt)).drewN nq
                have BZ : Below w.heap.size w (World.drewN (((wr.alloc (.cells #[.int .i64 2, .int .i64 jn, .int .i64 jp, .int .i64 jt] 66)).alloc (.cells #[.int .i64 0, .int .i64 0, .int .i64 0, .int .i64 0] 68)).alloc (.cells #[.int .i64 jp, .int .i64 jt] 64)) nq) := (Below.alloc (Below.alloc (Below.alloc hbr (by omega) _) (by simp; omega) _) (by simp; omega) _).trans (Joins.below_draws _ _ _)
                generalize World.drewN (((wr.alloc (.cells #[.int .i64 2, .int .i64 jn, .int .i64 jp, .int .i64 jt] 66)).alloc (.cells #[.int .i64 0, .int .i64 0, .int .i64 0, .int .i64 0] 68)).alloc (.cells #[.int .i64 jp, .int .i64 jt] 64)) nq = wz at LZ BZ ⊢
                have lzs := LZ.size
                obtain ⟨x0, x1, x2, x3, xf⟩ := four_cells LZ.job
                obtain ⟨y0, y1, y2, y3, yf⟩ := four_cells LZ.found
                obtain ⟨z0, z1, zf⟩ := two_cells LZ.handle
                have lz0 : wr.heap.size < wz.heap.size := by omega
                have lz1 : wr.heap.size + 1 < wz.heap.size := by omega
                have lz2 : wr.heap.size + 1 + 1 < wz.heap.size := by omega
                clear lzs
                obtain ⟨O6, BX6, FR6, CN6⟩ := lies_done (k := k) LZ OR.out BX.out FR.out 0 (.int .i64 6) #[.int .i64 (6), .int .i64 (0), .int .i64 (0), .int .i64 (0)]
                have LL := Lib.hid LZ
                clear LZ
                have CN : Hid (∀ q v, (fdC ⟨6, 0, 0, 0⟩)[q]? = some v → World.cell? _ ((⟨wz.heap.size, 0, none⟩ : Addr).add q) = some v) := Lib.hid (fun q v hv => CN6.out q v (by simpa [fdC] using hv))
                go_wp2_with (first
                  | (at_builtin; go_loud (refine wpList_append_F rfl _ _ 23 rfl w.heap.size 68 i0 (.agg #[.int .i64 0, .int .i64 0, .int .i64 0, .int .i64 0]) 4 32 Try.underlying23 hi hz0 hz1 hz2 rfl (by decide) _ k rfl O6.out AL.out fdF_firm ⟨6, 0, 0, 0⟩ _ ⟨wz.heap.size, 0, none⟩ rfl rfl CN.out (fd_one ⟨6, 0, 0, 0⟩) rfl (by omega) (by decide) (by simp; omega) ?_); intro ra5 rc5 w5 hown' hgrow hb5)
                  | fail)
                obtain ⟨BX5, FR5⟩ := grown_refs (k := k) O6.out BX6.out FR6.out hgrow
                rw [NB.out, NF.out]
                exact ⟨⟨k + 1, bs, fr, _, by omega, by go_num, (Below.alloc (Below.setCell BZ (p := ⟨wr.heap.size + 1, 0, none⟩) (by show w.heap.size ≤ wr.heap.size + 1; omega) _) (by simp; omega) _).trans hb5, ⟨hown', by rw [← NB.out]; exact BX5, by rw [← NF.out]; exact FR5, by rw [List.length_append, AL.out]; rfl, HS2.out⟩, HX2.out⟩, by simp [intOf]; omega⟩
            · by_cases hp : 0 ≤ jp ∧ jp ≤ (nb : Int) - 1
              · obtain ⟨q, rfl⟩ : ∃ q : Nat, jp = q := ⟨jp.toNat, by omega⟩
                have hqn : q < nb := by omega
                have hqb : q < bs.length := by rw [← NB.out]; exact hqn
                obtain ⟨gb, rfl, hBb, hgb, fzb, ⟨cur, hcur⟩, hbcells⟩ := BX.out.cells (by omega)
                obtain ⟨d0, d1⟩ := hbcells q hqb
                have hbd : bs.getD q default = bs[q] := by simp [List.getD, List.getElem?_eq_getElem hqb]
                have HI1 := Lib.hid (in_is (q : Int) 0 ((nb : Int) - 1) true (inB_true.2 (by omega)))
                have hqi : (q : Int) < nb := by omega
                have L3 := lies_new wr (.int .i64 3) (.int .i64 jn) (.int .i64 (q : Int)) (.int .i64 jt) (.int .i64 0) (.int .i64 0) (.int .i64 0) (.int .i64 0) (.int .i64 (q : Int)) (.int .i64 jt)
                have D30 := L3.cell (o := q * 2) hgb
                rw [d0] at D30
                have D31 := L3.cell (o := q * 2 + 1) hgb
                rw [d1] at D31
                have HCUR := Lib.hid hcur
                clear hbcells hcur L3 hp
                by_cases hin : 1 ≤ jt ∧ jt ≤ (bs[q].turn : Int)
                · by_cases hg : bs[q].number = 0 ∨ (bs[q].turn : Int) ≠ jt
                  · have hF : boxFault bs (q : Int) jt = 17 := by unfold boxFault; rw [if_pos ⟨by rw [← NB.out]; omega, by rw [Int.toNat_natCast, hbd]; exact hin⟩, if_pos (by rw [Int.toNat_natCast, hbd]; exact hg)]
                    have HI2 := Lib.hid (in_is jt 1 (bs[q].turn : Int) true (inB_true.2 hin))
                    have E : Hid (stepS bs fr ⟨3, jn, (q : Int), jt⟩ = ((bs, fr), ⟨17, 0, 0, 0⟩)) := by show _ = _; unfold stepS; rw [if_neg (by show ¬ (3 : Int) = 1; omega), if_neg (by show ¬ (3 : Int) = 4; omega), if_pos (by simp), hF, if_neg (by omega)]
                    rw [E.out] at HX2 HS2
                    clear E hF
                    generalize hbt : bs[q] = bt at d0 d1 D30 D31 HI2 hg
                    have HBT := Lib.hid hbt
                    clear hbt
                    obtain ⟨bu, bn⟩ := bt
                    simp only at d0 d1 D30 D31 HI2 hg
                    clear hin hbd
                    by_cases hz : bn = 0
                    · as_aux_lemma =>
                      subst hz
                      go_wp2_with fail
                      go_quiet (first | (go_at_call 24; with_reducible refine Calls.quiet_of_same (HI1.out _)) | (go_at_call 24; with_reducible refine Calls.quiet_of_same (HI2.out _)))
                      rename_i nq
                      have LZ := (lies_new wr (.int .i64 3) (.int .i64 jn) (.int .i64 (q : Int)) (.int .i64 jt) (.int .i64 0) (.int .i64 0) (.int .i64 0) (.int .i64 0) (.int .i64 (q : Int)) (.int .i64 jt)).drewN nq
                      have BZ : Below w.heap.size w (World.drewN (((wr.alloc (.cells #[.int .i64 3, .int .i64 jn, .int .i64 (q : Int), .int .i64 jt] 66)).alloc (.cells #[.int .i64 0, .int .i64 0, .int .i64 0, .int .i64 0] 68)).alloc (.cells #[.int .i64 (q : Int), .int .i64 jt] 64)) nq) := (Below.alloc (Below.alloc (Below.alloc hbr (by omega) _) (by simp; omega) _) (by simp; omega) _).trans (Joins.below_draws _ _ _)
                      generalize World.drewN (((wr.alloc (.cells #[.int .i64 3, .int .i64 jn, .int .i64 (q : Int), .int .i64 jt] 66)).alloc (.cells #[.int .i64 0, .int .i64 0, .int .i64 0, .int .i64 0] 68)).alloc (.cells #[.int .i64 (q : Int), .int .i64 jt] 64)) nq = wz at LZ BZ ⊢
                      have lzs := LZ.size
                      obtain ⟨x0, x1, x2, x3, xf⟩ := four_cells LZ.job
                      obtain ⟨y0, y1, y2, y3, yf⟩ := four_cells LZ.found
                      obtain ⟨z0, z1, zf⟩ := two_cells LZ.handle
                      have lz0 : wr.heap.size < wz.heap.size := by omega
                      have lz1 : wr.heap.size + 1 < wz.heap.size := by omega
                      have lz2 : wr.heap.size + 1 + 1 < wz.heap.size := by omega
                      clear lzs
                      have DD0 := LZ.cell (o := q * 2) hgb
                      rw [d0] at DD0
                      have DD1 := LZ.cell (o := q * 2 + 1) hgb
                      rw [d1] at DD1
                      go_wp2_with fail
                      go_quiet (fail)
                      skip
                      have LY := LZ.drewN nq
                      have BY : Below w.heap.size w (World.drewN wz nq) := BZ.trans (Joins.below_draws _ _ _)
                      clear x0 x1 x2 x3 xf y0 y1 y2 y3 yf z0 z1 zf DD0 DD1
                      generalize World.drewN wz nq = wy at LY BY ⊢
                      clear LZ BZ lz0 lz1 lz2
                      have lys := LY.size
                      obtain ⟨x0, x1, x2, x3, xf⟩ := four_cells LY.job
                      obtain ⟨y0, y1, y2, y3, yf⟩ := four_cells LY.found
                      obtain ⟨z0, z1, zf⟩ := two_cells LY.handle
                      have ly0 : wr.heap.size < wy.heap.size := by omega
                      have ly1 : wr.heap.size + 1 < wy.heap.size := by omega
                      have ly2 : wr.heap.size + 1 + 1 < wy.heap.size := by omega
                      clear lys
                      have DY0 := LY.cell (o := q * 2) hgb
                      rw [d0] at DY0
                      have DY1 := LY.cell (o := q * 2 + 1) hgb
                      rw [d1] at DY1
                      obtain ⟨O6, BX6, FR6, CN6⟩ := lies_done (k := k) LY OR.out BX.out FR.out 0 (.int .i64 17) #[.int .i64 (17), .int .i64 (0), .int .i64 (0), .int .i64 (0)]
                      have LL := Lib.hid LY
                      clear LY
                      have CN : Hid (∀ q v, (fdC ⟨17, 0, 0, 0⟩)[q]? = some v → World.cell? _ ((⟨wy.heap.size, 0, none⟩ : Addr).add q) = some v) := Lib.hid (fun q v hv => CN6.out q v (by simpa [fdC] using hv))
                      go_wp2_with (first
                        | (at_builtin; go_loud (refine wpList_append_F rfl _ _ 23 rfl w.heap.size 68 i0 (.agg #[.int .i64 0, .int .i64 0, .int .i64 0, .int .i64 0]) 4 32 Try.underlying23 hi hz0 hz1 hz2 rfl (by decide) _ k rfl O6.out AL.out fdF_firm ⟨17, 0, 0, 0⟩ _ ⟨wy.heap.size, 0, none⟩ rfl rfl CN.out (fd_one ⟨17, 0, 0, 0⟩) rfl (by omega) (by decide) (by simp; omega) ?_); intro ra5 rc5 w5 hown' hgrow hb5)
                        | fail)
                      obtain ⟨BX5, FR5⟩ := grown_refs (k := k) O6.out BX6.out FR6.out hgrow
                      rw [NB.out, NF.out]
                      exact ⟨⟨k + 1, bs, fr, _, by omega, by go_num, (Below.alloc (Below.setCell BY (p := ⟨wr.heap.size + 1, 0, none⟩) (by show w.heap.size ≤ wr.heap.size + 1; omega) _) (by simp; omega) _).trans hb5, ⟨hown', by rw [← NB.out]; exact BX5, by rw [← NF.out]; exact FR5, by rw [List.length_append, AL.out]; rfl, HS2.out⟩, HX2.out⟩, by simp [intOf]; omega⟩
                    · as_aux_lemma =>
                      have hk1 : (bn == 0) = false := by simpa using hz
                      have hk2 : ((bu : Int) != jt) = true := by rcases hg with hg | hg; exact absurd hg hz; simpa using hg
                      clear hg hz
                      go_wp2_with fail
                      go_quiet (first | (go_at_call 24; with_reducible refine Calls.quiet_of_same (HI1.out _)) | (go_at_call 24; with_reducible refine Calls.quiet_of_same (HI2.out _)))
                      rename_i nq
                      have LZ := (lies_new wr (.int .i64 3) (.int .i64 jn) (.int .i64 (q : Int)) (.int .i64 jt) (.int .i64 0) (.int .i64 0) (.int .i64 0) (.int .i64 0) (.int .i64 (q : Int)) (.int .i64 jt)).drewN nq
                      have BZ : Below w.heap.size w (World.drewN (((wr.alloc (.cells #[.int .i64 3, .int .i64 jn, .int .i64 (q : Int), .int .i64 jt] 66)).alloc (.cells #[.int .i64 0, .int .i64 0, .int .i64 0, .int .i64 0] 68)).alloc (.cells #[.int .i64 (q : Int), .int .i64 jt] 64)) nq) := (Below.alloc (Below.alloc (Below.alloc hbr (by omega) _) (by simp; omega) _) (by simp; omega) _).trans (Joins.below_draws _ _ _)
                      generalize World.drewN (((wr.alloc (.cells #[.int .i64 3, .int .i64 jn, .int .i64 (q : Int), .int .i64 jt] 66)).alloc (.cells #[.int .i64 0, .int .i64 0, .int .i64 0, .int .i64 0] 68)).alloc (.cells #[.int .i64 (q : Int), .int .i64 jt] 64)) nq = wz at LZ BZ ⊢
                      have lzs := LZ.size
                      obtain ⟨x0, x1, x2, x3, xf⟩ := four_cells LZ.job
                      obtain ⟨y0, y1, y2, y3, yf⟩ := four_cells LZ.found
                      obtain ⟨z0, z1, zf⟩ := two_cells LZ.handle
                      have lz0 : wr.heap.size < wz.heap.size := by omega
                      have lz1 : wr.heap.size + 1 < wz.heap.size := by omega
                      have lz2 : wr.heap.size + 1 + 1 < wz.heap.size := by omega
                      clear lzs
                      have DD0 := LZ.cell (o := q * 2) hgb
                      rw [d0] at DD0
                      have DD1 := LZ.cell (o := q * 2 + 1) hgb
                      rw [d1] at DD1
                      go_wp2_with fail
                      go_quiet (fail)
                      skip
                      have LY := LZ.drewN nq
                      have BY : Below w.heap.size w (World.drewN wz nq) := BZ.trans (Joins.below_draws _ _ _)
                      clear x0 x1 x2 x3 xf y0 y1 y2 y3 yf z0 z1 zf DD0 DD1
                      generalize World.drewN wz nq = wy at LY BY ⊢
                      clear LZ BZ lz0 lz1 lz2
                      have lys := LY.size
                      obtain ⟨x0, x1, x2, x3, xf⟩ := four_cells LY.job
                      obtain ⟨y0, y1, y2, y3, yf⟩ := four_cells LY.found
                      obtain ⟨z0, z1, zf⟩ := two_cells LY.handle
                      have ly0 : wr.heap.size < wy.heap.size := by omega
                      have ly1 : wr.heap.size + 1 < wy.heap.size := by omega
                      have ly2 : wr.heap.size + 1 + 1 < wy.heap.size := by omega
                      clear lys
                      have DY0 := LY.cell (o := q * 2) hgb
                      rw [d0] at DY0
                      have DY1 := LY.cell (o := q * 2 + 1) hgb
                      rw [d1] at DY1
                      obtain ⟨O6, BX6, FR6, CN6⟩ := lies_done (k := k) LY OR.out BX.out FR.out 0 (.int .i64 17) #[.int .i64 (17), .int .i64 (0), .int .i64 (0), .int .i64 (0)]
                      have LL := Lib.hid LY
                      clear LY
                      have CN : Hid (∀ q v, (fdC ⟨17, 0, 0, 0⟩)[q]? = some v → World.cell? _ ((⟨wy.heap.size, 0, none⟩ : Addr).add q) = some v) := Lib.hid (fun q v hv => CN6.out q v (by simpa [fdC] using hv))
                      go_wp2_with (first
                        | (at_builtin; go_loud (refine wpList_append_F rfl _ _ 23 rfl w.heap.size 68 i0 (.agg #[.int .i64 0, .int .i64 0, .int .i64 0, .int .i64 0]) 4 32 Try.underlying23 hi hz0 hz1 hz2 rfl (by decide) _ k rfl O6.out AL.out fdF_firm ⟨17, 0, 0, 0⟩ _ ⟨wy.heap.size, 0, none⟩ rfl rfl CN.out (fd_one ⟨17, 0, 0, 0⟩) rfl (by omega) (by decide) (by simp; omega) ?_); intro ra5 rc5 w5 hown' hgrow hb5)
                        | fail)
                      obtain ⟨BX5, FR5⟩ := grown_refs (k := k) O6.out BX6.out FR6.out hgrow
                      rw [NB.out, NF.out]
                      exact ⟨⟨k + 1, bs, fr, _, by omega, by go_num, (Below.alloc (Below.setCell BY (p := ⟨wr.heap.size + 1, 0, none⟩) (by show w.heap.size ≤ wr.heap.size + 1; omega) _) (by simp; omega) _).trans hb5, ⟨hown', by rw [← NB.out]; exact BX5, by rw [← NF.out]; exact FR5, by rw [List.length_append, AL.out]; rfl, HS2.out⟩, HX2.out⟩, by simp [intOf]; omega⟩
                  · as_aux_lemma =>
                    have hF : boxFault bs (q : Int) jt = 0 := by unfold boxFault; rw [if_pos ⟨by rw [← NB.out]; omega, by rw [Int.toNat_natCast, hbd]; exact hin⟩, if_neg (by rw [Int.toNat_natCast, hbd]; exact hg)]
                    have HI2 := Lib.hid (in_is jt 1 (bs[q].turn : Int) true (inB_true.2 hin))
                    have E : Hid (stepS bs fr ⟨3, jn, (q : Int), jt⟩ = ((bs.set q ⟨bs[q].turn, 0⟩, q :: fr), ⟨0, bs[q].number, 0, 0⟩)) := by show _ = _; unfold stepS; rw [if_neg (by show ¬ (3 : Int) = 1; omega), if_neg (by show ¬ (3 : Int) = 4; omega), if_pos (by simp), hF, if_pos rfl, if_pos rfl]; simp only [Int.toNat_natCast, hbd]
                    rw [E.out] at HX2 HS2
                    clear E hF
                    generalize hbt : bs[q] = bt at d0 d1 D30 D31 HI2 hg HX2 HS2
                    have HBT := Lib.hid hbt
                    clear hbt
                    obtain ⟨bu, bn⟩ := bt
                    simp only at d0 d1 D30 D31 HI2 hg HX2 HS2
                    clear hin hbd
                    have hz : ¬ bn = 0 := fun e => hg (Or.inl e)
                    have hjt : (bu : Int) = jt := Classical.byContradiction fun e => hg (Or.inr e)
                    have hk1 : (bn == 0) = false := by simpa using hz
                    have hk2 : ((bu : Int) != jt) = false := by simpa using hjt
                    clear hg hz hjt
                    go_wp2_with fail
                    go_quiet (first | (go_at_call 24; with_reducible refine Calls.quiet_of_same (HI1.out _)) | (go_at_call 24; with_reducible refine Calls.quiet_of_same (HI2.out _)))
                    rename_i nq
                    have LZ := (lies_new wr (.int .i64 3) (.int .i64 jn) (.int .i64 (q : Int)) (.int .i64 jt) (.int .i64 0) (.int .i64 0) (.int .i64 0) (.int .i64 0) (.int .i64 (q : Int)) (.int .i64 jt)).drewN nq
                    have BZ : Below w.heap.size w (World.drewN (((wr.alloc (.cells #[.int .i64 3, .int .i64 jn, .int .i64 (q : Int), .int .i64 jt] 66)).alloc (.cells #[.int .i64 0, .int .i64 0, .int .i64 0, .int .i64 0] 68)).alloc (.cells #[.int .i64 (q : Int), .int .i64 jt] 64)) nq) := (Below.alloc (Below.alloc (Below.alloc hbr (by omega) _) (by simp; omega) _) (by simp; omega) _).trans (Joins.below_draws _ _ _)
                    generalize World.drewN (((wr.alloc (.cells #[.int .i64 3, .int .i64 jn, .int .i64 (q : Int), .int .i64 jt] 66)).alloc (.cells #[.int .i64 0, .int .i64 0, .int .i64 0, .int .i64 0] 68)).alloc (.cells #[.int .i64 (q : Int), .int .i64 jt] 64)) nq = wz at LZ BZ ⊢
                    have lzs := LZ.size
                    obtain ⟨x0, x1, x2, x3, xf⟩ := four_cells LZ.job
                    obtain ⟨y0, y1, y2, y3, yf⟩ := four_cells LZ.found
                    obtain ⟨z0, z1, zf⟩ := two_cells LZ.handle
                    have lz0 : wr.heap.size < wz.heap.size := by omega
                    have lz1 : wr.heap.size + 1 < wz.heap.size := by omega
                    have lz2 : wr.heap.size + 1 + 1 < wz.heap.size := by omega
                    clear lzs
                    have DD0 := LZ.cell (o := q * 2) hgb
                    rw [d0] at DD0
                    have DD1 := LZ.cell (o := q * 2 + 1) hgb
                    rw [d1] at DD1
                    go_wp2_with fail
                    go_quiet (fail)
                    skip
                    have LY := LZ.drewN nq
                    have BY : Below w.heap.size w (World.drewN wz nq) := BZ.trans (Joins.below_draws _ _ _)
                    clear x0 x1 x2 x3 xf y0 y1 y2 y3 yf z0 z1 zf DD0 DD1
                    generalize World.drewN wz nq = wy at LY BY ⊢
                    clear LZ BZ lz0 lz1 lz2
                    have lys := LY.size
                    obtain ⟨x0, x1, x2, x3, xf⟩ := four_cells LY.job
                    obtain ⟨y0, y1, y2, y3, yf⟩ := four_cells LY.found
                    obtain ⟨z0, z1, zf⟩ := two_cells LY.handle
                    have ly0 : wr.heap.size < wy.heap.size := by omega
                    have ly1 : wr.heap.size + 1 < wy.heap.size := by omega
                    have ly2 : wr.heap.size + 1 + 1 < wy.heap.size := by omega
                    clear lys
                    have DY0 := LY.cell (o := q * 2) hgb
                    rw [d0] at DY0
                    have DY1 := LY.cell (o := q * 2 + 1) hgb
                    rw [d1] at DY1
                    have FRa : Hid (World.ownsRow (((wy.setCell ⟨wr.heap.size + 1, 1, none⟩ (.int .i64 bn)).setCell ⟨gb, q * 2 + 1, none⟩ (.int .i64 0)).alloc (.cells #[.int .i64 (q : Int)] 3)) w.heap.size 3 1 (.slice fa nf fc) nf (frC fr)) := Lib.hid (by
                      have h0 := back_ready LY (u := .int .i64 bn) (q := q) BX.out FR.out hgb
                      rw [← NF.out] at h0
                      exact h0)
                    have LL := Lib.hid LY
                    have gn0 : gb ≠ wr.heap.size := by omega
                    have gn1 : gb ≠ wr.heap.size + 1 := by omega
                    have gn2 : gb ≠ wr.heap.size + 1 + 1 := by omega
                    have gn3 : gb < wy.heap.size := by omega
                    have hnf2 : nf ≤ 2000 := by omega
                    have hlys : wr.heap.size + 3 ≤ wy.heap.size := by rw [LY.size]; omega
                    have fzy : ∀ j, wy.frozen? ⟨gb, j, none⟩ = false := fun j => Lib.frozen_of_heap ((LY.low gb hgb).trans HCUR.out) j
                    clear LY
                    go_wp2_with (first
                      | (at_builtin; (refine wpList_append_own_at _ rfl _ _ 71 rfl w.heap.size 3 i2 (.int .i64 0) 1 8 Try.underlying71 hi2 hx0 hx1 hx2 rfl (by decide) _ nf _ rfl FRa.out ⟨wy.heap.size, 0, none⟩ 1 1 [.int .i64 (q : Int)] rfl rfl (by simpa using cell_one_new ((wy.setCell ⟨wr.heap.size + 1, 1, none⟩ (.int .i64 bn)).setCell ⟨gb, q * 2 + 1, none⟩ (.int .i64 0)) (.int .i64 (q : Int)) 3) (fun u hu => by rw [List.mem_singleton.1 hu]; rfl) (by unfold maxLen; omega) (by omega) (by simp; omega) ?_); intro v' w4 hown4 hgrow4 _ hob4; go_loud (obtain ⟨fa2, fc2, rfl, hcp1, hcp2, k9, hs4, O6, BX6, FR6, CN6⟩ := back_grown (k := k) LL.out OR.out BX.out FR.out NB.out NF.out hqb hgb hgrow4 hown4 #[.int .i64 0, .int .i64 bn, .int .i64 0, .int .i64 0]); (have GR4 := Lib.hid hgrow4); clear hgrow4 hown4 hob4; clear y0 y1 y2 y3 yf; obtain ⟨y0, y1, y2, y3, yf⟩ := four_cells k9)
                      | (at_builtin; go_loud (refine wpList_append_F rfl _ _ 23 rfl w.heap.size 68 i0 (.agg #[.int .i64 0, .int .i64 0, .int .i64 0, .int .i64 0]) 4 32 Try.underlying23 hi hz0 hz1 hz2 rfl (by decide) _ k rfl O6.out AL.out fdF_firm ⟨0, bn, 0, 0⟩ _ ⟨w4.heap.size, 0, none⟩ rfl rfl (fun q v hv => CN6.out q v (by simpa [fdC] using hv)) (fd_one ⟨0, bn, 0, 0⟩) rfl (by omega) (by decide) (by simp; omega) ?_); intro ra5 rc5 w5 hown' hgrow hb5)
                      | fail)
                    rw [HBT.out] at BX6
                    obtain ⟨BX5, FR5⟩ := grown_refs (k := k) O6.out BX6.out FR6.out hgrow
                    exact ⟨⟨k + 1, bs.set q ⟨bu, 0⟩, q :: fr, _, by omega, by go_num, (Below.alloc ((Below.alloc (Below.setCell (Below.setCell BY (p := ⟨wr.heap.size + 1, 1, none⟩) (by show w.heap.size ≤ wr.heap.size + 1; omega) _) (p := ⟨gb, q * 2 + 1, none⟩) hBb _) (by simp; omega) _).grown GR4.out (by simp; omega) (fun g hg => (World.ownsRow.lt (show World.ownsRow _ _ _ _ _ _ _ from FR.out) g hg).1)) (by omega) _).trans hb5, ⟨hown', BX5, FR5, by rw [List.length_append, AL.out]; rfl, HS2.out⟩, HX2.out⟩, by simp [intOf]; omega⟩
                · as_aux_lemma =>
                  have hF : boxFault bs (q : Int) jt = 6 := by unfold boxFault; rw [if_neg (by rintro ⟨_, h⟩; rw [Int.toNat_natCast, hbd] at h; exact hin h)]
                  have HI2 := Lib.hid (in_is jt 1 (bs[q].turn : Int) false (inB_false.2 (by omega)))
                  have E : Hid (stepS bs fr ⟨3, jn, (q : Int), jt⟩ = ((bs, fr), ⟨6, 0, 0, 0⟩)) := by show _ = _; unfold stepS; rw [if_neg (by show ¬ (3 : Int) = 1; omega), if_neg (by show ¬ (3 : Int) = 4; omega), if_pos (by simp), hF, if_neg (by omega)]
                  rw [E.out] at HX2 HS2
                  clear E hF
                  generalize hbt : bs[q] = bt at d0 d1 D30 D31 HI2
                  have HBT := Lib.hid hbt
                  clear hbt
                  obtain ⟨bu, bn⟩ := bt
                  simp only at d0 d1 D30 D31 HI2
                  clear hin hbd
                  go_wp2_with fail
                  go_quiet (first | (go_at_call 24; with_reducible refine Calls.quiet_of_same (HI1.out _)) | (go_at_call 24; with_reducible refine Calls.quiet_of_same (HI2.out _)))
                  rename_i nq
                  have LZ := (lies_new wr (.int .i64 3) (.int .i64 jn) (.int .i64 (q : Int)) (.int .i64 jt) (.int .i64 0) (.int .i64 0) (.int .i64 0) (.int .i64 0) (.int .i64 (q : Int)) (.int .i64 jt)).drewN nq
                  have BZ : Below w.heap.size w (World.drewN (((wr.alloc (.cells #[.int .i64 3, .int .i64 jn, .int .i64 (q : Int), .int .i64 jt] 66)).alloc (.cells #[.int .i64 0, .int .i64 0, .int .i64 0, .int .i64 0] 68)).alloc (.cells #[.int .i64 (q : Int), .int .i64 jt] 64)) nq) := (Below.alloc (Below.alloc (Below.alloc hbr (by omega) _) (by simp; omega) _) (by simp; omega) _).trans (Joins.below_draws _ _ _)
                  generalize World.drewN (((wr.alloc (.cells #[.int .i64 3, .int .i64 jn, .int .i64 (q : Int), .int .i64 jt] 66)).alloc (.cells #[.int .i64 0, .int .i64 0, .int .i64 0, .int .i64 0] 68)).alloc (.cells #[.int .i64 (q : Int), .int .i64 jt] 64)) nq = wz at LZ BZ ⊢
                  have lzs := LZ.size
                  obtain ⟨x0, x1, x2, x3, xf⟩ := four_cells LZ.job
                  obtain ⟨y0, y1, y2, y3, yf⟩ := four_cells LZ.found
                  obtain ⟨z0, z1, zf⟩ := two_cells LZ.handle
                  have lz0 : wr.heap.size < wz.heap.size := by omega
                  have lz1 : wr.heap.size + 1 < wz.heap.size := by omega
                  have lz2 : wr.heap.size + 1 + 1 < wz.heap.size := by omega
                  clear lzs
                  obtain ⟨O6, BX6, FR6, CN6⟩ := lies_done (k := k) LZ OR.out BX.out FR.out 0 (.int .i64 6) #[.int .i64 (6), .int .i64 (0), .int .i64 (0), .int .i64 (0)]
                  have LL := Lib.hid LZ
                  clear LZ
                  have CN : Hid (∀ q v, (fdC ⟨6, 0, 0, 0⟩)[q]? = some v → World.cell? _ ((⟨wz.heap.size, 0, none⟩ : Addr).add q) = some v) := Lib.hid (fun q v hv => CN6.out q v (by simpa [fdC] using hv))
                  go_wp2_with (first
                    | (at_builtin; go_loud (refine wpList_append_F rfl _ _ 23 rfl w.heap.size 68 i0 (.agg #[.int .i64 0, .int .i64 0, .int .i64 0, .int .i64 0]) 4 32 Try.underlying23 hi hz0 hz1 hz2 rfl (by decide) _ k rfl O6.out AL.out fdF_firm ⟨6, 0, 0, 0⟩ _ ⟨wz.heap.size, 0, none⟩ rfl rfl CN.out (fd_one ⟨6, 0, 0, 0⟩) rfl (by omega) (by decide) (by simp; omega) ?_); intro ra5 rc5 w5 hown' hgrow hb5)
                    | fail)
                  obtain ⟨BX5, FR5⟩ := grown_refs (k := k) O6.out BX6.out FR6.out hgrow
                  rw [NB.out, NF.out]
                  exact ⟨⟨k + 1, bs, fr, _, by omega, by go_num, (Below.alloc (Below.setCell BZ (p := ⟨wr.heap.size + 1, 0, none⟩) (by show w.heap.size ≤ wr.heap.size + 1; omega) _) (by simp; omega) _).trans hb5, ⟨hown', by rw [← NB.out]; exact BX5, by rw [← NF.out]; exact FR5, by rw [List.length_append, AL.out]; rfl, HS2.out⟩, HX2.out⟩, by simp [intOf]; omega⟩
              · as_aux_lemma =>
                have hF : boxFault bs jp jt = 6 := by unfold boxFault; rw [if_neg (by rw [← NB.out]; omega)]
                have HI1 := Lib.hid (in_is jp 0 ((nb : Int) - 1) false (inB_false.2 (by omega)))
                have HI2 := HI1
                have E : Hid (stepS bs fr ⟨3, jn, jp, jt⟩ = ((bs, fr), ⟨6, 0, 0, 0⟩)) := by show _ = _; unfold stepS; rw [if_neg (by show ¬ (3 : Int) = 1; omega), if_neg (by show ¬ (3 : Int) = 4; omega), if_pos (by simp), hF, if_neg (by omega)]
                rw [E.out] at HX2 HS2
                clear E hF
                clear hp
                go_wp2_with fail
                go_quiet (first | (go_at_call 24; with_reducible refine Calls.quiet_of_same (HI1.out _)) | (go_at_call 24; with_reducible refine Calls.quiet_of_same (HI2.out _)))
                rename_i nq
                have LZ := (lies_new wr (.int .i64 3) (.int .i64 jn) (.int .i64 jp) (.int .i64 jt) (.int .i64 0) (.int .i64 0) (.int .i64 0) (.int .i64 0) (.int .i64 jp) (.int .i64 jt)).drewN nq
                have BZ : Below w.heap.size w (World.drewN (((wr.alloc (.cells #[.int .i64 3, .int .i64 jn, .int .i64 jp, .int .i64 jt] 66)).alloc (.cells #[.int .i64 0, .int .i64 0, .int .i64 0, .int .i64 0] 68)).alloc (.cells #[.int .i64 jp, .int .i64 jt] 64)) nq) := (Below.alloc (Below.alloc (Below.alloc hbr (by omega) _) (by simp; omega) _) (by simp; omega) _).trans (Joins.below_draws _ _ _)
                generalize World.drewN (((wr.alloc (.cells #[.int .i64 3, .int .i64 jn, .int .i64 jp, .int .i64 jt] 66)).alloc (.cells #[.int .i64 0, .int .i64 0, .int .i64 0, .int .i64 0] 68)).alloc (.cells #[.int .i64 jp, .int .i64 jt] 64)) nq = wz at LZ BZ ⊢
                have lzs := LZ.size
                obtain ⟨x0, x1, x2, x3, xf⟩ := four_cells LZ.job
                obtain ⟨y0, y1, y2, y3, yf⟩ := four_cells LZ.found
                obtain ⟨z0, z1, zf⟩ := two_cells LZ.handle
                have lz0 : wr.heap.size < wz.heap.size := by omega
                have lz1 : wr.heap.size + 1 < wz.heap.size := by omega
                have lz2 : wr.heap.size + 1 + 1 < wz.heap.size := by omega
                clear lzs
                obtain ⟨O6, BX6, FR6, CN6⟩ := lies_done (k := k) LZ OR.out BX.out FR.out 0 (.int .i64 6) #[.int .i64 (6), .int .i64 (0), .int .i64 (0), .int .i64 (0)]
                have LL := Lib.hid LZ
                clear LZ
                have CN : Hid (∀ q v, (fdC ⟨6, 0, 0, 0⟩)[q]? = some v → World.cell? _ ((⟨wz.heap.size, 0, none⟩ : Addr).add q) = some v) := Lib.hid (fun q v hv => CN6.out q v (by simpa [fdC] using hv))
                go_wp2_with (first
                  | (at_builtin; go_loud (refine wpList_append_F rfl _ _ 23 rfl w.heap.size 68 i0 (.agg #[.int .i64 0, .int .i64 0, .int .i64 0, .int .i64 0]) 4 32 Try.underlying23 hi hz0 hz1 hz2 rfl (by decide) _ k rfl O6.out AL.out fdF_firm ⟨6, 0, 0, 0⟩ _ ⟨wz.heap.size, 0, none⟩ rfl rfl CN.out (fd_one ⟨6, 0, 0, 0⟩) rfl (by omega) (by decide) (by simp; omega) ?_); intro ra5 rc5 w5 hown' hgrow hb5)
                  | fail)
                obtain ⟨BX5, FR5⟩ := grown_refs (k := k) O6.out BX6.out FR6.out hgrow
                rw [NB.out, NF.out]
                exact ⟨⟨k + 1, bs, fr, _, by omega, by go_num, (Below.alloc (Below.setCell BZ (p := ⟨wr.heap.size + 1, 0, none⟩) (by show w.heap.size ≤ wr.heap.size + 1; omega) _) (by simp; omega) _).trans hb5, ⟨hown', by rw [← NB.out]; exact BX5, by rw [← NF.out]; exact FR5, by rw [List.length_append, AL.out]; rfl, HS2.out⟩, HX2.out⟩, by simp [intOf]; omega⟩
          · as_aux_lemma =>
            have E : Hid (stepS bs fr ⟨jk, jn, jp, jt⟩ = ((bs, fr), ⟨3, 0, 0, 0⟩)) := by show _ = _; unfold stepS; rw [if_neg k1, if_neg k4, if_neg k23]
            have q1 : (jk == 1) = false := by simpa using k1
            have q4 : (jk == 4) = false := by simpa using k4
            have q2 : (jk != 2) = true := by simp; omega
            have q3 : (jk != 3) = true := by simp; omega
            clear k1 k4 k23
            rw [E.out] at HX2 HS2
            have O6 := Lib.hid (OR.out.kept fdF_firm (w' := (((wr.alloc (.cells #[.int .i64 jk, .int .i64 jn, .int .i64 jp, .int .i64 jt] 66)).alloc (.cells #[.int .i64 (3), .int .i64 (0), .int .i64 (0), .int .i64 (0)] 68)).alloc (.cells #[.int .i64 jp, .int .i64 jt] 64)).alloc (.cells #[.int .i64 (3), .int .i64 (0), .int .i64 (0), .int .i64 (0)] 68)) (by simp only [World.size_alloc]; omega) (fun g _ hg => by rw [Below.heap_alloc _ _ _ (by simp only [World.size_alloc]; omega), Below.heap_alloc _ _ _ (by simp only [World.size_alloc]; omega), Below.heap_alloc _ _ _ (by simp only [World.size_alloc]; omega), Below.heap_alloc _ _ _ hg]))
            have BX6 := Lib.hid (BX.out.same (w' := (((wr.alloc (.cells #[.int .i64 jk, .int .i64 jn, .int .i64 jp, .int .i64 jt] 66)).alloc (.cells #[.int .i64 (3), .int .i64 (0), .int .i64 (0), .int .i64 (0)] 68)).alloc (.cells #[.int .i64 jp, .int .i64 jt] 64)).alloc (.cells #[.int .i64 (3), .int .i64 (0), .int .i64 (0), .int .i64 (0)] 68)) (fun g _ hg => by rw [Below.heap_alloc _ _ _ (by simp only [World.size_alloc]; omega), Below.heap_alloc _ _ _ (by simp only [World.size_alloc]; omega), Below.heap_alloc _ _ _ (by simp only [World.size_alloc]; omega), Below.heap_alloc _ _ _ hg]))
            have FR6 := Lib.hid (FR.out.same (w' := (((wr.alloc (.cells #[.int .i64 jk, .int .i64 jn, .int .i64 jp, .int .i64 jt] 66)).alloc (.cells #[.int .i64 (3), .int .i64 (0), .int .i64 (0), .int .i64 (0)] 68)).alloc (.cells #[.int .i64 jp, .int .i64 jt] 64)).alloc (.cells #[.int .i64 (3), .int .i64 (0), .int .i64 (0), .int .i64 (0)] 68)) (fun g _ hg => by rw [Below.heap_alloc _ _ _ (by simp only [World.size_alloc]; omega), Below.heap_alloc _ _ _ (by simp only [World.size_alloc]; omega), Below.heap_alloc _ _ _ (by simp only [World.size_alloc]; omega), Below.heap_alloc _ _ _ hg]))
            have CN : Hid (∀ q u, (fdC ⟨3, 0, 0, 0⟩)[q]? = some u → ((((wr.alloc (.cells #[.int .i64 jk, .int .i64 jn, .int .i64 jp, .int .i64 jt] 66)).alloc (.cells #[.int .i64 (3), .int .i64 (0), .int .i64 (0), .int .i64 (0)] 68)).alloc (.cells #[.int .i64 jp, .int .i64 jt] 64)).alloc (.cells #[.int .i64 (3), .int .i64 (0), .int .i64 (0), .int .i64 (0)] 68)).cell? ((⟨wr.heap.size + 1 + 1 + 1, 0, none⟩ : Addr).add q) = some u) := fun q u hu => by
              have hh := heap_alloc_new (((wr.alloc (.cells #[.int .i64 jk, .int .i64 jn, .int .i64 jp, .int .i64 jt] 66)).alloc (.cells #[.int .i64 (3), .int .i64 (0), .int .i64 (0), .int .i64 (0)] 68)).alloc (.cells #[.int .i64 jp, .int .i64 jt] 64)) (.cells #[.int .i64 (3), .int .i64 (0), .int .i64 (0), .int .i64 (0)] 68)
              simp only [World.size_alloc] at hh
              rw [Go.WideShapes.add_plain, Nat.zero_add, Lib.cell_of_heap hh]
              simpa [fdC] using hu
            go_wp2_with (first
              | (at_builtin; go_loud (refine wpList_append_F rfl _ _ 23 rfl w.heap.size 68 i0 (.agg #[.int .i64 0, .int .i64 0, .int .i64 0, .int .i64 0]) 4 32 Try.underlying23 hi hz0 hz1 hz2 rfl (by decide) _ k rfl O6.out AL.out fdF_firm ⟨3, 0, 0, 0⟩ _ ⟨wr.heap.size + 1 + 1 + 1, 0, none⟩ rfl rfl CN.out (fd_one ⟨3, 0, 0, 0⟩) rfl (by omega) (by decide) (by simp; omega) ?_); intro ra5 rc5 w5 hown' hgrow hb5)
              | fail)
            obtain ⟨BX5, FR5⟩ := grown_refs (k := k) O6.out BX6.out FR6.out hgrow
            rw [NB.out, NF.out]
            exact ⟨⟨k + 1, bs, fr, _, by omega, by go_num, (Below.alloc (Below.alloc (Below.alloc (Below.alloc hbr (by omega) _) (by simp; omega) _) (by simp; omega) _) (by simp; omega) _).trans hb5, ⟨hown', by rw [← NB.out]; exact BX5, by rw [← NF.out]; exact FR5, by rw [List.length_append, AL.out]; rfl, HS2.out⟩, HX2.out⟩, by simp [intOf]; omega⟩
    · as_aux_lemma =>
      have HX2 : Hid (acc = V) := by
        show _ = _
        rw [← XX.out, runS_end (by have := NL.out; omega)]; simp
      have HL2 : Hid (k = V.length) := by show _ = _; rw [← HX2.out, hal]
      rw [HX2.out] at hO
      have HO := Lib.hid hO
      clear hO hBX hFR hS
      go_wp2
      go_ret2
      obtain ⟨a2, c2, e2, hS2⟩ := HO.out.done fdF_firm (G := from_ w.heap.size) (by omega) (fun b _ h => h.elim (fun h => h.elim) id)
      simp only [Value.slice.injEq] at e2
      obtain ⟨rfl, e3, rfl⟩ := e2
      rw [e3]
      exact ⟨_, _, rfl, hbr, hS2⟩
end Go.Proofs.Ytciomaeieggbiaa
