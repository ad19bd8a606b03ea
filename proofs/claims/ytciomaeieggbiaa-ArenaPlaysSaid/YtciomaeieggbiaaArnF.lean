/-
  The walks of arena, sixth part: jobs played.
-/
import Derived.Test.YtciomaeieggbiaaArnE
namespace Go.Proofs.Ytciomaeieggbiaa
open Go.RowKit
set_option linter.unusedVariables false
set_option linter.unusedSimpArgs false

theorem apart {w : World} {B1 B2 e1 e2 k1 k2 n1 n2 : Nat} {v1 v2 : Value} {r1 r2 : List Value} (h1 : w.ownsRow B1 e1 k1 v1 n1 r1) (h2 : w.ownsRow B2 e2 k2 v2 n2 r2) (hne : e1 ≠ e2) : ∀ g, v1.ownBlock = some g → v2.ownBlock ≠ some g := fun g hg => by
  rcases h1.2 with ⟨hv, _⟩ | ⟨g1, cap1, cur1, hv, _, hg1, _⟩
  · subst hv; simp [Value.ownBlock] at hg
  · subst hv
    simp [Value.ownBlock] at hg
    subst hg
    exact own_ne_at h2 hg1 hne
def none_ : Nat → Prop := fun _ => False
theorem OwnF.kept {α : Type} {B : Nat} {w w' : World} {e k : Nat} {R : (Nat → Prop) → World → List Value → α → Prop} {o : Value} {xs : List α} (h : OwnF none_ B w e k R o xs) (hR : Firm R) (hsz : w.heap.size ≤ w'.heap.size) (hs : ∀ g, o.ownBlock = some g → g < w.heap.size → w'.heap[g]? = w.heap[g]?) : OwnF none_ B w' e k R o xs :=
  h.same hR hsz fun b hlt hor => hor.elim (fun hf => hf.elim) (fun he => hs b he hlt)
theorem OwnF.spared {α : Type} {B b : Nat} {cs : List Cl} {f c : Int} {w w' : World} {e k : Nat} {R : (Nat → Prop) → World → List Value → α → Prop} {o : Value} {xs : List α} (h : OwnF none_ B w e k R o xs) (hR : Firm R) (hA : ArenaAt B b cs f c w) (hsz : w.heap.size ≤ w'.heap.size) (hsp : Spares b w w') (h1 : 62 ≠ e) (h2 : e ≠ 115) : OwnF none_ B w' e k R o xs := by
  obtain ⟨hB, v, hbk, hown⟩ := hA
  have h0 := h
  obtain ⟨rs, h3, h4⟩ := h0
  refine h.kept hR hsz fun g hg hlt => (hsp g hlt ⟨fun e => own_ne_at h3 hbk h1 (by rw [← e]; exact hg), fun v' x y e' fr hv' => ?_⟩).1
  rw [hbk] at hv'
  injection hv' with hv'; injection hv' with hv'
  simp at hv'
  rw [← hv'.1]
  exact apart h3 hown h2 g hg
theorem ArenaAt.grown {α : Type} {B b : Nat} {cs : List Cl} {f c : Int} {w w' : World} {e k : Nat} {R : (Nat → Prop) → World → List Value → α → Prop} {o : Value} {xs : List α} (hA : ArenaAt B b cs f c w) (h : OwnF none_ B w e k R o xs) (hg : w.grownBy w' o.ownBlock) (h1 : 62 ≠ e) (h2 : e ≠ 115) : ArenaAt B b cs f c w' := by
  obtain ⟨rs, h3, h4⟩ := h
  have hA0 := hA
  obtain ⟨hB, v, hbk, hown⟩ := hA0
  refine hA.same fun k hk hor => hg.block k hk fun e => ?_
  rcases hor with rfl | hor
  · exact own_ne_at h3 hbk h1 e.symm
  · exact apart h3 hown h2 k e.symm (hor _ _ _ _ _ hbk)
def fdC (d : Fd) : List Value := [.int .i64 d.code, .int .i64 d.number, .int .i64 d.place, .int .i64 d.turn]
def fdF : (Nat → Prop) → World → List Value → Fd → Prop := plainF fdC
theorem fdF_firm : Firm fdF := plainF_firm _
def jbC (d : Jb) : List Value := [.int .i64 d.kind, .int .i64 d.number, .int .i64 d.place, .int .i64 d.turn]
def jbF : (Nat → Prop) → World → List Value → Jb → Prop := plainF jbC
theorem jbF_firm : Firm jbF := plainF_firm _
theorem info_found : (Try.prog.info? 68).map (fun i => (i.zero, i.size, i.bytes)) = some (some (.agg #[.int .i64 0, .int .i64 0, .int .i64 0, .int .i64 0]), 4, 32) := by kernel_rfl
theorem size_job : SizeIs Try.prog 66 4 := fun w => by kernel_rfl
theorem RowAt.four {w : World} {b o : Nat} {x y z t : Value} (h : RowAt w b o 4 [x, y, z, t]) : w.cell? ⟨b, o, none⟩ = some x ∧ w.cell? ⟨b, o + 1, none⟩ = some y ∧ w.cell? ⟨b, o + 1 + 1, none⟩ = some z ∧ w.cell? ⟨b, o + 1 + 1 + 1, none⟩ = some t ∧ w.cell? ⟨b, o + 2, none⟩ = some z ∧ w.cell? ⟨b, o + 3, none⟩ = some t :=
  ⟨h.2 0 (by omega), h.2 1 (by omega), h.2 2 (by omega), h.2 3 (by omega), h.2 2 (by omega), h.2 3 (by omega)⟩
theorem fd_one (d : Fd) : ∀ u ∈ fdC d, u.oneCell' = true := fun u hu => by
  simp [fdC] at hu
  rcases hu with rfl | rfl | rfl | rfl <;> rfl
def PlayPost (l : List Jb) (w : World) (e : Ending) (w' : World) : Prop :=
  ∃ ao cap, e = .returned (.tuple #[.slice ao (playV l).length cap, .int .i64 (if 2000 < l.length then 1 else 0)]) ∧ Below w.heap.size w w' ∧ SlF (from_ w.heap.size) w' 4 fdF ao (playV l).length cap (playV l)
set_option maxHeartbeats 4000000 in
set_option maxRecDepth 100000 in
theorem play_any (F : Nat → Prop) (ao : Option Addr) (n cap : Nat) (l : List Jb) (w : World) (hL : SlF F w 4 jbF ao n cap l) : Calls Try.prog 8 #[.slice ao n cap] w (PlayPost l w) := by
  have hle := hL.le
  by_cases h2 : 2000 < n
  · have h2' : (2000 : Int) < n := by omega
    have HV : Hid (playV l = []) := by show _ = _; unfold playV; rw [if_pos (by have := hL.len; omega)]
    have HE : Hid (2000 < l.length) := by show _ < _; have := hL.len; omega
    unfold PlayPost
    rw [HV.out, if_pos HE.out]
    go_enter Try.func8, Try.ntmps8
    go_wp2
    go_ret2
    exact ⟨none, 0, rfl, Below.refl _ _, SlF.nil⟩
  · have h2' : ¬ (2000 : Int) < n := by omega
    have HV : Hid ([] ++ runS [] [] (l.drop 0) = playV l) := by show _ = _; unfold playV; rw [if_neg (by have := hL.len; omega)]; rfl
    have HE : Hid (¬ 2000 < l.length) := by show ¬ _ < _; have := hL.len; omega
    have NL : Hid (n = l.length) := hL.len
    obtain ⟨i0, hi, hz0, hz1, hz2⟩ := info_parts info_found
    have HA0 := Lib.hid (arena_new w)
    unfold PlayPost
    rw [if_neg HE.out]
    generalize playV l = V at HV ⊢
    go_enter Try.func8, Try.ntmps8
    go_wp2_with fail
    go_loopw [5, 15] (fun o i wr => ∃ (k : Nat) (cs : List Cl) (f : Int) (c : Nat) (bs : List Bx) (fr : List Nat) (acc : List Fd), k ≤ n ∧ i = .int .i64 k ∧ Below w.heap.size w wr ∧ ArenaAt w.heap.size w.heap.size cs f c wr ∧ OwnF none_ w.heap.size wr 68 4 fdF o acc ∧ Hid (Stands k cs f c bs fr ∧ acc.length = k ∧ acc ++ runS bs fr (l.drop k) = V)) (fun _ i _ => n - (intOf i).toNat)
    case atStart => exact ⟨0, [], -1, 0, [], [], [], by omega, rfl, (by repeat (first | exact Below.refl _ _ | assumption | refine below_step ?_ (by assumption) | refine below_step ?_ (Joins.below_draws _ _ _) | (refine Below.alloc ?_ (by first | omega | (simp; done) | (simp; omega)) _) | (refine Below.setCell ?_ (by first | omega | (simp; done) | (simp; omega)) _) | refine Below.drew ?_)), HA0.out, OwnF.empty, stands_new, rfl, HV.out⟩
    case round =>
      obtain ⟨k, cs, f, c, bs, fr, acc, hk, rfl, hbr, hA, hO, HX⟩ := hrel
      obtain ⟨hS, hal, hX⟩ := HX.out
      obtain ⟨ra, rc, rfl⟩ := hO.slice
      rw [hal] at hO ⊢
      have OR := Lib.hid hO
      have AR := Lib.hid hA
      have hwr := hbr.size
      have hlr := hA.lt
      have SS := Lib.hid hS
      have XX := Lib.hid hX
      have AL := Lib.hid hal
      clear HX hX HV HA0 hO hA hS hal
      by_cases hlt : k < n
      · have hkl : k < l.length := by have := NL.out; omega
        obtain ⟨b, off, row, hix, hblt, hrow, hrr⟩ := (hL.below jbF_firm hbr).toR.index (P := Try.prog) Try.underlying22 size_job (i := k) hkl
        have hrr2 : row = jbC l[k] := hrr
        subst hrr2
        have HX2 : Hid ((acc ++ [(stepS bs fr l[k]).2]) ++ runS (stepS bs fr l[k]).1.1 (stepS bs fr l[k]).1.2 (l.drop (k + 1)) = V) := by
          show _ = _
          rw [← XX.out, runS_at hkl]; simp
        have HD := Lib.hid (fun wx (h1 : ArenaAt w.heap.size w.heap.size cs f c wx) (h2 : w.heap.size ≤ wx.heap.size) => do_any w.heap.size w.heap.size cs f c k bs fr l[k] wx h1 h2 SS.out (by omega))
        clear XX hrr SS
        generalize l[k] = j at hrow HX2 HD
        generalize stepS bs fr j = st at HX2 HD
        obtain ⟨⟨bs', fr'⟩, d⟩ := st
        simp only at HX2 HD
        obtain ⟨jk, jn, jp, jt⟩ := j
        obtain ⟨c0, c1, c2, c3, c4, c5⟩ := hrow.four
        unfold jbV at HD
        simp only at HD c0 c1 c2 c3 c4 c5
        have A1 := Lib.hid (AR.out.below (Joins.below_alloc1 wr (.cells #[.int .i64 jk, .int .i64 jn, .int .i64 jp, .int .i64 jt] 66)))
        have O1 := Lib.hid (OR.out.kept fdF_firm (w' := wr.alloc (.cells #[.int .i64 jk, .int .i64 jn, .int .i64 jp, .int .i64 jt] 66)) (by simp) (fun g _ hg => Below.heap_alloc _ _ _ hg))
        go_wp2_with fail
        refine (HD.out _ A1.out (by simp; omega)).mono ?_
        rintro e w1 ⟨cs', f', c', hS', rfl, hA', hb1, hsp1⟩
        have hs1 := hb1.size
        simp only [World.size_alloc] at hs1
        have O2 := O1.out.spared fdF_firm A1.out hb1.size hsp1 (by decide) (by decide)
        have O3 := Lib.hid (O2.kept fdF_firm (w' := w1.alloc (.cells (fdC d).toArray 68)) (by simp) (fun g _ hg => Below.heap_alloc _ _ _ hg))
        have A3 := Lib.hid (hA'.below (Joins.below_alloc1 w1 (.cells (fdC d).toArray 68)))
        have B1 : Below w.heap.size w w1 := (hbr.alloc hwr _).trans hb1
        have SS' := Lib.hid hS'
        have CN : Hid (∀ q u, (fdC d)[q]? = some u → (w1.alloc (.cells (fdC d).toArray 68)).cell? ((⟨w1.heap.size, 0, none⟩ : Addr).add q) = some u) := fun q u hu => by
          rw [Go.WideShapes.add_plain, Nat.zero_add, World.cell?_alloc_new]
          simpa using hu
        clear O2 hA' hS' hsp1 hb1 HD A1 O1 OR AR
        have HY : Hid (fdF (off_ none_ (.slice ra k rc)) (w1.alloc (.cells (fdC d).toArray 68)) (fdC d) d) := rfl
        have hk2 : k ≤ 2000 := by omega
        obtain ⟨dc, dn, dp, dt⟩ := d
        unfold fdC at O3 A3 CN HY
        simp only at O3 A3 CN HY
        go_wp2_with (first
          | (at_builtin; go_loud (refine wpList_append_F rfl _ _ 23 rfl w.heap.size 68 i0 (.agg #[.int .i64 0, .int .i64 0, .int .i64 0, .int .i64 0]) 4 32 Try.underlying23 hi hz0 hz1 hz2 rfl (by decide) _ k rfl O3.out AL.out fdF_firm ⟨dc, dn, dp, dt⟩ _ ⟨w1.heap.size, 0, none⟩ rfl rfl CN.out (fd_one ⟨dc, dn, dp, dt⟩) HY.out (by omega) (by decide) (by simp; omega) ?_); intro ra5 rc5 w5 hown' hgrow hb5)
          | fail)
        have A5 := A3.out.grown O3.out hgrow (by decide) (by decide)
        have B5 : Below w.heap.size w w5 := (B1.alloc (by omega) _).trans hb5
        exact ⟨⟨k + 1, cs', f', c', bs', fr', _, by omega, by go_num, B5, A5, hown', SS'.out, by rw [List.length_append, AL.out]; rfl, HX2.out⟩, by simp [intOf]; omega⟩
      · have HX2 : Hid (acc = V) := by
          show _ = _
          rw [← XX.out, runS_end (by have := NL.out; omega)]; simp
        have HL2 : Hid (k = V.length) := by show _ = _; rw [← HX2.out, AL.out]
        go_wp2
        go_ret2
        have hO := OR.out
        rw [HX2.out] at hO
        obtain ⟨a2, c2, e2, hS2⟩ := hO.done fdF_firm (G := from_ w.heap.size) (by omega) (fun b _ h => h.elim (fun h => h.elim) id)
        simp only [Value.slice.injEq] at e2
        obtain ⟨rfl, e3, rfl⟩ := e2
        rw [e3]
        exact ⟨_, _, rfl, hbr, hS2⟩
end Go.Proofs.Ytciomaeieggbiaa
