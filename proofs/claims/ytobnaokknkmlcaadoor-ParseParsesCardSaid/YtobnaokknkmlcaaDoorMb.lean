/-
  The walks of package parse's reader, first part: what is wrong, what is next, marks and words.
-/
import Derived.Test.YtobnaokknkmlcaaDoorPrRm
namespace Go.Proofs.YtobnaokknkmlcaaDoor
open Go.RowKit
set_option linter.unusedVariables false
set_option linter.unusedSimpArgs false

section
variable {T : List Tok} {b : Nat} {ao : Option Addr} {n cap : Nat} {s : PS} {w : World}

set_option maxHeartbeats 1000000 in
theorem fail_any (h : RdAt b ao n cap s w) (k : Int) (hk : k ≠ 0) :
    Calls Tryd.prog 48 #[.pointer (some ⟨b, 0, none⟩), .int .i64 k] w fun e w' => e = .returned (.tuple #[]) ∧ RdAt b ao n cap (failS s k) w' ∧ But b w w' := by
  have H := Lib.hid h
  obtain ⟨c0, c1, c2, c3, fz⟩ := h.open
  have hlt := h.lt
  clear h
  by_cases he : s.e = 0
  · have HF := Lib.hid (H.out.fail he hk)
    have HB : Hid (But b w ((w.setCell ⟨b, 2, none⟩ (.int .i64 k)).setCell ⟨b, 3, none⟩ (.int .i64 s.pos))) := ((But.refl b w).set 2 _).set 3 _
    rw [he] at c2 c3
    clear he
    go_enter Tryd.func48, Tryd.ntmps48
    go_wp2
    go_end0
    exact ⟨rfl, HF.out, HB.out⟩
  · have hf : Hid (failS s k = s) := fail_stuck he k
    have hb : (s.e == 0) = false := by simpa using he
    rw [if_neg he] at c3
    go_enter Tryd.func48, Tryd.ntmps48
    go_wp2
    go_end0
    rw [hf.out]
    exact ⟨rfl, H.out, But.refl b w⟩

set_option maxHeartbeats 1000000 in
theorem miss_any (h : RdAt b ao n cap s w) (hE : Env T b ao n cap w) :
    Calls Tryd.prog 26 #[.pointer (some ⟨b, 0, none⟩)] w fun e w' => e = .returned (.tuple #[]) ∧ RdAt b ao n cap (missS T s) w' ∧ But b w w' := by
  have H := Lib.hid h
  obtain ⟨c0, c1, c2, c3, fz⟩ := h.open
  have hlt := h.lt
  obtain ⟨l1, l2, l3, l4⟩ := hE.len
  have L1 := Lib.hid l1
  by_cases hp : s.pos < T.length
  · have hp1 : (s.pos : Int) < n := by omega
    have HM : Hid (missS T s = failS s 4) := by show _ = _; unfold missS; rw [if_pos hp]
    clear h hE l1
    go_enter Tryd.func26, Tryd.ntmps26
    go_wp2_with fail
    go_quiet (fail)
    have HN : Hid (RdAt b ao n cap s (w.drewN nq)) := H.out.below (Joins.below_draws _ _ _)
    have HB : Hid (But b w (w.drewN nq)) := But.drews nq
    generalize w.drewN nq = wx at HN HB ⊢
    go_wp2_with fail
    refine (fail_any HN.out 4 (by decide)).mono ?_
    rintro e w1 ⟨rfl, h1, hb1⟩
    go_wp2
    go_end0
    rw [HM.out]
    exact ⟨rfl, h1, HB.out.trans hb1⟩
  · have hp1 : ¬ (s.pos : Int) < n := by omega
    have HM : Hid (missS T s = failS s 5) := by show _ = _; unfold missS; rw [if_neg hp]
    clear h hE l1
    go_enter Tryd.func26, Tryd.ntmps26
    go_wp2_with fail
    go_quiet (fail)
    have HN : Hid (RdAt b ao n cap s (w.drewN nq)) := H.out.below (Joins.below_draws _ _ _)
    have HB : Hid (But b w (w.drewN nq)) := But.drews nq
    generalize w.drewN nq = wx at HN HB ⊢
    go_wp2_with fail
    refine (fail_any HN.out 5 (by decide)).mono ?_
    rintro e w1 ⟨rfl, h1, hb1⟩
    go_wp2
    go_end0
    rw [HM.out]
    exact ⟨rfl, h1, HB.out.trans hb1⟩

set_option maxHeartbeats 1000000 in
theorem going_any (h : RdAt b ao n cap s w) :
    Calls Tryd.prog 20 #[.pointer (some ⟨b, 0, none⟩)] w fun e w' => e = .returned (.bool (decide (s.e = 0))) ∧ w' = w := by
  obtain ⟨c0, c1, c2, c3, fz⟩ := h.open
  have hlt := h.lt
  clear h
  go_enter Tryd.func20, Tryd.ntmps20
  go_wp2
  go_ret
  exact ⟨ret_bool (by cases hd : decide (s.e = 0) <;> simp_all), rfl⟩

end
end Go.Proofs.YtobnaokknkmlcaaDoor
/-
  The walks of package parse's reader, second part: what is next; marks, words, names, numbers.
-/
namespace Go.Proofs.YtobnaokknkmlcaaDoor
open Go.RowKit
set_option linter.unusedVariables false
set_option linter.unusedSimpArgs false

section
variable {T : List Tok} {b : Nat} {ao : Option Addr} {n cap : Nat} {s : PS} {w : World}

theorem going_is (h : RdAt b ao n cap s w) (g : Bool) (hg : decide (s.e = 0) = g) :
    ∀ m, Calls Tryd.prog 20 #[.pointer (some ⟨b, 0, none⟩)] (w.drewN m) fun e w' => e = .returned (.bool g) ∧ w' = w.drewN m := fun m => by
  subst hg
  exact going_any (h.below (Joins.below_draws _ _ _))

set_option maxHeartbeats 2000000 in
theorem sees_any (h : RdAt b ao n cap s w) (hE : Env T b ao n cap w) (k : Int) (x : ByteArray) :
    Calls Tryd.prog 41 #[.pointer (some ⟨b, 0, none⟩), .int .i64 k, .string x] w fun e w' => e = .returned (.bool (seesB T k x s)) ∧ ∃ m, w' = w.drewN m := by
  obtain ⟨c0, c1, c2, c3, fz⟩ := h.open
  have hlt := h.lt
  obtain ⟨l1, l2, l3, l4⟩ := hE.len
  have L1 := Lib.hid l1
  by_cases he : s.e = 0
  · have HG := Lib.hid (going_is h true (by simpa using he))
    by_cases hp : s.pos < T.length
    · have hp1 : (s.pos : Int) < n := by omega
      obtain ⟨c, off, hclt, hix, d0, d1, d2⟩ := hE.next hp
      have hS : Hid (seesB T k x s = (decide (T[s.pos].kind = k) && sameS T[s.pos].text x)) := by
        show _ = _
        unfold seesB nxt
        rw [if_pos he, List.getElem?_eq_getElem hp]
      generalize T[s.pos] = t at hS d0 d1 d2
      by_cases hk : t.kind = k
      · subst hk
        cases hx : (t.text.toList == x.toList) with
        | true =>
          have HS : Hid (seesB T t.kind x s = true) := by
            show _ = _
            rw [hS.out]
            unfold sameS
            rw [hx]; simp
          clear h hE l1 hS
          go_enter Tryd.func41, Tryd.ntmps41
          go_wp2_with fail
          go_quiet ((go_at_call 20; with_reducible refine Calls.quiet_of_same (HG.out _)))
          go_wp2
          go_ret
          exact ⟨ret_bool HS.out.symm, nq, rfl⟩
        | false =>
          have HS : Hid (seesB T t.kind x s = false) := by
            show _ = _
            rw [hS.out]
            unfold sameS
            rw [hx]; simp
          clear h hE l1 hS
          go_enter Tryd.func41, Tryd.ntmps41
          go_wp2_with fail
          go_quiet ((go_at_call 20; with_reducible refine Calls.quiet_of_same (HG.out _)))
          go_wp2
          go_ret
          exact ⟨ret_bool HS.out.symm, nq, rfl⟩
      · have HS : Hid (seesB T k x s = false) := by
          show _ = _
          rw [hS.out]
          simp [hk]
        have hkb : (t.kind == k) = false := by simpa using hk
        clear h hE l1 hS
        go_enter Tryd.func41, Tryd.ntmps41
        go_wp2_with fail
        go_quiet ((go_at_call 20; with_reducible refine Calls.quiet_of_same (HG.out _)))
        go_wp2
        go_ret
        exact ⟨ret_bool HS.out.symm, nq, rfl⟩
    · have HS : Hid (seesB T k x s = false) := by
        show _ = _
        cases hs : seesB T k x s with
        | false => rfl
        | true => exact absurd (sees_ok hs).2 hp
      have hp1 : (n : Int) ≤ s.pos := by omega
      have hpn : ¬ s.pos < n := by omega
      clear h hE l1
      go_enter Tryd.func41, Tryd.ntmps41
      go_wp2_with fail
      go_quiet ((go_at_call 20; with_reducible refine Calls.quiet_of_same (HG.out _)))
      go_wp2
      go_ret
      exact ⟨ret_bool HS.out.symm, nq, rfl⟩
  · have HG := Lib.hid (going_is h false (by simpa using he))
    have HS : Hid (seesB T k x s = false) := sees_stuck he
    clear h hE l1
    go_enter Tryd.func41, Tryd.ntmps41
    go_wp2_with fail
    go_quiet ((go_at_call 20; with_reducible refine Calls.quiet_of_same (HG.out _)))
    go_wp2
    go_ret
    exact ⟨ret_bool HS.out.symm, nq, rfl⟩
end
end Go.Proofs.YtobnaokknkmlcaaDoor
/-
  The walks of package parse's reader, third part: tokens taken; marks and words that must be; names, numbers.
-/
namespace Go.Proofs.YtobnaokknkmlcaaDoor
open Go.RowKit
set_option linter.unusedVariables false
set_option linter.unusedSimpArgs false

section
variable {T : List Tok} {b : Nat} {ao : Option Addr} {n cap : Nat} {s : PS} {w : World}

set_option maxHeartbeats 1000000 in
theorem eat_any (h : RdAt b ao n cap s w) (hE : Env T b ao n cap w) (k : Int) (x : ByteArray) :
    Calls Tryd.prog 21 #[.pointer (some ⟨b, 0, none⟩), .int .i64 k, .string x] w fun e w' => e = .returned (.bool (seesB T k x s)) ∧ RdAt b ao n cap (eatS T k x s) w' ∧ But b w w' := by
  have HS := Lib.hid (sees_any h hE k x)
  have H := Lib.hid h
  have hlen := hE.len
  obtain ⟨l1, l2, l3, l4⟩ := hlen
  cases hs : seesB T k x s with
  | true =>
    obtain ⟨o1, o2⟩ := sees_ok hs
    have O1 := Lib.hid o1
    have hsT : Hid (eatS T k x s = adv s) := by show _ = _; unfold eatS; rw [if_pos hs]
    have HSS := Lib.hid hs
    have hp7 : (s.pos : Int) ≤ 700 := by omega
    clear h hE l1 o1 o2
    go_enter Tryd.func21, Tryd.ntmps21
    go_wp2_with fail
    refine HS.out.mono ?_
    rintro e w1 ⟨rfl, m, rfl⟩
    rw [hs]
    have H1 : Hid (RdAt b ao n cap s (w.drewN m)) := H.out.below (Joins.below_draws _ _ _)
    have B1 : Hid (But b w (w.drewN m)) := But.drews m
    clear hs
    generalize w.drewN m = w1 at *
    obtain ⟨c0, c1, c2, c3, fz⟩ := H1.out.open
    have hlt := H1.out.lt
    have HA := Lib.hid (H1.out.adv O1.out)
    have HB : Hid (But b w (w1.setCell ⟨b, 1, none⟩ (.int .i64 (s.pos + 1)))) := B1.out.set 1 _
    go_wp2
    go_ret
    rw [hsT.out]
    exact ⟨rfl, HA.out, HB.out⟩
  | false =>
    have hsT : Hid (eatS T k x s = s) := by show _ = _; unfold eatS; rw [hs]; rfl
    clear h hE l1
    go_enter Tryd.func21, Tryd.ntmps21
    go_wp2_with fail
    refine HS.out.mono ?_
    rintro e w1 ⟨rfl, m, rfl⟩
    rw [hs]
    have H1 : Hid (RdAt b ao n cap s (w.drewN m)) := H.out.below (Joins.below_draws _ _ _)
    have B1 : Hid (But b w (w.drewN m)) := But.drews m
    clear hs
    generalize w.drewN m = w1 at *
    go_wp2
    go_ret
    rw [hsT.out]
    exact ⟨rfl, H1.out, B1.out⟩
theorem eat_yes {k : Int} {x : ByteArray} (h : seesB T k x s = true) : eatS T k x s = adv s := by unfold eatS; rw [if_pos h]
theorem eat_no {k : Int} {x : ByteArray} (h : seesB T k x s = false) : eatS T k x s = s := by unfold eatS; rw [h]; rfl

set_option maxHeartbeats 1000000 in
theorem mark_any (h : RdAt b ao n cap s w) (hE : Env T b ao n cap w) (x : ByteArray) :
    Calls Tryd.prog 24 #[.pointer (some ⟨b, 0, none⟩), .string x] w fun e w' => e = .returned (.tuple #[]) ∧ RdAt b ao n cap (mustS T 4 x s) w' ∧ But b w w' := by
  have HS := Lib.hid (eat_any h hE 4 x)
  have HE := Lib.hid hE
  clear h hE
  cases hs : seesB T 4 x s with
  | true =>
    have hm : Hid (mustS T 4 x s = adv s) := by show _ = _; unfold mustS; rw [if_pos hs]
    have he : Hid (eatS T 4 x s = adv s) := eat_yes hs
    go_enter Tryd.func24, Tryd.ntmps24
    go_wp2_with fail
    refine HS.out.mono ?_
    rintro e w1 ⟨rfl, h1, hb1⟩
    rw [hs]
    rw [he.out] at h1
    have H1 := Lib.hid h1
    clear hs h1
    go_wp2
    go_end0
    rw [hm.out]
    exact ⟨rfl, H1.out, hb1⟩
  | false =>
    have hm : Hid (mustS T 4 x s = missS T s) := by show _ = _; unfold mustS; rw [hs]; rfl
    have he : Hid (eatS T 4 x s = s) := eat_no hs
    go_enter Tryd.func24, Tryd.ntmps24
    go_wp2_with fail
    refine HS.out.mono ?_
    rintro e w1 ⟨rfl, h1, hb1⟩
    rw [hs]
    rw [he.out] at h1
    have H1 := Lib.hid h1
    clear hs h1
    go_wp2_with fail
    refine (miss_any H1.out (HE.out.but hb1)).mono ?_
    rintro e w2 ⟨rfl, h2, hb2⟩
    go_wp2
    go_end0
    rw [hm.out]
    exact ⟨rfl, h2, hb1.trans hb2⟩
set_option maxHeartbeats 1000000 in
theorem word_any (h : RdAt b ao n cap s w) (hE : Env T b ao n cap w) (x : ByteArray) :
    Calls Tryd.prog 44 #[.pointer (some ⟨b, 0, none⟩), .string x] w fun e w' => e = .returned (.tuple #[]) ∧ RdAt b ao n cap (mustS T 1 x s) w' ∧ But b w w' := by
  have HS := Lib.hid (eat_any h hE 1 x)
  have HE := Lib.hid hE
  clear h hE
  cases hs : seesB T 1 x s with
  | true =>
    have hm : Hid (mustS T 1 x s = adv s) := by show _ = _; unfold mustS; rw [if_pos hs]
    have he : Hid (eatS T 1 x s = adv s) := eat_yes hs
    go_enter Tryd.func44, Tryd.ntmps44
    go_wp2_with fail
    refine HS.out.mono ?_
    rintro e w1 ⟨rfl, h1, hb1⟩
    rw [hs]
    rw [he.out] at h1
    have H1 := Lib.hid h1
    clear hs h1
    go_wp2
    go_end0
    rw [hm.out]
    exact ⟨rfl, H1.out, hb1⟩
  | false =>
    have hm : Hid (mustS T 1 x s = missS T s) := by show _ = _; unfold mustS; rw [hs]; rfl
    have he : Hid (eatS T 1 x s = s) := eat_no hs
    go_enter Tryd.func44, Tryd.ntmps44
    go_wp2_with fail
    refine HS.out.mono ?_
    rintro e w1 ⟨rfl, h1, hb1⟩
    rw [hs]
    rw [he.out] at h1
    have H1 := Lib.hid h1
    clear hs h1
    go_wp2_with fail
    refine (miss_any H1.out (HE.out.but hb1)).mono ?_
    rintro e w2 ⟨rfl, h2, hb2⟩
    go_wp2
    go_end0
    rw [hm.out]
    exact ⟨rfl, h2, hb1.trans hb2⟩
end
end Go.Proofs.YtobnaokknkmlcaaDoor
/-
  The walks of package parse's reader, fourth part: names, numbers. Printed by prz.py.
-/
namespace Go.Proofs.YtobnaokknkmlcaaDoor
open Go.RowKit
set_option linter.unusedVariables false
set_option linter.unusedSimpArgs false

section
variable {T : List Tok} {b : Nat} {ao : Option Addr} {n cap : Nat} {s : PS} {w : World}
theorem kept_is {x : ByteArray} (hE : Env T b ao n cap w) {g : Bool} (hg : keptB x = g) : ∀ m, Calls Tryd.prog 42 #[.string x] (w.drewN m) fun e w' => e = .returned (.bool g) ∧ w' = w.drewN m := fun m => by
  subst hg
  have h := hE.same (Joins.below_draws _ _ m)
  exact (kept_any _ x _ h.kept h.rels).mono fun e w' ⟨h1, h2⟩ => ⟨h1, h2.symm⟩

set_option maxHeartbeats 2000000 in
theorem rname_any (h : RdAt b ao n cap s w) (hE : Env T b ao n cap w) :
    Calls Tryd.prog 22 #[.pointer (some ⟨b, 0, none⟩)] w fun e w' => e = .returned (.string (nameS T s).1) ∧ RdAt b ao n cap (nameS T s).2 w' ∧ But b w w' := by
  have H := Lib.hid h
  have HE := Lib.hid hE
  obtain ⟨c0, c1, c2, c3, fz⟩ := h.open
  have hlt := h.lt
  obtain ⟨l1, l2, l3, l4⟩ := hE.len
  have L1 := Lib.hid l1
  by_cases he : s.e = 0
  · have HG := Lib.hid (going_is h true (by simpa using he))
    have O1 := Lib.hid he
    by_cases hp : s.pos < T.length
    · have hp1 : (s.pos : Int) < n := by omega
      obtain ⟨c, off, hclt, hcb, hix, d0, d1, d2⟩ := hE.next2 hp
      have hN : Hid (nxt T s = some T[s.pos]) := by show _ = _; unfold nxt; rw [if_pos he, List.getElem?_eq_getElem hp]
      generalize T[s.pos] = t at hN d0 d1 d2
      by_cases hk : t.kind = 1
      · have hkb : (t.kind == 1) = true := by simpa using hk
        cases hq : keptB t.text with
        | true =>
          have hS : Hid (nameS T s = (ByteArray.empty, missS T s)) := by
            show _ = _
            unfold nameS
            rw [hN.out]
            simp [hq]
          have HK := Lib.hid (kept_is hE hq)
          clear h hE l1
          go_enter Tryd.func22, Tryd.ntmps22
          go_wp2_with fail
          go_quiet ((first | (go_at_call 20; with_reducible refine Calls.quiet_of_same (HG.out _)) | (go_at_call 42; with_reducible refine Calls.quiet_of_same (HK.out _))))
          have H1 : Hid (RdAt b ao n cap s (w.drewN nq)) := H.out.below (Joins.below_draws _ _ _)
          have B1 : Hid (But b w (w.drewN nq)) := But.drews nq
          have E1 : Hid (Env T b ao n cap (w.drewN nq)) := HE.out.same (Joins.below_draws _ _ _)
          generalize w.drewN nq = wx at H1 B1 E1 ⊢
          go_wp2_with fail
          refine (miss_any H1.out E1.out).mono ?_
          rintro e w1 ⟨rfl, h1, hb1⟩
          go_wp2
          go_ret
          rw [hS.out]
          exact ⟨rfl, h1, B1.out.trans hb1⟩
        | false =>
          have hS : Hid (nameS T s = (t.text, adv s)) := by
            show _ = _
            unfold nameS
            rw [hN.out]
            simp [hk, hq]
          have HK := Lib.hid (kept_is hE hq)
          clear h hE l1
          go_enter Tryd.func22, Tryd.ntmps22
          go_wp2_with fail
          go_quiet ((first | (go_at_call 20; with_reducible refine Calls.quiet_of_same (HG.out _)) | (go_at_call 42; with_reducible refine Calls.quiet_of_same (HK.out _))))
          have H1 : Hid (RdAt b ao n cap s (w.drewN nq)) := H.out.below (Joins.below_draws _ _ _)
          have B1 : Hid (But b w (w.drewN nq)) := But.drews nq
          have hix1 := hix
          replace d1 := (show (w.drewN nq).cell? ⟨c, off + s.pos * 3 + 1, none⟩ = _ from d1)
          replace hclt := (show c < (w.drewN nq).heap.size from hclt)
          generalize w.drewN nq = wx at H1 B1 d1 hclt ⊢
          obtain ⟨c0, c1, c2, c3, fz⟩ := H1.out.open
          have hlt := H1.out.lt
          have HA := Lib.hid (H1.out.adv O1.out)
          have HB : Hid (But b w (wx.setCell ⟨b, 1, none⟩ (.int .i64 (s.pos + 1)))) := B1.out.set 1 _
          have e1 : (wx.setCell ⟨b, 1, none⟩ (.int .i64 (s.pos + 1))).cell? ⟨c, off + s.pos * 3 + 1, none⟩ = _ := (World.cell?_setCell_other _ _ _ _ (by intro e; injection e with e; omega)).trans d1
          have e2 := (HA.out.open)
          obtain ⟨f0, f1, f2, f3, gz⟩ := e2
          have hltA := HA.out.lt
          have hcA : c < (wx.setCell ⟨b, 1, none⟩ (.int .i64 (s.pos + 1))).heap.size := by simpa using hclt
          replace f1 : (wx.setCell ⟨b, 1, none⟩ (.int .i64 (s.pos + 1))).cell? ⟨b, 1, none⟩ = some (.int .i64 (s.pos + 1)) := by rw [f1]; rfl
          clear f2 f3
          go_wp2_with fail
          generalize (wx.setCell ⟨b, 1, none⟩ (.int .i64 (s.pos + 1))) = wy at *
          go_quiet (fail)
          go_wp2
          go_ret
          rw [hS.out]
          exact ⟨rfl, HA.out.below (Joins.below_draws _ _ _), HB.out.trans (But.drews nq)⟩
      · have hkb : (t.kind == 1) = false := by simpa using hk
        have hS : Hid (nameS T s = (ByteArray.empty, missS T s)) := by
          show _ = _
          unfold nameS
          rw [hN.out]
          simp [hk]
        clear h hE l1
        go_enter Tryd.func22, Tryd.ntmps22
        go_wp2_with fail
        go_quiet ((first | (go_at_call 20; with_reducible refine Calls.quiet_of_same (HG.out _)) | (go_at_call 42; with_reducible refine Calls.quiet_of_same (HK.out _))))
        have H1 : Hid (RdAt b ao n cap s (w.drewN nq)) := H.out.below (Joins.below_draws _ _ _)
        have B1 : Hid (But b w (w.drewN nq)) := But.drews nq
        have E1 : Hid (Env T b ao n cap (w.drewN nq)) := HE.out.same (Joins.below_draws _ _ _)
        generalize w.drewN nq = wx at H1 B1 E1 ⊢
        go_wp2_with fail
        refine (miss_any H1.out E1.out).mono ?_
        rintro e w1 ⟨rfl, h1, hb1⟩
        go_wp2
        go_ret
        rw [hS.out]
        exact ⟨rfl, h1, B1.out.trans hb1⟩
    · have hp1 : (n : Int) ≤ s.pos := by omega
      have hpn : ¬ s.pos < n := by omega
      have hS : Hid (nameS T s = (ByteArray.empty, missS T s)) := by
        show _ = _
        unfold nameS nxt
        rw [if_pos he, List.getElem?_eq_none (by omega)]
      clear h hE l1
      go_enter Tryd.func22, Tryd.ntmps22
      go_wp2_with fail
      go_quiet ((first | (go_at_call 20; with_reducible refine Calls.quiet_of_same (HG.out _)) | (go_at_call 42; with_reducible refine Calls.quiet_of_same (HK.out _))))
      have H1 : Hid (RdAt b ao n cap s (w.drewN nq)) := H.out.below (Joins.below_draws _ _ _)
      have B1 : Hid (But b w (w.drewN nq)) := But.drews nq
      have E1 : Hid (Env T b ao n cap (w.drewN nq)) := HE.out.same (Joins.below_draws _ _ _)
      generalize w.drewN nq = wx at H1 B1 E1 ⊢
      go_wp2_with fail
      refine (miss_any H1.out E1.out).mono ?_
      rintro e w1 ⟨rfl, h1, hb1⟩
      go_wp2
      go_ret
      rw [hS.out]
      exact ⟨rfl, h1, B1.out.trans hb1⟩
  · have HG := Lib.hid (going_is h false (by simpa using he))
    have hS : Hid (nameS T s = (ByteArray.empty, missS T s)) := by
      show _ = _
      unfold nameS
      rw [nxt_stuck he]
    clear h hE l1
    go_enter Tryd.func22, Tryd.ntmps22
    go_wp2_with fail
    go_quiet ((first | (go_at_call 20; with_reducible refine Calls.quiet_of_same (HG.out _)) | (go_at_call 42; with_reducible refine Calls.quiet_of_same (HK.out _))))
    have H1 : Hid (RdAt b ao n cap s (w.drewN nq)) := H.out.below (Joins.below_draws _ _ _)
    have B1 : Hid (But b w (w.drewN nq)) := But.drews nq
    have E1 : Hid (Env T b ao n cap (w.drewN nq)) := HE.out.same (Joins.below_draws _ _ _)
    generalize w.drewN nq = wx at H1 B1 E1 ⊢
    go_wp2_with fail
    refine (miss_any H1.out E1.out).mono ?_
    rintro e w1 ⟨rfl, h1, hb1⟩
    go_wp2
    go_ret
    rw [hS.out]
    exact ⟨rfl, h1, B1.out.trans hb1⟩

set_option maxHeartbeats 2000000 in
theorem rnumber_any (h : RdAt b ao n cap s w) (hE : Env T b ao n cap w) :
    Calls Tryd.prog 45 #[.pointer (some ⟨b, 0, none⟩)] w fun e w' => e = .returned (.int .i64 (numS T s).1) ∧ RdAt b ao n cap (numS T s).2 w' ∧ But b w w' := by
  have H := Lib.hid h
  have HE := Lib.hid hE
  obtain ⟨c0, c1, c2, c3, fz⟩ := h.open
  have hlt := h.lt
  obtain ⟨l1, l2, l3, l4⟩ := hE.len
  have L1 := Lib.hid l1
  by_cases he : s.e = 0
  · have HG := Lib.hid (going_is h true (by simpa using he))
    have O1 := Lib.hid he
    by_cases hp : s.pos < T.length
    · have hp1 : (s.pos : Int) < n := by omega
      obtain ⟨c, off, hclt, hcb, hix, d0, d1, d2⟩ := hE.next2 hp
      have hN : Hid (nxt T s = some T[s.pos]) := by show _ = _; unfold nxt; rw [if_pos he, List.getElem?_eq_getElem hp]
      generalize T[s.pos] = t at hN d0 d1 d2
      by_cases hk : t.kind = 2
      · have hkb : (t.kind == 2) = true := by simpa using hk
        have hS : Hid (numS T s = (t.int, adv s)) := by
          show _ = _
          unfold numS
          rw [hN.out]
          simp [hk]
        clear h hE l1
        go_enter Tryd.func45, Tryd.ntmps45
        go_wp2_with fail
        go_quiet ((go_at_call 20; with_reducible refine Calls.quiet_of_same (HG.out _)))
        have H1 : Hid (RdAt b ao n cap s (w.drewN nq)) := H.out.below (Joins.below_draws _ _ _)
        have B1 : Hid (But b w (w.drewN nq)) := But.drews nq
        have hix1 := hix
        replace d2 := (show (w.drewN nq).cell? ⟨c, off + s.pos * 3 + 1 + 1, none⟩ = _ from d2)
        replace hclt := (show c < (w.drewN nq).heap.size from hclt)
        generalize w.drewN nq = wx at H1 B1 d2 hclt ⊢
        obtain ⟨c0, c1, c2, c3, fz⟩ := H1.out.open
        have hlt := H1.out.lt
        have HA := Lib.hid (H1.out.adv O1.out)
        have HB : Hid (But b w (wx.setCell ⟨b, 1, none⟩ (.int .i64 (s.pos + 1)))) := B1.out.set 1 _
        have e1 : (wx.setCell ⟨b, 1, none⟩ (.int .i64 (s.pos + 1))).cell? ⟨c, off + s.pos * 3 + 1 + 1, none⟩ = _ := (World.cell?_setCell_other _ _ _ _ (by intro e; injection e with e; omega)).trans d2
        have e2 := (HA.out.open)
        obtain ⟨f0, f1, f2, f3, gz⟩ := e2
        have hltA := HA.out.lt
        have hcA : c < (wx.setCell ⟨b, 1, none⟩ (.int .i64 (s.pos + 1))).heap.size := by simpa using hclt
        replace f1 : (wx.setCell ⟨b, 1, none⟩ (.int .i64 (s.pos + 1))).cell? ⟨b, 1, none⟩ = some (.int .i64 (s.pos + 1)) := by rw [f1]; rfl
        clear f2 f3
        go_wp2_with fail
        generalize (wx.setCell ⟨b, 1, none⟩ (.int .i64 (s.pos + 1))) = wy at *
        go_quiet (fail)
        go_wp2
        go_ret
        rw [hS.out]
        exact ⟨rfl, HA.out.below (Joins.below_draws _ _ _), HB.out.trans (But.drews nq)⟩
      · have hkb : (t.kind == 2) = false := by simpa using hk
        have hS : Hid (numS T s = (0, missS T s)) := by
          show _ = _
          unfold numS
          rw [hN.out]
          simp [hk]
        clear h hE l1
        go_enter Tryd.func45, Tryd.ntmps45
        go_wp2_with fail
        go_quiet ((go_at_call 20; with_reducible refine Calls.quiet_of_same (HG.out _)))
        have H1 : Hid (RdAt b ao n cap s (w.drewN nq)) := H.out.below (Joins.below_draws _ _ _)
        have B1 : Hid (But b w (w.drewN nq)) := But.drews nq
        have E1 : Hid (Env T b ao n cap (w.drewN nq)) := HE.out.same (Joins.below_draws _ _ _)
        generalize w.drewN nq = wx at H1 B1 E1 ⊢
        go_wp2_with fail
        refine (miss_any H1.out E1.out).mono ?_
        rintro e w1 ⟨rfl, h1, hb1⟩
        go_wp2
        go_ret
        rw [hS.out]
        exact ⟨rfl, h1, B1.out.trans hb1⟩
    · have hp1 : (n : Int) ≤ s.pos := by omega
      have hpn : ¬ s.pos < n := by omega
      have hS : Hid (numS T s = (0, missS T s)) := by
        show _ = _
        unfold numS nxt
        rw [if_pos he, List.getElem?_eq_none (by omega)]
      clear h hE l1
      go_enter Tryd.func45, Tryd.ntmps45
      go_wp2_with fail
      go_quiet ((go_at_call 20; with_reducible refine Calls.quiet_of_same (HG.out _)))
      have H1 : Hid (RdAt b ao n cap s (w.drewN nq)) := H.out.below (Joins.below_draws _ _ _)
      have B1 : Hid (But b w (w.drewN nq)) := But.drews nq
      have E1 : Hid (Env T b ao n cap (w.drewN nq)) := HE.out.same (Joins.below_draws _ _ _)
      generalize w.drewN nq = wx at H1 B1 E1 ⊢
      go_wp2_with fail
      refine (miss_any H1.out E1.out).mono ?_
      rintro e w1 ⟨rfl, h1, hb1⟩
      go_wp2
      go_ret
      rw [hS.out]
      exact ⟨rfl, h1, B1.out.trans hb1⟩
  · have HG := Lib.hid (going_is h false (by simpa using he))
    have hS : Hid (numS T s = (0, missS T s)) := by
      show _ = _
      unfold numS
      rw [nxt_stuck he]
    clear h hE l1
    go_enter Tryd.func45, Tryd.ntmps45
    go_wp2_with fail
    go_quiet ((go_at_call 20; with_reducible refine Calls.quiet_of_same (HG.out _)))
    have H1 : Hid (RdAt b ao n cap s (w.drewN nq)) := H.out.below (Joins.below_draws _ _ _)
    have B1 : Hid (But b w (w.drewN nq)) := But.drews nq
    have E1 : Hid (Env T b ao n cap (w.drewN nq)) := HE.out.same (Joins.below_draws _ _ _)
    generalize w.drewN nq = wx at H1 B1 E1 ⊢
    go_wp2_with fail
    refine (miss_any H1.out E1.out).mono ?_
    rintro e w1 ⟨rfl, h1, hb1⟩
    go_wp2
    go_ret
    rw [hS.out]
    exact ⟨rfl, h1, B1.out.trans hb1⟩
end
end Go.Proofs.YtobnaokknkmlcaaDoor
/-
  The walk of package parse's reader, fifth part: an operand.
-/
namespace Go.Proofs.YtobnaokknkmlcaaDoor
open Go.RowKit
set_option linter.unusedVariables false
set_option linter.unusedSimpArgs false

section
variable {T : List Tok} {b : Nat} {ao : Option Addr} {n cap : Nat} {s : PS} {w : World}

theorem RdAt.put (h : RdAt b ao n cap s w) {p : Addr} (hp : p.block ≠ b) (v : Value) : RdAt b ao n cap s (w.setCell p v) := (Below.heap_setCell _ _ _ _ (Ne.symm hp)).trans h
theorem six_put {u : World} (hA : RdAt b ao n cap s w) (hB : But b u w) {z : Nat} (hz : u.heap.size ≤ z) (hb : b < u.heap.size) (v0 v1 v2 v3 v4 v5 : Value) :
    RdAt b ao n cap s ((((((w.setCell ⟨z, 0, none⟩ v0).setCell ⟨z, 1, none⟩ v1).setCell ⟨z, 2, none⟩ v2).setCell ⟨z, 3, none⟩ v3).setCell ⟨z, 4, none⟩ v4).setCell ⟨z, 5, none⟩ v5) ∧
    But b u ((((((w.setCell ⟨z, 0, none⟩ v0).setCell ⟨z, 1, none⟩ v1).setCell ⟨z, 2, none⟩ v2).setCell ⟨z, 3, none⟩ v3).setCell ⟨z, 4, none⟩ v4).setCell ⟨z, 5, none⟩ v5) := by
  have hne : z ≠ b := by omega
  exact ⟨(((((hA.put (p := ⟨z, 0, none⟩) hne v0).put (p := ⟨z, 1, none⟩) hne v1).put (p := ⟨z, 2, none⟩) hne v2).put (p := ⟨z, 3, none⟩) hne v3).put (p := ⟨z, 4, none⟩) hne v4).put (p := ⟨z, 5, none⟩) hne v5,
    (((((hB.put (p := ⟨z, 0, none⟩) hz hb v0).put (p := ⟨z, 1, none⟩) hz hb v1).put (p := ⟨z, 2, none⟩) hz hb v2).put (p := ⟨z, 3, none⟩) hz hb v3).put (p := ⟨z, 4, none⟩) hz hb v4).put (p := ⟨z, 5, none⟩) hz hb v5⟩

set_option maxHeartbeats 2000000 in
theorem operand_num (h : RdAt b ao n cap s w) (hE : Env T b ao n cap w) (t : Tok) (hN : nxt T s = some t) (hk : t.kind = 2) :
    Calls Tryd.prog 55 #[.pointer (some ⟨b, 0, none⟩)] w fun e w' => e = .returned (.agg (opdC (opdS T s).1).toArray) ∧ RdAt b ao n cap (opdS T s).2 w' ∧ But b w w' := by
  have he : s.e = 0 := by
    unfold nxt at hN
    by_cases he : s.e = 0
    · exact he
    · rw [if_neg he] at hN; cases hN
  have hp : s.pos < T.length := by
    unfold nxt at hN
    rw [if_pos he] at hN
    exact (List.getElem?_eq_some_iff.1 hN).1
  obtain ⟨c, off, hclt, hcb, hix, d0, d1, d2⟩ := hE.next2 hp
  have hTt : T[s.pos] = t := by
    unfold nxt at hN
    rw [if_pos he, List.getElem?_eq_getElem hp] at hN
    injection hN
  rw [hTt] at d0 d1 d2
  have hS : Hid (opdS T s = (⟨1, 1, t.int, ByteArray.empty, ByteArray.empty, ByteArray.empty⟩, adv s)) := by
    show _ = _
    unfold opdS
    rw [hN]
    simp [hk]
  have H := Lib.hid h
  obtain ⟨c0, c1, c2, c3, fz⟩ := h.open
  have hlt := h.lt
  obtain ⟨l1, l2, l3, l4⟩ := hE.len
  have hp1 : (s.pos : Int) < n := by omega
  have hp7 : (s.pos : Int) ≤ 700 := by omega
  have HG : Hid (∀ wx, Below w.heap.size w wx → ∀ m, Calls Tryd.prog 20 #[.pointer (some ⟨b, 0, none⟩)] (wx.drewN m) fun e w' => e = .returned (.bool true) ∧ w' = wx.drewN m) := fun wx hb => going_is (h.below hb) true (by simpa using he)
  have O1 := Lib.hid he
  have hkb : (t.kind == 2) = true := by simpa using hk
  clear h hE l1 hTt hN he
  go_enter Tryd.func55, Tryd.ntmps55
  go_wp2_with fail
  go_quiet ((go_at_call 20; with_reducible refine Calls.quiet_of_same (HG.out _ (Joins.below_alloc1 w _) _)))
  have hbz : w.heap.size ≠ b := by omega
  have HB : Hid (But b w ((w.alloc (.cells #[.int .i64 0, .int .i64 0, .int .i64 0, .string ⟨#[]⟩, .string ⟨#[]⟩, .string ⟨#[]⟩] 79)).drewN nq)) := ((But.refl b w).alloc (by omega) _).trans (But.drews nq)
  have HZ : Hid (((w.alloc (.cells #[.int .i64 0, .int .i64 0, .int .i64 0, .string ⟨#[]⟩, .string ⟨#[]⟩, .string ⟨#[]⟩] 79)).drewN nq).heap[w.heap.size]? = some (.cells #[.int .i64 0, .int .i64 0, .int .i64 0, .string ⟨#[]⟩, .string ⟨#[]⟩, .string ⟨#[]⟩] 79 (0, 0))) := heap_alloc_new w _
  have HR : Hid (RdAt b ao n cap s ((w.alloc (.cells #[.int .i64 0, .int .i64 0, .int .i64 0, .string ⟨#[]⟩, .string ⟨#[]⟩, .string ⟨#[]⟩] 79)).drewN nq)) := (H.out.below (Joins.below_alloc1 w _)).below (Joins.below_draws _ _ _)
  replace d0 := (HB.out.cell hclt hcb _).trans d0
  replace d1 := (HB.out.cell hclt hcb _).trans d1
  replace d2 := (HB.out.cell hclt hcb _).trans d2
  have hcx := Nat.lt_of_lt_of_le hclt HB.out.size
  clear c0 c1 c2 c3 fz hclt HG
  generalize ((w.alloc (.cells #[.int .i64 0, .int .i64 0, .int .i64 0, .string ⟨#[]⟩, .string ⟨#[]⟩, .string ⟨#[]⟩] 79)).drewN nq) = wx at *
  obtain ⟨c0, c1, c2, c3, fz⟩ := HR.out.open
  have hltx := HR.out.lt
  have hzx : w.heap.size < wx.heap.size := (Array.getElem?_eq_some_iff.1 HZ.out).1
  have HW := Lib.hid hlt
  generalize hz : w.heap.size = z at *
  have HZW := Lib.hid hz
  clear hz
  go_wp2_with fail
  go_region
  go_simp
  rename_i K1 h1 K2 h2
  apply h2
  have HB2 : Hid (But b w (wx.alloc (.cells #[.int .i64 2, .string t.text, .int .i64 t.int] 34)).drew) := (HB.out.alloc (by omega) _).drew
  have HR2 : Hid (RdAt b ao n cap s (wx.alloc (.cells #[.int .i64 2, .string t.text, .int .i64 t.int] 34)).drew) := (HR.out.below (Joins.below_alloc1 _ _)).below (Joins.below_draws _ _ 1)
  have HZ2 : Hid ((wx.alloc (.cells #[.int .i64 2, .string t.text, .int .i64 t.int] 34)).drew.heap[z]? = _) := (Below.heap_alloc wx _ z hzx).trans HZ.out
  have HQ : Hid ((wx.alloc (.cells #[.int .i64 2, .string t.text, .int .i64 t.int] 34)).drew.heap[wx.heap.size]? = _) := heap_alloc_new wx _
  have hqb : wx.heap.size ≠ b := by omega
  have hqz : wx.heap.size ≠ z := by omega
  clear c0 c1 c2 c3 fz d0 d1 d2 hix hcx HB HR HZ
  generalize (wx.alloc (.cells #[.int .i64 2, .string t.text, .int .i64 t.int] 34)).drew = wy at *
  generalize wx.heap.size = q at *
  obtain ⟨c0, c1, c2, c3, fz⟩ := HR2.out.open
  have hlty := HR2.out.lt
  have zf : ∀ j, wy.frozen? ⟨z, j, none⟩ = false := fun j => Lib.frozen_of_heap HZ2.out j
  have q0 : wy.cell? ⟨q, 0, none⟩ = some (.int .i64 2) := by rw [Lib.cell_of_heap HQ.out]; rfl
  have q1 : wy.cell? ⟨q, 1, none⟩ = some (.string t.text) := by rw [Lib.cell_of_heap HQ.out]; rfl
  have q2 : wy.cell? ⟨q, 2, none⟩ = some (.int .i64 t.int) := by rw [Lib.cell_of_heap HQ.out]; rfl
  have z0 : wy.cell? ⟨z, 0, none⟩ = some (.int .i64 0) := by rw [Lib.cell_of_heap HZ2.out]; rfl
  have z1 : wy.cell? ⟨z, 1, none⟩ = some (.int .i64 0) := by rw [Lib.cell_of_heap HZ2.out]; rfl
  have z2 : wy.cell? ⟨z, 2, none⟩ = some (.int .i64 0) := by rw [Lib.cell_of_heap HZ2.out]; rfl
  have z3 : wy.cell? ⟨z, 3, none⟩ = some (.string ⟨#[]⟩) := by rw [Lib.cell_of_heap HZ2.out]; rfl
  have z4 : wy.cell? ⟨z, 4, none⟩ = some (.string ⟨#[]⟩) := by rw [Lib.cell_of_heap HZ2.out]; rfl
  have z5 : wy.cell? ⟨z, 5, none⟩ = some (.string ⟨#[]⟩) := by rw [Lib.cell_of_heap HZ2.out]; rfl
  have hzy : z < wy.heap.size := (Array.getElem?_eq_some_iff.1 HZ2.out).1
  have HADV := Lib.hid (HR2.out.adv O1.out)
  have HB3 : Hid (But b w (wy.setCell ⟨b, 1, none⟩ (.int .i64 (s.pos + 1)))) := HB2.out.set 1 _
  go_wp2
  refine bodyPost_ret (v := .agg #[.int .i64 1, .int .i64 1, .int .i64 t.int, .string ⟨#[]⟩, .string ⟨#[]⟩, .string ⟨#[]⟩]) (by simp [results, Tryd.results55, go_sem, World.cell?_setCell_other, z0, z1, z2, z3, z4, z5, hbz]) rfl ?_
  rw [hS.out]
  obtain ⟨r1, r2⟩ := six_put HADV.out HB3.out (Nat.le_of_eq HZW.out) (by rw [HZW.out]; exact hlt) (.int .i64 1) (.int .i64 1) (.int .i64 t.int) (.string ⟨#[]⟩) (.string ⟨#[]⟩) (.string ⟨#[]⟩)
  exact ⟨rfl, r1, r2⟩
end
end Go.Proofs.YtobnaokknkmlcaaDoor
