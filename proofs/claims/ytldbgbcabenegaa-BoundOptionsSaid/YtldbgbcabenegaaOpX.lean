/-
  The walk of package bound's Options.
-/
import Derived.Test.YtldbgbcabenegaaOpC
namespace Go.Proofs.Ytldbgbcabenegaa
open Go.RowKit
set_option linter.unusedVariables false
set_option linter.unusedSimpArgs false

def OptsPost (os : List Opt) (w : World) (x : Ending) (w' : World) : Prop :=
  ∃ ao n cap l, x = .returned (.tuple #[.slice ao n cap, .int .i64 (if optsE os = 0 then (if l.isEmpty = true then 16 else 0) else optsE os)]) ∧ l = (if optsE os = 0 then accL os os.length else []) ∧ Below w.heap.size w w' ∧ SlF (from_ w.heap.size) w' 1 lineF ao n cap l

set_option maxHeartbeats 2000000 in
set_option maxRecDepth 100000 in
theorem options_any (F : Nat → Prop) (ao : Option Addr) (n cap : Nat) (os : List Opt) (w : World) (hO : SlF F w 3 optF ao n cap os) :
    Calls Try.prog 4 #[.slice ao n cap] w (OptsPost os w) := by
  have NL : Hid (n = os.length) := hO.len
  have hle := hO.le
  have eY := nil_yes
  go_enter Try.func4, Try.ntmps4
  go_wp2_with fail
  go_loopw [14] (fun i wr => ∃ k : Nat, k ≤ n ∧ i = .int .i64 k ∧ Below w.heap.size w wr ∧ Hid (AllZ (optAt os) k)) (fun i _ => n - (intOf i).toNat)
  case atStart => exact ⟨0, by omega, rfl, Below.refl _ _, allZ_zero _⟩
  case round =>
    obtain ⟨k, hk, rfl, hbr, HA⟩ := hrel
    by_cases hlt : k < n
    · have hkl : k < os.length := by have := NL.out; omega
      obtain ⟨b, off, row, hix, hblt, hrow, hrr⟩ := (hO.below optF_firm hbr).toR.index (P := Try.prog) Try.underlying22 size_option (i := k) hkl
      obtain rfl : row = optC os[k] := hrr
      obtain ⟨c0, c1, c2⟩ := hrow.three
      have hk1 : (k : Int) < n := by omega
      go_wp2_with fail
      refine (optCheck_any _ _ _ _).mono ?_
      rintro e w1 ⟨rfl, hb1⟩
      have hbr1 : Below w.heap.size w w1 := (hbr.trans ((Joins.below_alloc1 wr _).mono hbr.size)).trans (hb1.mono (by have := hbr.size; simp; omega))
      have HE : Hid (optAt os k = optE os[k].rel os[k].lo os[k].hi) := by show _ = _; unfold optAt; simp [List.getD, List.getElem?_eq_getElem hkl]
      by_cases hz : optE os[k].rel os[k].lo os[k].hi = 0
      · have hA2 : Hid (AllZ (optAt os) (k + 1)) := allZ_succ HA.out (by rw [HE.out]; exact hz)
        go_wp2
        go_roundw
        case rel => exact ⟨k + 1, by omega, by go_num, hbr1, hA2⟩
        case measure => simp [intOf]; omega
      · have hf : optsE os = optE os[k].rel os[k].lo os[k].hi := by
          unfold optsE
          rw [firstN_at HA.out hkl (by rw [HE.out]; exact hz), HE.out]
        have hzb : (optE os[k].rel os[k].lo os[k].hi != 0) = true := by simpa using hz
        have hz2 : ¬ optsE os = 0 := by rw [hf]; exact hz
        have HF := Lib.hid hf
        clear hf
        generalize optE os[k].rel os[k].lo os[k].hi = ee at *
        go_wp2
        go_ret2
        refine ⟨none, 0, 0, [], ?_, by rw [if_neg hz2], hbr1, SlF.nil⟩
        rw [if_neg hz2, HF.out]
        rfl
    · obtain rfl : k = n := by omega
      have hz : optsE os = 0 := by unfold optsE; rw [← NL.out]; exact firstN_zero HA.out
      have HZ := Lib.hid hz
      have OKs : Hid (∀ j, j < k → optAt os j = 0) := HA.out
      obtain ⟨wl, hwl⟩ : ∃ wl : World, Hid (wl = wr) := ⟨_, rfl⟩
      clear hz HA
      go_wp2_with fail
      go_loopw [7, 26] (fun o i wr => ∃ q : Nat, q ≤ k ∧ i = .int .i64 q ∧ Below w.heap.size w wr ∧ ∃ ao2 n2 cap2, o = .slice ao2 n2 cap2 ∧ Hid (SlF (from_ w.heap.size) wr 1 lineF ao2 n2 cap2 (accL os q)) ∧ Hid (accL os q = [] → ao2 = none)) (fun _ i _ => k - (intOf i).toNat)
      case atStart => exact ⟨0, by omega, rfl, hbr, none, 0, 0, rfl, SlF.nil, fun _ => rfl⟩
      case round =>
        clear hbr hwl
        obtain ⟨q, hq, rfl, hbr, ao2, n2, cap2, rfl, HS, HN⟩ := hrel
        by_cases hlt : q < k
        · have hql : q < os.length := by have := NL.out; omega
          obtain ⟨b, off, row, hix, hblt, hrow, hrr⟩ := (hO.below optF_firm hbr).toR.index (P := Try.prog) Try.underlying22 size_option (i := q) hql
          obtain rfl : row = optC os[q] := hrr
          obtain ⟨c0, c1, c2⟩ := hrow.three
          have hq1 : (q : Int) < k := by omega
          have hoq : optE os[q].rel os[q].lo os[q].hi = 0 := by
            have := OKs.out q hlt
            unfold optAt at this
            simpa [List.getD, List.getElem?_eq_getElem hql] using this
          obtain ⟨v1, v2, v3⟩ := optE_zero hoq
          have HX : Hid (accL os (q + 1) = stepL (accL os q) os[q]) := accL_next os q hql
          have hle2 := HS.out.le
          have hsr := hbr.size
          go_wp2_with fail
          refine (one_any _ _ _ _ v1 v2).mono ?_
          rintro e w1 h1
          have HOP : Hid (OnePost (optL os[q].rel os[q].lo os[q].hi) (wr.alloc (.cells #[.int .i64 os[q].rel, .int .i64 os[q].lo, .int .i64 os[q].hi] 31)) e w1) := h1
          clear h1 hrow hix c0 c1 c2 hoq v1 v2 v3
          have hsa : (wr.alloc (.cells #[.int .i64 os[q].rel, .int .i64 os[q].lo, .int .i64 os[q].hi] 31)).heap.size = wr.heap.size + 1 := World.size_alloc _ _
          rcases HOP.out with ⟨hn, rfl, hb1⟩ | ⟨l, ao3, cap3, hn, hl4, rfl, hb1, hS3⟩
          · have hb2 : Below wr.heap.size wr w1 := (Joins.below_alloc1 wr _).trans (hb1.mono (by simp))
            have HS2 : Hid (SlF (from_ w.heap.size) w1 1 lineF ao2 n2 cap2 (accL os (q + 1))) := by
              show SlF _ _ _ _ _ _ _ _
              rw [HX.out]
              unfold stepL
              rw [hn]
              exact HS.out.below lineF_firm hb2
            have HN2 : Hid (accL os (q + 1) = [] → ao2 = none) := by
              show _ → _
              rw [HX.out]
              unfold stepL
              rw [hn]
              exact HN.out
            clear HS HN HX HOP hn hb1
            go_wp2
            go_roundw
            case rel => exact ⟨q + 1, by omega, by go_num, hbr.trans (hb2.mono hsr), _, _, _, rfl, HS2, HN2⟩
            case measure => simp [intOf]; omega
          · have hb2 : Below wr.heap.size wr w1 := (Joins.below_alloc1 wr _).trans (hb1.mono (by simp))
            have hs2 := hb2.size
            have hS4 : SlF (from_ w.heap.size) w1 1 lineF ao3 4 cap3 l := hS3.wide lineF_firm (fun b hb _ => by unfold from_ at *; omega)
            have hl0 : l ≠ [] := fun e => by rw [e] at hl4; cases hl4
            cases hacc : accL os q with
            | nil =>
              have hn2 : n2 = 0 := by have := HS.out.len; rw [hacc] at this; exact this
              have hao2 : ao2 = none := HN.out hacc
              subst hn2 hao2
              have hcap2 : cap2 = 0 := HS.out.2.2.2.1 rfl
              subst hcap2
              have HS2 : Hid (SlF (from_ w.heap.size) w1 1 lineF ao3 4 cap3 (accL os (q + 1))) := by
                show SlF _ _ _ _ _ _ _ _
                rw [HX.out]
                unfold stepL
                rw [hn, hacc]
                exact hS4
              have HN2 : Hid (accL os (q + 1) = [] → ao3 = none) := by
                show _ → _
                rw [HX.out]
                unfold stepL
                rw [hn, hacc]
                exact fun e => absurd e hl0
              clear HS HN HX HOP hn hb1 hS3 hS4 hacc hl4
              go_wp2
              go_roundw
              case rel => exact ⟨q + 1, by omega, by go_num, hbr.trans (hb2.mono hsr), _, _, _, rfl, HS2, HN2⟩
              case measure => simp [intOf]; omega
            | cons x xs =>
              have hne : accL os q ≠ [] := by rw [hacc]; exact List.cons_ne_nil _ _
              have hie : (accL os q).isEmpty = false := by rw [hacc]; rfl
              obtain ⟨b5, o5, e5⟩ := slF_some HS.out hne
              subst e5
              have hS5 := HS.out.below lineF_firm hb2
              have eN := nil_no b5 o5 n2 cap2
              have hn5 : ¬ n2 = 0 := fun e => hne (List.eq_nil_of_length_eq_zero (by rw [← HS.out.len, e]))
              have HXX : Hid (accL os (q + 1) = joinM max (accL os q) l) := by
                show _ = _
                rw [HX.out]
                unfold stepL
                rw [hn, hie]
                rfl
              have HS5 := Lib.hid hS5
              have HS4 := Lib.hid hS4
              have HNE := Lib.hid hne
              clear HS HN HX HOP hn hb1 hS3 hS4 hacc hl4 hS5 hne hie
              go_wp2_with fail
              refine (either_more _ _ _ n2 cap2 (accL os q) ao3 4 cap3 l w1 HS5.out HS4.out HNE.out).mono ?_
              rintro e w3 ⟨ao6, n6, cap6, rfl, hb6, hS6, hN6⟩
              have HS6 : Hid (SlF (from_ w.heap.size) w3 1 lineF ao6 n6 cap6 (accL os (q + 1))) := by
                show SlF _ _ _ _ _ _ _ _
                rw [HXX.out]
                exact hS6.wide lineF_firm (fun b hb _ => by unfold from_ at *; omega)
              have HN6 : Hid (accL os (q + 1) = [] → ao6 = none) := by
                show _ → _
                rw [HXX.out]
                exact hN6
              clear hS6 hN6
              go_wp2
              go_roundw
              case rel => exact ⟨q + 1, by omega, by go_num, (hbr.trans (hb2.mono hsr)).trans (hb6.mono (by omega)), _, _, _, rfl, HS6, HN6⟩
              case measure => simp [intOf]; omega
        · obtain rfl : q = k := by omega
          rw [NL.out] at HS HN
          have hle2 := HS.out.le
          cases hacc : accL os os.length with
          | nil =>
            have hn2 : n2 = 0 := by have := HS.out.len; rw [hacc] at this; exact this
            have hao2 : ao2 = none := HN.out hacc
            subst hn2 hao2
            have hcap2 : cap2 = 0 := HS.out.2.2.2.1 rfl
            subst hcap2
            have HC := Lib.hid hacc
            clear hacc HS HN
            go_wp2
            go_ret2
            refine ⟨none, 0, 0, [], ?_, by rw [if_pos HZ.out, HC.out], hbr, SlF.nil⟩
            rw [if_pos HZ.out]
            rfl
          | cons x xs =>
            have hne : accL os os.length ≠ [] := by rw [hacc]; exact List.cons_ne_nil _ _
            obtain ⟨b5, o5, e5⟩ := slF_some HS.out hne
            subst e5
            have eN := nil_no b5 o5 n2 cap2
            have HC : Hid ((accL os os.length).isEmpty = false) := by show _ = _; rw [hacc]; rfl
            clear hacc HN hne
            go_wp2
            go_ret2
            refine ⟨_, n2, cap2, accL os os.length, ?_, by rw [if_pos HZ.out], hbr, HS.out⟩
            rw [if_pos HZ.out, HC.out]
            rfl
end Go.Proofs.Ytldbgbcabenegaa
