/-
  The law JoinEvents, proved: for every argument it answers true; its card, tied to the tables of the program's text. No condition but the tie.
-/
import Derived.Test.YtnbnmcadoekcfaaDoorChkO
import Derived.Test.YtnbnmcadoekcfaaDoorPgI
import Derived.Test.YtnbnmcadoekcfaaDoorPgKN
import Derived.Test.YtnbnmcadoekcfaaDoorValX
import Derived.Test.YtnbnmcadoekcfaaDoorOpen
import Derived.Test.YtnbnmcadoekcfaaDoorValF
import Derived.Test.YtnbnmcadoekcfaaDoorChkB
import Derived.Test.YtnbnmcadoekcfaaDoorSpanW
import Derived.RegionTactic
import Derived.Deep.RegionWith
import Derived.Test.YtnbnmcadoekcfaaDoorMmC
import Derived.Test.YtnbnmcadoekcfaaDoorCopy
import Derived.Test.YtnbnmcadoekcfaaDoorCards
import Derived.Test.YtnbnmcadoekcfaaDoorTie
import Derived.Test.YtnbnmcadoekcfaaDoorLawRow
import Derived.Test.YtnbnmcadoekcfaaDoorKnob
namespace Go.Proofs.YtnbnmcadoekcfaaDoor
open Go.RowKit
set_option linter.unusedVariables false
set_option linter.unusedSimpArgs false

theorem btyp_good {b : Bok} (h : AllZ (btypE b) b.types.length) : ∀ t ∈ b.types, typE t.name t.fields = 0 := fun t ht => by
  obtain ⟨i, hi, rfl⟩ := List.mem_iff_getElem.1 ht
  have hz := h i hi
  rw [btypE_at hi] at hz
  unfold btypP at hz
  apply Classical.byContradiction
  intro hn
  rw [if_pos hn] at hz
  exact hn hz
/-- None of the fields ahead of place m has a word's name; nor has the type. -/
def okB (t : Typ) (m : Nat) : Bool := !keptB t.name && !(t.fields.take m).any (fun f => keptB f.name)
theorem okB_zero (t : Typ) : okB t 0 = !keptB t.name := by unfold okB; simp
theorem okB_succ {t : Typ} {m : Nat} (h : m < t.fields.length) : okB t (m + 1) = (okB t m && !keptB t.fields[m].name) := by
  unfold okB
  rw [List.take_add_one, List.getElem?_eq_getElem h, List.any_append]
  simp [Bool.and_assoc]
theorem okB_end (t : Typ) (m : Nat) (h : t.fields.length ≤ m) : okB t m = (!keptB t.name && !t.fields.any (fun f => keptB f.name)) := by
  unfold okB
  rw [List.take_of_length_le h]
section
variable {g : Nat} {F : Nat → Prop} {w0 : World}
set_option maxRecDepth 8000 in
set_option maxHeartbeats 16000000 in
theorem check_size (hg : g < w0.heap.size) (E : Env F w0) (hF : ∀ b, F b → b < w0.heap.size) (b : Bok) (a1 : Option Addr) (n1 c1 : Nat) (a2 : Option Addr) (n2 c2 : Nat) (X1 : SlF F w0 2 typF a1 n1 c1 b.types) (X2 : SlF F w0 7 rulF a2 n2 c2 b.rules) (hts : ∀ t ∈ b.types, typOk t) (hrs : ∀ x ∈ b.rules, RulFit x) (hes : ∀ x ∈ b.rules, x.etype.size ≤ maxLen) (h0 : 6 < b.types.length ∨ 5 < b.rules.length) : Calls Tryd.prog 13 #[.agg #[.slice a1 n1 c1, .slice a2 n2 c2]] w0 fun e w' => e = .returned (.int .i64 (bookE b)) ∧ Below w0.heap.size w0 w' := by
  have HV : Hid (bookE b = 1) := by show _ = _; unfold bookE; rw [if_pos h0]
  have M := Mem.begin hg ⟨0, 0⟩
  have N1 := X1.len
  have N2 := X2.len
  by_cases c1 : 6 < n1
  · have d1 : decide ((6 : Int) < n1) = true := by simp; omega
    clear h0 X1 X2 hts hrs hg N1 N2 E hF hes
    go_enter Tryd.func13, Tryd.ntmps13
    go_wp2_with (first | (with_reducible (first | (refine wb (L := []) M ?_; clear M; intro za w1 M) | refine wl M ?_ | refine wlg M ?_ | (refine ws M ?_; clear M; intro w M) | (refine wsc M ?_; clear M; intro w M) | (refine wv M ?_; clear M; intro z w M) | (refine wr M ?_; clear M; intro q w M) | refine o_skipT ?_ | refine o_skipF ?_)))
    go_ret
    rw [HV.out]
    exact ⟨rfl, M.new⟩
  · have d1 : decide ((6 : Int) < n1) = false := by simp; omega
    have d2 : decide ((5 : Int) < n2) = true := by simp; omega
    clear h0 X1 X2 hts hrs hg N1 N2 E hF hes
    go_enter Tryd.func13, Tryd.ntmps13
    go_wp2_with (first | (with_reducible (first | (refine wb (L := []) M ?_; clear M; intro za w1 M) | refine wl M ?_ | refine wlg M ?_ | (refine ws M ?_; clear M; intro w M) | (refine wsc M ?_; clear M; intro w M) | (refine wv M ?_; clear M; intro z w M) | (refine wr M ?_; clear M; intro q w M) | refine o_skipT ?_ | refine o_skipF ?_)))
    go_ret
    rw [HV.out]
    exact ⟨rfl, M.new⟩
set_option maxRecDepth 8000 in
set_option maxHeartbeats 16000000 in
theorem check_main (hg : g < w0.heap.size) (E : Env F w0) (hF : ∀ b, F b → b < w0.heap.size) (b : Bok) (a1 : Option Addr) (n1 c1 : Nat) (a2 : Option Addr) (n2 c2 : Nat) (X1 : SlF F w0 2 typF a1 n1 c1 b.types) (X2 : SlF F w0 7 rulF a2 n2 c2 b.rules) (hts : ∀ t ∈ b.types, typOk t) (hrs : ∀ x ∈ b.rules, RulFit x) (hes : ∀ x ∈ b.rules, x.etype.size ≤ maxLen) (h0 : ¬ (6 < b.types.length ∨ 5 < b.rules.length)) : Calls Tryd.prog 13 #[.agg #[.slice a1 n1 c1, .slice a2 n2 c2]] w0 fun e w' => e = .returned (.int .i64 (bookE b)) ∧ Below w0.heap.size w0 w' := by
  have M := Mem.begin hg ⟨0, 0⟩
  have N1 := Lib.hid X1.len
  have N2 := Lib.hid X2.len
  have hle1 := X1.le
  have hle2 := X2.le
  have d1 : decide ((6 : Int) < n1) = false := by have := N1.out; simp; omega
  have d2 : decide ((5 : Int) < n2) = false := by have := N2.out; simp; omega
  have hn2 : Hid (b.rules.length ≤ 1000000) := by show _ ≤ _; omega
  replace h0 := Lib.hid h0
  replace X1 := Lib.hid X1
  replace X2 := Lib.hid X2
  replace hts := Lib.hid hts
  replace hrs := Lib.hid hrs
  replace hes := Lib.hid hes
  replace E := Lib.hid E
  replace hF := Lib.hid hF
  replace hg := Lib.hid hg
  go_enter Tryd.func13, Tryd.ntmps13
  go_wp2_with (first | (with_reducible (first | (refine wb (L := []) M ?_; clear M; intro za w1 M) | refine wl M ?_ | refine wlg M ?_ | (refine ws M ?_; clear M; intro w M) | (refine wsc M ?_; clear M; intro w M) | (refine wv M ?_; clear M; intro z w M) | (refine wr M ?_; clear M; intro q w M) | refine o_skipT ?_ | refine o_skipF ?_)))
  go_loopg [29] n1 (fun f i wr => ∃ (j : Nat), j + f = n1 ∧ i = .int .i64 j ∧ Mem (StaysB g w0) g w0 wr ⟨0, 0⟩ (own za [.slice a1 n1 c1, .slice a2 n2 c2] 25 :: []) ∧ Hid (AllZ (btypE b) j))
  case atStart => exact ⟨0, by omega, rfl, M, allZ_zero _⟩
  case round =>
    clear M
    obtain ⟨j, hj, rfl, M, HZ⟩ := hrel
    by_cases hlt : j < n1
    · have hkl : j < b.types.length := by have := N1.out; omega
      have HE : Hid (∀ e, btypP (b.types.take j) b.types[j] j = e → e ≠ 0 → bookE b = e) := fun e he hn => book_type h0.out HZ.out hkl (by rw [btypE_at hkl]; exact he) hn
      have HZ2 : Hid (btypP (b.types.take j) b.types[j] j = 0 → AllZ (btypE b) (j + 1)) := fun h => allZ_succ HZ.out (by rw [btypE_at hkl]; exact h)
      obtain ⟨ct, ot, rowt, hixt, -, hrrt, hwt⟩ := SlF.rowAt (P := Tryd.prog) X1.out typF_firm Tryd.underlying22 size_typ (i := j) hkl
      obtain ⟨p1, q1, s1, et, ut⟩ := hrrt
      subst et
      have HR := Lib.hid (fun wx hb => (hwt wx hb).1)
      have hto := hts.out _ (List.getElem_mem hkl)
      have hjc : j ≤ c1 := by omega
      have HXJ : Hid (SlF F w0 2 typF a1 j c1 (b.types.take j)) := X1.out.take j c1 (by omega) (by omega) (Nat.le_refl _)
      have HTL : Hid ((b.types.take j).length = j) := by show _ = _; rw [List.length_take]; omega
      generalize b.types[j] = t at HE HZ2 HR hto ut
      unfold btypP at HE HZ2
      have HTF : Hid (∀ wx, Below w0.heap.size w0 wx → Calls Tryd.prog 26 #[.agg #[.string t.name, .slice p1 q1 s1]] wx fun e w' => e = .returned (.int .i64 (typE t.name t.fields)) ∧ Below wx.heap.size wx w') := fun wx hb =>
        checkType_any t.name p1 q1 s1 t.fields wx hto.1 (fld_R (ut.below (plainF_firm _) hb) hto.2)
      have HKW : Hid (∀ s wx, Below w0.heap.size w0 wx → Calls Tryd.prog 27 #[.string s] wx fun e w' => e = .returned (.bool (keptB s)) ∧ Below wx.heap.size wx w') := fun s wx hb => (kept_any F s wx (E.out.below hb).kept (E.out.below hb).rels).mono (by rintro e w' ⟨rfl, rfl⟩; exact ⟨rfl, Below.refl _ _⟩)
      have UT := Lib.hid ut
      have NT := Lib.hid ut.len
      have hleT := ut.le
      clear hwt hto ut HZ hkl
      unfold typC at HR
      by_cases hte : typE t.name t.fields = 0
      · rw [hte] at HTF
        have HE2 := Lib.hid (fun e he => HE.out e (by rw [if_neg (by rw [hte]; simp)]; exact he))
        have HZ3 := Lib.hid (fun he => HZ2.out (by rw [if_neg (by rw [hte]; simp)]; exact he))
        clear HE HZ2 hte
        have HKN := Lib.hid (HKW.out t.name)
        go_upto_region 10 with (first | (with_reducible (first | (refine wv M ?_; clear M; intro zt w M) | refine wl M ?_ | refine wlg M ?_ | (refine ws M ?_; clear M; intro w M) | (refine wsc M ?_; clear M; intro w M) | (refine wv M ?_; clear M; intro z w M) | (refine wr M ?_; clear M; intro q w M) | refine o_skipT ?_ | refine o_skipF ?_ | refine wa (HR.out _ M.new) ?_)) | (go_at_call 26; with_reducible refine (HTF.out _ M.new).mono ?_; rintro e w5 ⟨rfl, hb5⟩; replace M := M.below hb5; clear hb5) | (go_at_call 27; with_reducible refine (HKN.out _ M.new).mono ?_; rintro e w5 ⟨rfl, hb5⟩; replace M := M.below hb5; clear hb5))
        go_wp2_with (first | (with_reducible (first | refine wl M ?_ | refine wlg M ?_ | (refine ws M ?_; clear M; intro w M) | (refine wsc M ?_; clear M; intro w M) | (refine wv M ?_; clear M; intro z w M) | (refine wr M ?_; clear M; intro q w M) | refine o_skipT ?_ | refine o_skipF ?_)))
        go_loopg [6, 46] q1 (fun f v i wr => ∃ (m : Nat), m + f = q1 ∧ v = .bool (okB t m) ∧ i = .int .i64 m ∧ Mem (StaysB g w0) g w0 wr ⟨0, 0⟩ (own zt [.string t.name, .slice p1 q1 s1] 50 :: own za [.slice a1 n1 c1, .slice a2 n2 c2] 25 :: []))
        case atStart => exact ⟨0, by omega, by rw [okB_zero], rfl, M⟩
        case round =>
          clear M HKN
          obtain ⟨m, hm, rfl, rfl, M⟩ := hrel
          by_cases hltm : m < q1
          · have hkm : m < t.fields.length := by have := NT.out; omega
            obtain ⟨cf, of, rowf, hixf, -, hrrf, hwf⟩ := SlF.rowAt (P := Tryd.prog) UT.out (plainF_firm _) Tryd.underlying48 size_fld (i := m) hkm
            have e2 : rowf = fldC t.fields[m] := hrrf
            subst e2
            have HR2 : Hid (∀ wx, Below w0.heap.size w0 wx → wx.rangeAt cf of [.string t.fields[m].name, .int .i64 t.fields[m].kind]) := fun wx hb => (hwf wx hb).1
            have HKF := Lib.hid (HKW.out t.fields[m].name)
            have HOS := Lib.hid (okB_succ hkm)
            clear hwf hrrf
            generalize t.fields[m].name = fnm at HR2 HKF HOS
            generalize t.fields[m].kind = fkd at HR2
            generalize okB t m = o1 at HOS ⊢
            clear hkm
            cases o1 with
            | true =>
              generalize keptB fnm = kb at HKF HOS
              cases kb <;>
              (go_wp2_with (first | (with_reducible (first | (refine wv M ?_; clear M; intro zf w M) | refine wl M ?_ | refine wlg M ?_ | (refine ws M ?_; clear M; intro w M) | (refine wsc M ?_; clear M; intro w M) | (refine wv M ?_; clear M; intro z w M) | (refine wr M ?_; clear M; intro q w M) | refine o_skipT ?_ | refine o_skipF ?_ | refine wa (HR2.out _ M.new) ?_)) | (go_at_call 27; with_reducible refine (HKF.out _ M.new).mono ?_; rintro e w5 ⟨rfl, hb5⟩; replace M := M.below hb5; clear hb5))
               go_roundg (q1 - (m + 1))
               case measure => omega
               case rel => exact ⟨m + 1, by omega, by rw [HOS.out]; rfl, by go_num, M.drop⟩)
            | false =>
              go_wp2_with (first | (with_reducible (first | (refine wv M ?_; clear M; intro zf w M) | refine wl M ?_ | refine wlg M ?_ | (refine ws M ?_; clear M; intro w M) | (refine wsc M ?_; clear M; intro w M) | (refine wv M ?_; clear M; intro z w M) | (refine wr M ?_; clear M; intro q w M) | refine o_skipT ?_ | refine o_skipF ?_ | refine wa (HR2.out _ M.new) ?_)))
              go_roundg (q1 - (m + 1))
              case measure => omega
              case rel => exact ⟨m + 1, by omega, by rw [HOS.out]; rfl, by go_num, M.drop⟩
          · have hend := okB_end t m (by have := NT.out; omega)
            generalize okB t m = o1 at hend ⊢
            cases o1 with
            | false =>
              have hor : keptB t.name = true ∨ t.fields.any (fun f => keptB f.name) = true := by
                cases h1 : keptB t.name <;> cases h2 : t.fields.any (fun f => keptB f.name) <;> simp [h1, h2] at hend ⊢
              have HV : Hid (bookE b = 4) := HE2.out 4 (by rw [if_pos hor]) (by decide)
              clear HE2 HZ3 hend hor
              go_wp2_with (first | (with_reducible (first | refine wl M ?_ | refine wlg M ?_ | (refine ws M ?_; clear M; intro w M) | (refine wsc M ?_; clear M; intro w M) | (refine wv M ?_; clear M; intro z w M) | (refine wr M ?_; clear M; intro q w M) | refine o_skipT ?_ | refine o_skipF ?_)))
              go_ret
              rw [HV.out]
              exact ⟨rfl, M.new⟩
            | true =>
              have hor : ¬ (keptB t.name = true ∨ t.fields.any (fun f => keptB f.name) = true) := by
                cases h1 : keptB t.name <;> cases h2 : t.fields.any (fun f => keptB f.name) <;> simp [h1, h2] at hend ⊢
              have HE3 := Lib.hid (fun e he => HE2.out e (by rw [if_neg hor]; exact he))
              have HZ4 := Lib.hid (fun he => HZ3.out (by rw [if_neg hor]; exact he))
              clear HE2 HZ3 hend hor
              go_wp2_with (first | (with_reducible (first | refine wl M ?_ | refine wlg M ?_ | (refine ws M ?_; clear M; intro w M) | (refine wsc M ?_; clear M; intro w M) | (refine wv M ?_; clear M; intro z w M) | (refine wr M ?_; clear M; intro q w M) | refine o_skipT ?_ | refine o_skipF ?_)))
              go_loopg [65] j (fun f i wr => ∃ (k : Nat), k + f = j ∧ i = .int .i64 k ∧ Mem (StaysB g w0) g w0 wr ⟨0, 0⟩ (own zt [.string t.name, .slice p1 q1 s1] 50 :: own za [.slice a1 n1 c1, .slice a2 n2 c2] 25 :: []) ∧ Hid (NoB (b.types.take j) (fun u => sameS u.name t.name) k))
              case atStart => exact ⟨0, by omega, rfl, M, noB_zero _ _⟩
              case round =>
                clear M
                obtain ⟨k, hk, rfl, M, HB⟩ := hrel
                by_cases hltk : k < j
                · have hkt : k < (b.types.take j).length := by rw [HTL.out]; exact hltk
                  obtain ⟨cs, os, rows, hixs, -, hrrs, hws⟩ := SlF.rowAt (P := Tryd.prog) HXJ.out typF_firm Tryd.underlying22 size_typ (i := k) hkt
                  obtain ⟨p2, q2, s2, et2, -⟩ := hrrs
                  subst et2
                  have HR2 : Hid (∀ wx, Below w0.heap.size w0 wx → wx.rangeAt cs os [.string (b.types.take j)[k].name, .slice p2 q2 s2]) := fun wx hb => (hws wx hb).1
                  have HSQ : Hid (∀ c, sameS (b.types.take j)[k].name t.name = c → ((b.types.take j)[k].name.toList == t.name.toList) = c) := fun c h => h
                  have HF1 : Hid (sameS (b.types.take j)[k].name t.name = true → typI (b.types.take j) t.name < j) := fun h => by
                    have e : typI (b.types.take j) t.name = k := noB_at HB.out hkt h
                    omega
                  have HF0 : Hid (sameS (b.types.take j)[k].name t.name = false → NoB (b.types.take j) (fun u => sameS u.name t.name) (k + 1)) := fun h => noB_succ HB.out hkt h
                  clear hws HB
                  generalize (b.types.take j)[k].name = unm at HR2 HSQ HF1 HF0
                  clear hkt
                  cases hsm : sameS unm t.name with
                  | true =>
                    have hsb := HSQ.out _ hsm
                    have HV : Hid (bookE b = 7) := HE3.out 7 (by rw [if_pos (HF1.out hsm)]) (by decide)
                    clear HE3 HZ4 HSQ HF1 HF0 hsm
                    go_wp2_with (first | (with_reducible (first | (refine wv M ?_; clear M; intro zu w M) | refine wl M ?_ | refine wlg M ?_ | (refine ws M ?_; clear M; intro w M) | (refine wsc M ?_; clear M; intro w M) | (refine wv M ?_; clear M; intro z w M) | (refine wr M ?_; clear M; intro q w M) | refine o_skipT ?_ | refine o_skipF ?_ | refine wa (HR2.out _ M.new) ?_)))
                    go_ret
                    rw [HV.out]
                    exact ⟨rfl, M.new⟩
                  | false =>
                    have hsb := HSQ.out _ hsm
                    have HB2 := Lib.hid (HF0.out hsm)
                    clear HSQ HF1 HF0 hsm
                    go_wp2_with (first | (with_reducible (first | (refine wv M ?_; clear M; intro zu w M) | refine wl M ?_ | refine wlg M ?_ | (refine ws M ?_; clear M; intro w M) | (refine wsc M ?_; clear M; intro w M) | (refine wv M ?_; clear M; intro z w M) | (refine wr M ?_; clear M; intro q w M) | refine o_skipT ?_ | refine o_skipF ?_ | refine wa (HR2.out _ M.new) ?_)))
                    go_roundg (j - (k + 1))
                    case measure => omega
                    case rel => exact ⟨k + 1, by omega, by go_num, M.drop, HB2⟩
                · have hkj : k = j := by omega
                  have hno : ¬ typI (b.types.take j) t.name < j := by
                    have e : typI (b.types.take j) t.name = (b.types.take j).length := noB_none (by have h := HB.out; rw [hkj] at h; rw [HTL.out]; exact h)
                    rw [e, HTL.out]
                    omega
                  have HZ5 := Lib.hid (HZ4.out (by rw [if_neg hno]))
                  clear HE3 HZ4 HB hno
                  go_wp2_with (first | (with_reducible (first | refine wl M ?_ | refine wlg M ?_ | (refine ws M ?_; clear M; intro w M) | (refine wsc M ?_; clear M; intro w M) | (refine wv M ?_; clear M; intro z w M) | (refine wr M ?_; clear M; intro q w M) | refine o_skipT ?_ | refine o_skipF ?_)))
                  go_roundg (n1 - (j + 1))
                  case measure => omega
                  case rel => exact ⟨j + 1, by omega, by go_num, M.drop, HZ5⟩
      · have HV : Hid (bookE b = typE t.name t.fields) := HE.out _ (by rw [if_pos hte]) hte
        have hqb : (typE t.name t.fields != 0) = true := by simpa using hte
        generalize typE t.name t.fields = te at HTF HV hqb
        clear HE HZ2 hte HKW
        go_wp2_with (first | (with_reducible (first | (refine wv M ?_; clear M; intro zt w M) | refine wl M ?_ | refine wlg M ?_ | (refine ws M ?_; clear M; intro w M) | (refine wsc M ?_; clear M; intro w M) | (refine wv M ?_; clear M; intro z w M) | (refine wr M ?_; clear M; intro q w M) | refine o_skipT ?_ | refine o_skipF ?_ | refine wa (HR.out _ M.new) ?_)) | (go_at_call 26; with_reducible refine (HTF.out _ M.new).mono ?_; rintro e w5 ⟨rfl, hb5⟩; replace M := M.below hb5; clear hb5))
        go_ret
        rw [HV.out]
        exact ⟨rfl, M.new⟩
    · have HT1 : Hid (AllZ (btypE b) b.types.length) := by have e : j = b.types.length := (by have := N1.out; omega); rw [← e]; exact HZ.out
      have HTG : Hid (∀ t ∈ b.types, TypGood t) := fun t ht => ⟨hts.out t ht, btyp_good HT1.out t ht⟩
      clear HZ
      go_wp2_with (first | (with_reducible (first | refine wl M ?_ | refine wlg M ?_ | (refine ws M ?_; clear M; intro w M) | (refine wsc M ?_; clear M; intro w M) | (refine wv M ?_; clear M; intro z w M) | (refine wr M ?_; clear M; intro q w M) | refine o_skipT ?_ | refine o_skipF ?_)))
      go_loopg [79] n2 (fun f i wr => ∃ (j : Nat), j + f = n2 ∧ i = .int .i64 j ∧ Mem (StaysB g w0) g w0 wr ⟨0, 0⟩ (own za [.slice a1 n1 c1, .slice a2 n2 c2] 25 :: []) ∧ Hid (AllZ (brulE b) j))
      case atStart => exact ⟨0, by omega, rfl, M, allZ_zero _⟩
      case round =>
        clear M
        obtain ⟨j, hj, rfl, M, HZ⟩ := hrel
        by_cases hlt : j < n2
        · have hkl : j < b.rules.length := by have := N2.out; omega
          have HE : Hid (∀ e, brulP b.types (b.rules.take j) b.rules[j] = e → e ≠ 0 → bookE b = e) := fun e he hn => book_rule h0.out HT1.out HZ.out hkl (by rw [brulE_at hkl]; exact he) hn
          have HZ2 : Hid (brulP b.types (b.rules.take j) b.rules[j] = 0 → AllZ (brulE b) (j + 1)) := fun h => allZ_succ HZ.out (by rw [brulE_at hkl]; exact h)
          obtain ⟨cr, or, rowr, hixr, -, hrrr, hwr⟩ := SlF.rowAt (P := Tryd.prog) X2.out rulF_firm Tryd.underlying23 size_rul (i := j) hkl
          have hro := hrs.out _ (List.getElem_mem hkl)
          have HRF : Hid (∀ wx, Below w0.heap.size w0 wx → Calls Tryd.prog 28 #[.slice a1 n1 c1, .agg rowr.toArray] wx fun e w' => e = .returned (.int .i64 (ruleE b.types b.rules[j])) ∧ Below wx.heap.size wx w') := fun wx hb =>
            rule_any (Nat.lt_of_lt_of_le hg.out hb.size) (X1.out.below typF_firm hb) (E.out.below hb) (fun k hk => Nat.lt_of_lt_of_le (hF.out k hk) hb.size) HTG.out b.rules[j] rowr (rulF_firm _ _ _ _ _ _ (Same.below hb) hrrr) hro
          obtain ⟨b1, m1, e1, b2, m2, e2, b3, m3, e3, b4, m4, e4, b6, m6, e6, rfl, -⟩ := hrrr
          have HR := Lib.hid (fun wx hb => (hwr wx hb).1)
          have hjc : j ≤ c2 := by omega
          have HXJ : Hid (SlF F w0 7 rulF a2 j c2 (b.rules.take j)) := X2.out.take j c2 (by omega) (by omega) (Nat.le_refl _)
          have HTL : Hid ((b.rules.take j).length = j) := by show _ = _; rw [List.length_take]; omega
          clear hwr hro HZ
          generalize b.rules[j] = x at HE HZ2 HRF HR
          clear hkl
          unfold brulP at HE HZ2
          unfold rulC at HR HRF
          by_cases hq : ruleE b.types x = 0
          · rw [hq] at HRF
            have HE2 := Lib.hid (fun e he => HE.out e (by rw [if_neg (by rw [hq]; simp)]; exact he))
            have HZ3 := Lib.hid (fun he => HZ2.out (by rw [if_neg (by rw [hq]; simp)]; exact he))
            clear HE HZ2 hq
            go_wp2_with (first | (with_reducible (first | (refine wv M ?_; clear M; intro zr w M) | refine wl M ?_ | refine wlg M ?_ | (refine ws M ?_; clear M; intro w M) | (refine wsc M ?_; clear M; intro w M) | (refine wv M ?_; clear M; intro z w M) | (refine wr M ?_; clear M; intro q w M) | refine o_skipT ?_ | refine o_skipF ?_ | refine wa (HR.out _ M.new) ?_)) | (go_at_call 28; with_reducible refine (HRF.out _ M.new).mono ?_; rintro e w5 ⟨rfl, hb5⟩; replace M := M.below hb5; clear hb5))
            go_loopg [96] j (fun f i wr => ∃ (k : Nat), k + f = j ∧ i = .int .i64 k ∧ Mem (StaysB g w0) g w0 wr ⟨0, 0⟩ (own zr [.string x.name, .slice b1 m1 e1, .slice b2 m2 e2, .slice b3 m3 e3, .slice b4 m4 e4, .string x.etype, .slice b6 m6 e6] 62 :: own za [.slice a1 n1 c1, .slice a2 n2 c2] 25 :: []) ∧ Hid (NoB (b.rules.take j) (fun y => sameS y.name x.name) k))
            case atStart => exact ⟨0, by omega, rfl, M, noB_zero _ _⟩
            case round =>
              clear M
              obtain ⟨k, hk, rfl, M, HB⟩ := hrel
              by_cases hltk : k < j
              · have hkt : k < (b.rules.take j).length := by rw [HTL.out]; exact hltk
                obtain ⟨cs, os, rows, hixs, -, hrrs, hws⟩ := SlF.rowAt (P := Tryd.prog) HXJ.out rulF_firm Tryd.underlying23 size_rul (i := k) hkt
                obtain ⟨f1, f2, f3, f4, f5, f6, f7, f8, f9, f10, f11, f12, f13, f14, f15, rfl, -⟩ := hrrs
                have HR2 : Hid (∀ wx, Below w0.heap.size w0 wx → wx.rangeAt cs os [.string (b.rules.take j)[k].name, .slice f1 f2 f3, .slice f4 f5 f6, .slice f7 f8 f9, .slice f10 f11 f12, .string (b.rules.take j)[k].etype, .slice f13 f14 f15]) := fun wx hb => (hws wx hb).1
                have HSQ : Hid (∀ c, sameS (b.rules.take j)[k].name x.name = c → ((b.rules.take j)[k].name.toList == x.name.toList) = c) := fun c h => h
                have HF1 : Hid (sameS (b.rules.take j)[k].name x.name = true → (b.rules.take j).any (fun y => sameS y.name x.name) = true) := fun h => List.any_eq_true.2 ⟨_, List.getElem_mem hkt, h⟩
                have HF0 : Hid (sameS (b.rules.take j)[k].name x.name = false → NoB (b.rules.take j) (fun y => sameS y.name x.name) (k + 1)) := fun h => noB_succ HB.out hkt h
                clear hws HB
                generalize (b.rules.take j)[k] = y at HR2 HSQ HF1 HF0
                clear hkt
                cases hsm : sameS y.name x.name with
                | true =>
                  have hsb := HSQ.out _ hsm
                  have HV : Hid (bookE b = 7) := HE2.out 7 (by rw [if_pos (HF1.out hsm)]) (by decide)
                  clear HE2 HZ3 HSQ HF1 HF0 hsm HRF
                  go_wp2_with (first | (with_reducible (first | (refine wv M ?_; clear M; intro zu w M) | refine wl M ?_ | refine wlg M ?_ | (refine ws M ?_; clear M; intro w M) | (refine wsc M ?_; clear M; intro w M) | (refine wv M ?_; clear M; intro z w M) | (refine wr M ?_; clear M; intro q w M) | refine o_skipT ?_ | refine o_skipF ?_ | refine wa (HR2.out _ M.new) ?_)))
                  go_ret
                  rw [HV.out]
                  exact ⟨rfl, M.new⟩
                | false =>
                  have hsb := HSQ.out _ hsm
                  have HB2 := Lib.hid (HF0.out hsm)
                  clear HSQ HF1 HF0 hsm HRF
                  go_wp2_with (first | (with_reducible (first | (refine wv M ?_; clear M; intro zu w M) | refine wl M ?_ | refine wlg M ?_ | (refine ws M ?_; clear M; intro w M) | (refine wsc M ?_; clear M; intro w M) | (refine wv M ?_; clear M; intro z w M) | (refine wr M ?_; clear M; intro q w M) | refine o_skipT ?_ | refine o_skipF ?_ | refine wa (HR2.out _ M.new) ?_)))
                  go_roundg (j - (k + 1))
                  case measure => omega
                  case rel => exact ⟨k + 1, by omega, by go_num, M.drop, HB2⟩
              · have hany : (b.rules.take j).any (fun y => sameS y.name x.name) = false := noB_any (by have h := HB.out; rw [show k = j by omega] at h; rw [HTL.out]; exact h)
                have HZ5 := Lib.hid (HZ3.out (by rw [hany]; rfl))
                clear HE2 HZ3 HB hany HRF
                go_wp2_with (first | (with_reducible (first | refine wl M ?_ | refine wlg M ?_ | (refine ws M ?_; clear M; intro w M) | (refine wsc M ?_; clear M; intro w M) | (refine wv M ?_; clear M; intro z w M) | (refine wr M ?_; clear M; intro q w M) | refine o_skipT ?_ | refine o_skipF ?_)))
                go_roundg (n2 - (j + 1))
                case measure => omega
                case rel => exact ⟨j + 1, by omega, by go_num, M.drop, HZ5⟩
          · have HV : Hid (bookE b = ruleE b.types x) := HE.out _ (by rw [if_pos hq]) hq
            have hqb : (ruleE b.types x != 0) = true := by simpa using hq
            generalize ruleE b.types x = q at HRF HV hqb
            clear HE HZ2 hq
            go_wp2_with (first | (with_reducible (first | (refine wv M ?_; clear M; intro zr w M) | refine wl M ?_ | refine wlg M ?_ | (refine ws M ?_; clear M; intro w M) | (refine wsc M ?_; clear M; intro w M) | (refine wv M ?_; clear M; intro z w M) | (refine wr M ?_; clear M; intro q w M) | refine o_skipT ?_ | refine o_skipF ?_ | refine wa (HR.out _ M.new) ?_)) | (go_at_call 28; with_reducible refine (HRF.out _ M.new).mono ?_; rintro e w5 ⟨rfl, hb5⟩; replace M := M.below hb5; clear hb5))
            go_ret
            rw [HV.out]
            exact ⟨rfl, M.new⟩
        · have HT2 : Hid (AllZ (brulE b) b.rules.length) := by have e : j = b.rules.length := (by have := N2.out; omega); rw [← e]; exact HZ.out
          have HV0 := Lib.hid (book_rest h0.out HT1.out HT2.out)
          have HEN : Hid (∀ wx, Below w0.heap.size w0 wx → Calls Tryd.prog 29 #[.agg #[.slice a1 n1 c1, .slice a2 n2 c2]] wx fun e w' => e = .returned (.bool (endB b)) ∧ Below wx.heap.size wx w') := fun wx hb =>
            endless_any (Nat.lt_of_lt_of_le hg.out hb.size) b a1 n1 c1 (X1.out.below typF_firm hb) (X2.out.below rulF_firm hb) (fun t ht => (hts.out t ht).1) hes.out hn2.out
          clear HZ HT1 HT2 HTG
          generalize endB b = eb at HEN HV0
          cases eb with
          | true =>
            have HV : Hid (bookE b = 15) := HV0.out
            go_wp2_with (first | (with_reducible (first | refine wl M ?_ | refine wlg M ?_ | (refine ws M ?_; clear M; intro w M) | (refine wsc M ?_; clear M; intro w M) | (refine wv M ?_; clear M; intro z w M) | (refine wr M ?_; clear M; intro q w M) | refine o_skipT ?_ | refine o_skipF ?_)) | (go_at_call 29; with_reducible refine (HEN.out _ M.new).mono ?_; rintro e w5 ⟨rfl, hb5⟩; replace M := M.below hb5; clear hb5))
            go_ret
            rw [HV.out]
            exact ⟨rfl, M.new⟩
          | false =>
            have HV : Hid (bookE b = 0) := HV0.out
            go_wp2_with (first | (with_reducible (first | refine wl M ?_ | refine wlg M ?_ | (refine ws M ?_; clear M; intro w M) | (refine wsc M ?_; clear M; intro w M) | (refine wv M ?_; clear M; intro z w M) | (refine wr M ?_; clear M; intro q w M) | refine o_skipT ?_ | refine o_skipF ?_)) | (go_at_call 29; with_reducible refine (HEN.out _ M.new).mono ?_; rintro e w5 ⟨rfl, hb5⟩; replace M := M.below hb5; clear hb5))
            go_ret
            rw [HV.out]
            exact ⟨rfl, M.new⟩
theorem check_any (hg : g < w0.heap.size) (E : Env F w0) (hF : ∀ b, F b → b < w0.heap.size) (b : Bok) (a1 : Option Addr) (n1 c1 : Nat) (a2 : Option Addr) (n2 c2 : Nat) (X1 : SlF F w0 2 typF a1 n1 c1 b.types) (X2 : SlF F w0 7 rulF a2 n2 c2 b.rules) (hts : ∀ t ∈ b.types, typOk t) (hrs : ∀ x ∈ b.rules, RulFit x) (hes : ∀ x ∈ b.rules, x.etype.size ≤ maxLen) : Calls Tryd.prog 13 #[.agg #[.slice a1 n1 c1, .slice a2 n2 c2]] w0 fun e w' => e = .returned (.int .i64 (bookE b)) ∧ Below w0.heap.size w0 w' := by
  by_cases h0 : 6 < b.types.length ∨ 5 < b.rules.length
  · exact check_size hg E hF b a1 n1 c1 a2 n2 c2 X1 X2 hts hrs hes h0
  · exact check_main hg E hF b a1 n1 c1 a2 n2 c2 X1 X2 hts hrs hes h0
end
end Go.Proofs.YtnbnmcadoekcfaaDoor
/-
  A book as an argument, opened: its types, its rules, and that all texts fit.
-/
namespace Go.Proofs.YtnbnmcadoekcfaaDoor
open Go.ChangeShapes Go.WideShapes Go.ChangeAt Go.RowKit Go.Joins Go.Deep
set_option linter.unusedVariables false
set_option linter.unusedSimpArgs false

/-- What a datum of a type gives: rows of which R speaks; for data below a size. -/
def OpensAt {H : Type} (enc : TypeId × Value → H) (P : Program) (w : World) (t k : Nat) {α : Type} (R : (Nat → Prop) → World → List Value → α → Prop) (N : Nat) : Prop :=
  ∀ (n : Nat) (row : List Value) (y : DataW H × List MemPlace), row.length = k → DataW.trod enc P w 0 (fun _ => true) true n t row = some y →
    (∀ p ∈ y.2, p.block < w.heap.size) → (∀ q ∈ y.1.weights P t, q ≤ reachBytes) → SizeOf.sizeOf y.1 < N → ∃ x, R (under w.heap.size) w row x
theorem Opens.at_ {H : Type} {enc : TypeId × Value → H} {P : Program} {w : World} {t k : Nat} {α : Type} {R : (Nat → Prop) → World → List Value → α → Prop} (h : Opens P t k R) (N : Nat) : OpensAt enc P w t k R N :=
  fun n row y hl ht hlt hB _ => h.2.2 w n row y hl ht hlt hB
/-- A slice in one cell. -/
def slIn {α : Type} (k : Nat) (R : (Nat → Prop) → World → List Value → α → Prop) : (Nat → Prop) → World → List Value → List α → Prop :=
  fun F w row xs => ∃ ao n cap, row = [.slice ao n cap] ∧ SlF F w k R ao n cap xs
theorem mem_size {H : Type} {ds : List (DataW H)} {d : DataW H} (h : d ∈ ds) : SizeOf.sizeOf d < SizeOf.sizeOf ds := List.sizeOf_lt_of_mem h
theorem sliceAt {α : Type} {H : Type} {enc : TypeId × Value → H} {P : Program} {w : World} {t e k : Nat} {R : (Nat → Prop) → World → List Value → α → Prop} (ht : P.underlying t = some (.slice e)) (hke : P.cellsOf e = k) (hk0 : 0 < k) (N : Nat) (hR : OpensAt enc P w e k R N) : OpensAt enc P w t 1 (slIn k R) (N + 1) := by
  intro fuel row0 y0 hl0 h hlt hB hN
  match row0, hl0 with
  | [v], _ =>
  rcases open_slice ht h with ⟨hcs, hx⟩ | ⟨a, len, cap, m, n, D, Pl, hcs, _, hl, hm, hmm, hx, hel⟩
  · simp only [List.cons.injEq, and_true] at hcs
    exact ⟨[], none, 0, 0, by rw [hcs], SlF.nil⟩
  · simp only [List.cons.injEq, and_true] at hcs
    simp only [if_true] at hmm
    subst hmm
    subst hx
    simp only [DataW.weights, ht, List.mem_cons, List.mem_append] at hB
    have hsz : ∀ i, i < len → SizeOf.sizeOf (D i) < N := fun i hi => by
      have h1 := mem_size (List.mem_map.2 ⟨i, List.mem_range.2 hi, rfl⟩ : D i ∈ (List.range len).map D)
      simp only [DataW.slice.sizeOf_spec] at hN
      omega
    have key : ∀ i, i < len → ∃ x : α, ∃ b off row, a = ⟨b, off, none⟩ ∧ under w.heap.size b ∧ b < w.heap.size ∧ RowAt w b (off + i * k) k row ∧ R (under w.heap.size) w row x := by
      intro i hi
      obtain ⟨cs', h1, h2⟩ := hel i (by omega)
      rw [hke] at h1
      obtain ⟨_, hlen, hc⟩ := World.cells?_some h1
      obtain ⟨x, hx⟩ := hR n cs' (D i, Pl i) hlen h2 (fun p hp => hlt p (by simp only [List.mem_append, List.mem_flatMap, List.mem_range]; exact Or.inr ⟨i, by omega, hp⟩)) (fun q hq => hB q (Or.inr (Or.inl (weightsAll_has (List.mem_map.2 ⟨i, List.mem_range.2 hi, rfl⟩) q hq)))) (hsz i hi)
      obtain ⟨cs0, h10, _⟩ := hel 0 (by omega)
      rw [hke] at h10
      obtain ⟨_, hlen0, hc0⟩ := World.cells?_some h10
      have hc00 := hc0 0 hk0
      rw [List.getElem?_eq_getElem (by omega)] at hc00
      obtain ⟨b, off, spot⟩ := a
      have hspot : spot = none := by simpa [Addr.add] using World.cell?_spot hc00
      subst hspot
      have hbl : b < w.heap.size := by simpa [Addr.add] using World.block_lt_of_cell? w _ hc00
      refine ⟨x, b, off, cs', rfl, hbl, hbl, ⟨hlen, fun j hj => ?_⟩, hx⟩
      have := hc j hj
      rw [add_add, Go.WideShapes.add_plain] at this
      rw [Nat.add_assoc, this, List.getElem?_eq_getElem (by omega)]
      simp [List.getD, List.getElem?_eq_getElem (show j < cs'.length by omega)]
    have hch : ∃ xs : List α, xs.length = len ∧ ∀ i (h : i < xs.length), ∃ b off row, a = ⟨b, off, none⟩ ∧ under w.heap.size b ∧ b < w.heap.size ∧ RowAt w b (off + i * k) k row ∧ R (under w.heap.size) w row xs[i] := by
      classical
      refine ⟨(List.range len).attach.map (fun i => Classical.choose (key i.1 (List.mem_range.1 i.2))), by simp, fun i hi => ?_⟩
      have hi' : i < len := by simpa using hi
      have := Classical.choose_spec (key i hi')
      simpa using this
    obtain ⟨xs, hxl, hxs⟩ := hch
    refine ⟨xs, some a, len, _, by rw [hcs], ⟨hxl.symm, hl, hm, by simp, fun i hi => ?_⟩⟩
    obtain ⟨b, off, row, e, r⟩ := hxs i hi
    exact ⟨b, off, row, by rw [e], r⟩
/-- A struct's field. -/
theorem fieldS {α H : Type} {enc : TypeId × Value → H} {P : Program} {w : World} {t n : Nat} {fs : Array Field} {cs : List Value} {xs : List (DataW H × List MemPlace)} (ht : P.underlying t = some (.struct fs))
    (hf : ∀ (i : Nat) (f : Field), fs[i]? = some f → DataW.trod enc P w 0 (fun _ => true) true n f.type ((cs.drop f.offset).take (P.cellsOf f.type)) = xs[i]?)
    (hlt : ∀ p ∈ xs.flatMap (·.2), p.block < w.heap.size) (hB : ∀ q ∈ (DataW.agg (xs.map (·.1))).weights P t, q ≤ reachBytes) {N : Nat} (hN : SizeOf.sizeOf (DataW.agg (xs.map (·.1))) < N + 1)
    (i : Nat) (f : Field) (hi : fs[i]? = some f) (hxi : i < xs.length) {k : Nat} (hk : P.cellsOf f.type = k) {R : (Nat → Prop) → World → List Value → α → Prop} (hR : OpensAt enc P w f.type k R N) (row : List Value) (hrow : (cs.drop f.offset).take k = row) (hl : row.length = k) :
    ∃ x, R (under w.heap.size) w row x := by
  have h1 := hf i f hi
  rw [hk, hrow, List.getElem?_eq_getElem hxi] at h1
  refine hR n row _ hl h1 (fun p hp => hlt p (List.mem_flatMap.2 ⟨xs[i], List.getElem_mem hxi, hp⟩)) (fun q hq => hB q ?_) ?_
  · simp only [DataW.weights, ht]
    exact weightsEach_has (j := i) (t := f.type) (d := xs[i].1) (by simp [hi]) (by simp [hxi]) q hq
  · have h2 := mem_size (List.mem_map.2 ⟨xs[i], List.getElem_mem hxi, rfl⟩ : xs[i].1 ∈ xs.map (·.1))
    simp only [DataW.agg.sizeOf_spec] at hN
    omega
/-- Rows of which two things are said. -/
theorem SlF.split {α : Type} {F : Nat → Prop} {w : World} {k : Nat} {R : (Nat → Prop) → World → List Value → α → Prop} {p : α → Prop} {ao : Option Addr} {n cap : Nat} {xs : List α} (h : SlF F w k (fun F w row x => R F w row x ∧ p x) ao n cap xs) : SlF F w k R ao n cap xs ∧ ∀ x ∈ xs, p x := by
  obtain ⟨h1, h2, h3, h5, h4⟩ := h
  refine ⟨⟨h1, h2, h3, h5, fun i hi => ?_⟩, fun x hx => ?_⟩
  · obtain ⟨b, off, row, a1, a2, a3, a4, a5⟩ := h4 i hi
    exact ⟨b, off, row, a1, a2, a3, a4, a5.1⟩
  · obtain ⟨i, hi, rfl⟩ := List.mem_iff_getElem.1 hx
    obtain ⟨b, off, row, a1, a2, a3, a4, a5⟩ := h4 i hi
    exact a5.2
theorem fits {s : ByteArray} (h : s.size ≤ 140737488351232) : s.size ≤ maxLen := by unfold maxLen; omega

theorem opensAt_zero {α H : Type} {enc : TypeId × Value → H} {P : Program} {w : World} {t k : Nat} {R : (Nat → Prop) → World → List Value → α → Prop} : OpensAt enc P w t k R 0 := fun n row y _ _ _ _ h => absurd h (Nat.not_lt_zero _)
theorem sliceOf {α H : Type} {enc : TypeId × Value → H} {P : Program} {w : World} {t e k : Nat} {R : (Nat → Prop) → World → List Value → α → Prop} (ht : P.underlying t = some (.slice e)) (hke : P.cellsOf e = k) (hk0 : 0 < k) (hR : ∀ N, OpensAt enc P w e k R N) : ∀ N, OpensAt enc P w t 1 (slIn k R) N
  | 0 => opensAt_zero
  | N + 1 => sliceAt ht hke hk0 N (hR N)
section
variable {H : Type} {enc : TypeId × Value → H} {w : World}
theorem at_int (N : Nat) : OpensAt enc Tryd.prog w 3 1 intF N := (opens_int Tryd.underlying3 (by kernel_rfl)).at_ N
theorem at_str (N : Nat) : OpensAt enc Tryd.prog w 9 1 strF N := (opens_string Tryd.underlying9 (by kernel_rfl)).at_ N
def valF : (Nat → Prop) → World → List Value → Int × Int × ByteArray → Prop := fun _ _ row v => row = [.int .i64 v.1, .int .i64 v.2.1, .string v.2.2] ∧ v.2.2.size ≤ maxLen
set_option maxRecDepth 100000 in
theorem at_val (N : Nat) : OpensAt enc Tryd.prog w 71 3 valF N := by
  match N with
  | 0 => exact opensAt_zero
  | N + 1 =>
  intro n row y hl h hlt hB hN
  obtain ⟨xs, k, -, rfl, -, hxl, hf⟩ := DataW.trod_struct Tryd.underlying71 h
  match row, hl, xs, hxl with
  | [c0, c1, c2], _, [y0, y1, y2], _ =>
    obtain ⟨i0, g0⟩ := fieldS Tryd.underlying71 hf hlt hB hN 0 _ rfl (by simp) (by kernel_rfl) (at_int N) [c0] (by simp) rfl
    obtain ⟨i1, g1⟩ := fieldS Tryd.underlying71 hf hlt hB hN 1 _ rfl (by simp) (by kernel_rfl) (at_int N) [c1] (by simp) rfl
    obtain ⟨s2, g2, z2⟩ := fieldS Tryd.underlying71 hf hlt hB hN 2 _ rfl (by simp) (by kernel_rfl) (at_str N) [c2] (by simp) rfl
    have g0' : [c0] = [Value.int .i64 i0] := g0
    injection g0' with g0'
    subst g0'
    have g1' : [c1] = [Value.int .i64 i1] := g1
    injection g1' with g1'
    subst g1'
    injection g2 with g2
    subst g2
    exact ⟨(i0, i1, s2), rfl, fits z2⟩
def opdIn : (Nat → Prop) → World → List Value → Opd → Prop := fun F w row o => opdF F w row o ∧ OpdFit o
set_option maxRecDepth 100000 in
theorem at_opd (N : Nat) : OpensAt enc Tryd.prog w 73 6 opdIn N := by
  match N with
  | 0 => exact opensAt_zero
  | N + 1 =>
  intro n row y hl h hlt hB hN
  obtain ⟨xs, k, -, rfl, -, hxl, hf⟩ := DataW.trod_struct Tryd.underlying73 h
  match row, hl, xs, hxl with
  | [c0, c1, c2, c3, c4, c5], _, [y0, y1, y2, y3], _ =>
    obtain ⟨i0, g0⟩ := fieldS Tryd.underlying73 hf hlt hB hN 0 _ rfl (by simp) (by kernel_rfl) (at_int N) [c0] (by simp) rfl
    obtain ⟨v, gv, zv⟩ := fieldS Tryd.underlying73 hf hlt hB hN 1 _ rfl (by simp) (by kernel_rfl) (at_val N) [c1, c2, c3] (by simp) rfl
    obtain ⟨s4, g4, z4⟩ := fieldS Tryd.underlying73 hf hlt hB hN 2 _ rfl (by simp) (by kernel_rfl) (at_str N) [c4] (by simp) rfl
    obtain ⟨s5, g5, z5⟩ := fieldS Tryd.underlying73 hf hlt hB hN 3 _ rfl (by simp) (by kernel_rfl) (at_str N) [c5] (by simp) rfl
    have g0' : [c0] = [Value.int .i64 i0] := g0
    injection g0' with g0'
    subst g0'
    injection g4 with g4
    subst g4
    injection g5 with g5
    subst g5
    simp only [List.cons.injEq, and_true] at gv
    obtain ⟨rfl, rfl, rfl⟩ := gv
    exact ⟨⟨i0, v.1, v.2.1, v.2.2, s4, s5⟩, rfl, zv, fits z4⟩
def fldIn : (Nat → Prop) → World → List Value → Fld → Prop := fun F w row f => plainF fldC F w row f ∧ f.name.size ≤ maxLen
set_option maxRecDepth 100000 in
theorem at_fld (N : Nat) : OpensAt enc Tryd.prog w 53 2 fldIn N := by
  match N with
  | 0 => exact opensAt_zero
  | N + 1 =>
  intro n row y hl h hlt hB hN
  obtain ⟨xs, k, -, rfl, -, hxl, hf⟩ := DataW.trod_struct Tryd.underlying53 h
  match row, hl, xs, hxl with
  | [c0, c1], _, [y0, y1], _ =>
    obtain ⟨s0, g0, z0⟩ := fieldS Tryd.underlying53 hf hlt hB hN 0 _ rfl (by simp) (by kernel_rfl) (at_str N) [c0] (by simp) rfl
    obtain ⟨i1, g1⟩ := fieldS Tryd.underlying53 hf hlt hB hN 1 _ rfl (by simp) (by kernel_rfl) (at_int N) [c1] (by simp) rfl
    have g1' : [c1] = [Value.int .i64 i1] := g1
    injection g1' with g1'
    subst g1'
    injection g0 with g0
    subst g0
    exact ⟨⟨s0, i1⟩, rfl, fits z0⟩
def typIn : (Nat → Prop) → World → List Value → Typ → Prop := fun F w row t => typF F w row t ∧ typOk t
set_option maxRecDepth 100000 in
theorem at_typ (N : Nat) : OpensAt enc Tryd.prog w 50 2 typIn N := by
  match N with
  | 0 => exact opensAt_zero
  | N + 1 =>
  intro n row y hl h hlt hB hN
  obtain ⟨xs, k, -, rfl, -, hxl, hf⟩ := DataW.trod_struct Tryd.underlying50 h
  match row, hl, xs, hxl with
  | [c0, c1], _, [y0, y1], _ =>
    obtain ⟨s0, g0, z0⟩ := fieldS Tryd.underlying50 hf hlt hB hN 0 _ rfl (by simp) (by kernel_rfl) (at_str N) [c0] (by simp) rfl
    obtain ⟨x1, a1, n1, p1, g1, S1⟩ := fieldS Tryd.underlying50 hf hlt hB hN 1 _ rfl (by simp) (by kernel_rfl) (sliceOf Tryd.underlying48 (by kernel_rfl) (by omega) at_fld N) [c1] (by simp) rfl
    injection g0 with g0
    subst g0
    injection g1 with g1
    subst g1
    exact ⟨⟨s0, x1⟩, ⟨a1, n1, p1, rfl, S1.split.1⟩, fits z0, S1.split.2⟩
def condIn : (Nat → Prop) → World → List Value → Cond → Prop := fun F w row c => CondF F w row c ∧ CondFit c
set_option maxRecDepth 100000 in
theorem at_cond (N : Nat) : OpensAt enc Tryd.prog w 75 14 condIn N := by
  induction N using Nat.strongRecOn with
  | ind N ih =>
  match N, ih with
  | 0, _ => exact opensAt_zero
  | N + 1, ih =>
  intro n row y hl h hlt hB hN
  obtain ⟨xs, k, -, rfl, -, hxl, hf⟩ := DataW.trod_struct Tryd.underlying75 h
  match row, hl, xs, hxl with
  | [c0, c1, c2, c3, c4, c5, c6, c7, c8, c9, c10, c11, c12, c13], _, [y0, y1, y2, y3], _ =>
    obtain ⟨i0, g0⟩ := fieldS Tryd.underlying75 hf hlt hB hN 0 _ rfl (by simp) (by kernel_rfl) (at_int N) [c0] (by simp) rfl
    obtain ⟨x1, a1, n1, p1, g1, S1⟩ := fieldS Tryd.underlying75 hf hlt hB hN 1 _ rfl (by simp) (by kernel_rfl) (match N, ih with | 0, _ => opensAt_zero | N + 1, ih => sliceAt Tryd.underlying69 (by kernel_rfl) (by omega) N (ih N (by omega))) [c1] (by simp) rfl
    obtain ⟨l, gl, zl⟩ := fieldS Tryd.underlying75 hf hlt hB hN 2 _ rfl (by simp) (by kernel_rfl) (at_opd N) [c2, c3, c4, c5, c6, c7] (by simp) rfl
    obtain ⟨r, gr, zr⟩ := fieldS Tryd.underlying75 hf hlt hB hN 3 _ rfl (by simp) (by kernel_rfl) (at_opd N) [c8, c9, c10, c11, c12, c13] (by simp) rfl
    have g0' : [c0] = [Value.int .i64 i0] := g0
    injection g0' with g0'
    subst g0'
    injection g1 with g1
    subst g1
    have gl' : [c2, c3, c4, c5, c6, c7] = opdC l := gl
    have gr' : [c8, c9, c10, c11, c12, c13] = opdC r := gr
    unfold opdC at gl' gr'
    simp only [List.cons.injEq, and_true] at gl' gr'
    obtain ⟨rfl, rfl, rfl, rfl, rfl, rfl⟩ := gl'
    obtain ⟨rfl, rfl, rfl, rfl, rfl, rfl⟩ := gr'
    exact ⟨.mk i0 x1 l r, CondF.make i0 l r S1.split.1, .mk zl zr S1.split.2⟩
def patIn : (Nat → Prop) → World → List Value → Pat → Prop := fun F w row p => patF F w row p ∧ PatFit p
set_option maxRecDepth 100000 in
theorem at_pat (N : Nat) : OpensAt enc Tryd.prog w 77 18 patIn N := by
  match N with
  | 0 => exact opensAt_zero
  | N + 1 =>
  intro n row y hl h hlt hB hN
  obtain ⟨xs, k, -, rfl, -, hxl, hf⟩ := DataW.trod_struct Tryd.underlying77 h
  match row, hl, xs, hxl with
  | [c0, c1, c2, c3, c4, c5, c6, c7, c8, c9, c10, c11, c12, c13, c14, c15, c16, c17], _, [y0, y1, y2, y3, y4], _ =>
    obtain ⟨s0, g0, z0⟩ := fieldS Tryd.underlying77 hf hlt hB hN 0 _ rfl (by simp) (by kernel_rfl) (at_str N) [c0] (by simp) rfl
    obtain ⟨s1, g1, z1⟩ := fieldS Tryd.underlying77 hf hlt hB hN 1 _ rfl (by simp) (by kernel_rfl) (at_str N) [c1] (by simp) rfl
    obtain ⟨c, gc, zc⟩ := fieldS Tryd.underlying77 hf hlt hB hN 2 _ rfl (by simp) (by kernel_rfl) (at_cond N) [c2, c3, c4, c5, c6, c7, c8, c9, c10, c11, c12, c13, c14, c15] (by simp) rfl
    obtain ⟨i16, g16⟩ := fieldS Tryd.underlying77 hf hlt hB hN 3 _ rfl (by simp) (by kernel_rfl) (at_int N) [c16] (by simp) rfl
    obtain ⟨i17, g17⟩ := fieldS Tryd.underlying77 hf hlt hB hN 4 _ rfl (by simp) (by kernel_rfl) (at_int N) [c17] (by simp) rfl
    have g16' : [c16] = [Value.int .i64 i16] := g16
    injection g16' with g16'
    subst g16'
    have g17' : [c17] = [Value.int .i64 i17] := g17
    injection g17' with g17'
    subst g17'
    injection g0 with g0
    subst g0
    injection g1 with g1
    subst g1
    obtain ⟨a1, n1, p1, e, hs⟩ := gc.open
    refine ⟨⟨s0, s1, c, i16, i17⟩, ⟨a1, n1, p1, ?_, hs⟩, fits z0, zc⟩
    unfold opdC at e
    simp only [List.cons_append, List.nil_append, List.cons.injEq, and_true] at e
    obtain ⟨rfl, rfl, rfl, rfl, rfl, rfl, rfl, rfl, rfl, rfl, rfl, rfl, rfl, rfl⟩ := e
    rfl
def manIn : (Nat → Prop) → World → List Value → Many → Prop := fun F w row m => manF F w row m ∧ PatFit m.pat
set_option maxRecDepth 100000 in
theorem at_man (N : Nat) : OpensAt enc Tryd.prog w 87 20 manIn N := by
  match N with
  | 0 => exact opensAt_zero
  | N + 1 =>
  intro n row y hl h hlt hB hN
  obtain ⟨xs, k, -, rfl, -, hxl, hf⟩ := DataW.trod_struct Tryd.underlying87 h
  match row, hl, xs, hxl with
  | [c0, c1, c2, c3, c4, c5, c6, c7, c8, c9, c10, c11, c12, c13, c14, c15, c16, c17, c18, c19], _, [y0, y1, y2], _ =>
    obtain ⟨i0, g0⟩ := fieldS Tryd.underlying87 hf hlt hB hN 0 _ rfl (by simp) (by kernel_rfl) (at_int N) [c0] (by simp) rfl
    obtain ⟨s1, g1, z1⟩ := fieldS Tryd.underlying87 hf hlt hB hN 1 _ rfl (by simp) (by kernel_rfl) (at_str N) [c1] (by simp) rfl
    obtain ⟨p, gp, zp⟩ := fieldS Tryd.underlying87 hf hlt hB hN 2 _ rfl (by simp) (by kernel_rfl) (at_pat N) [c2, c3, c4, c5, c6, c7, c8, c9, c10, c11, c12, c13, c14, c15, c16, c17, c18, c19] (by simp) rfl
    have g0' : [c0] = [Value.int .i64 i0] := g0
    injection g0' with g0'
    subst g0'
    injection g1 with g1
    subst g1
    obtain ⟨a1, n1, p1, e, hs⟩ := gp
    refine ⟨⟨i0, s1, p⟩, ⟨a1, n1, p1, ?_, hs⟩, zp⟩
    unfold manC
    rw [← e]
set_option maxRecDepth 100000 in
theorem at_opt (N : Nat) : OpensAt enc Tryd.prog w 102 3 (plainF optC) N := by
  match N with
  | 0 => exact opensAt_zero
  | N + 1 =>
  intro n row y hl h hlt hB hN
  obtain ⟨xs, k, -, rfl, -, hxl, hf⟩ := DataW.trod_struct Tryd.underlying102 h
  match row, hl, xs, hxl with
  | [c0, c1, c2], _, [y0, y1, y2], _ =>
    obtain ⟨i0, g0⟩ := fieldS Tryd.underlying102 hf hlt hB hN 0 _ rfl (by simp) (by kernel_rfl) (at_int N) [c0] (by simp) rfl
    obtain ⟨i1, g1⟩ := fieldS Tryd.underlying102 hf hlt hB hN 1 _ rfl (by simp) (by kernel_rfl) (at_int N) [c1] (by simp) rfl
    obtain ⟨i2, g2⟩ := fieldS Tryd.underlying102 hf hlt hB hN 2 _ rfl (by simp) (by kernel_rfl) (at_int N) [c2] (by simp) rfl
    have g0' : [c0] = [Value.int .i64 i0] := g0
    injection g0' with g0'
    subst g0'
    have g1' : [c1] = [Value.int .i64 i1] := g1
    injection g1' with g1'
    subst g1'
    have g2' : [c2] = [Value.int .i64 i2] := g2
    injection g2' with g2'
    subst g2'
    exact ⟨⟨i0, i1, i2⟩, rfl⟩
set_option maxRecDepth 100000 in
theorem at_lnk (N : Nat) : OpensAt enc Tryd.prog w 100 3 lnkF N := by
  match N with
  | 0 => exact opensAt_zero
  | N + 1 =>
  intro n row y hl h hlt hB hN
  obtain ⟨xs, k, -, rfl, -, hxl, hf⟩ := DataW.trod_struct Tryd.underlying100 h
  match row, hl, xs, hxl with
  | [c0, c1, c2], _, [y0, y1, y2], _ =>
    obtain ⟨s0, g0, z0⟩ := fieldS Tryd.underlying100 hf hlt hB hN 0 _ rfl (by simp) (by kernel_rfl) (at_str N) [c0] (by simp) rfl
    obtain ⟨x1, a1, n1, p1, g1, S1⟩ := fieldS Tryd.underlying100 hf hlt hB hN 1 _ rfl (by simp) (by kernel_rfl) (sliceOf Tryd.underlying98 (by kernel_rfl) (by omega) at_opt N) [c1] (by simp) rfl
    obtain ⟨s2, g2, z2⟩ := fieldS Tryd.underlying100 hf hlt hB hN 2 _ rfl (by simp) (by kernel_rfl) (at_str N) [c2] (by simp) rfl
    injection g0 with g0
    subst g0
    injection g1 with g1
    subst g1
    injection g2 with g2
    subst g2
    exact ⟨⟨s0, x1, s2⟩, a1, n1, p1, rfl, S1⟩
/-- What a rule emits. -/
def emiIn : (Nat → Prop) → World → List Value → ByteArray × List Opd → Prop := fun F w row e => ∃ a n c, row = [.string e.1, .slice a n c] ∧ SlF F w 6 opdF a n c e.2 ∧ (∀ o ∈ e.2, OpdFit o) ∧ e.1.size ≤ maxLen
set_option maxRecDepth 100000 in
theorem at_emi (N : Nat) : OpensAt enc Tryd.prog w 60 2 emiIn N := by
  match N with
  | 0 => exact opensAt_zero
  | N + 1 =>
  intro n row y hl h hlt hB hN
  obtain ⟨xs, k, -, rfl, -, hxl, hf⟩ := DataW.trod_struct Tryd.underlying60 h
  match row, hl, xs, hxl with
  | [c0, c1], _, [y0, y1], _ =>
    obtain ⟨s0, g0, z0⟩ := fieldS Tryd.underlying60 hf hlt hB hN 0 _ rfl (by simp) (by kernel_rfl) (at_str N) [c0] (by simp) rfl
    obtain ⟨x1, a1, n1, p1, g1, S1⟩ := fieldS Tryd.underlying60 hf hlt hB hN 1 _ rfl (by simp) (by kernel_rfl) (sliceOf Tryd.underlying58 (by kernel_rfl) (by omega) at_opd N) [c1] (by simp) rfl
    injection g0 with g0
    subst g0
    injection g1 with g1
    subst g1
    exact ⟨(s0, x1), a1, n1, p1, rfl, S1.split.1, S1.split.2, fits z0⟩
def rulIn : (Nat → Prop) → World → List Value → Rul → Prop := fun F w row x => rulF F w row x ∧ RulFit x ∧ x.etype.size ≤ maxLen
set_option maxRecDepth 100000 in
theorem at_rul (N : Nat) : OpensAt enc Tryd.prog w 62 7 rulIn N := by
  match N with
  | 0 => exact opensAt_zero
  | N + 1 =>
  intro n row y hl h hlt hB hN
  obtain ⟨xs, k, -, rfl, -, hxl, hf⟩ := DataW.trod_struct Tryd.underlying62 h
  match row, hl, xs, hxl with
  | [c0, c1, c2, c3, c4, c5, c6], _, [y0, y1, y2, y3, y4, y5], _ =>
    obtain ⟨s0, g0, z0⟩ := fieldS Tryd.underlying62 hf hlt hB hN 0 _ rfl (by simp) (by kernel_rfl) (at_str N) [c0] (by simp) rfl
    obtain ⟨x1, a1, n1, p1, g1, S1⟩ := fieldS Tryd.underlying62 hf hlt hB hN 1 _ rfl (by simp) (by kernel_rfl) (sliceOf Tryd.underlying55 (by kernel_rfl) (by omega) at_pat N) [c1] (by simp) rfl
    obtain ⟨x2, a2, n2, p2, g2, S2⟩ := fieldS Tryd.underlying62 hf hlt hB hN 2 _ rfl (by simp) (by kernel_rfl) (sliceOf Tryd.underlying55 (by kernel_rfl) (by omega) at_pat N) [c2] (by simp) rfl
    obtain ⟨x3, a3, n3, p3, g3, S3⟩ := fieldS Tryd.underlying62 hf hlt hB hN 3 _ rfl (by simp) (by kernel_rfl) (sliceOf Tryd.underlying56 (by kernel_rfl) (by omega) at_man N) [c3] (by simp) rfl
    obtain ⟨x4, a4, n4, p4, g4, S4⟩ := fieldS Tryd.underlying62 hf hlt hB hN 4 _ rfl (by simp) (by kernel_rfl) (sliceOf Tryd.underlying57 (by kernel_rfl) (by omega) at_lnk N) [c4] (by simp) rfl
    obtain ⟨e, a5, n5, p5, g5, S5, zo, ze⟩ := fieldS Tryd.underlying62 hf hlt hB hN 5 _ rfl (by simp) (by kernel_rfl) (at_emi N) [c5, c6] (by simp) rfl
    injection g0 with g0
    subst g0
    injection g1 with g1
    subst g1
    injection g2 with g2
    subst g2
    injection g3 with g3
    subst g3
    injection g4 with g4
    subst g4
    simp only [List.cons.injEq, and_true] at g5
    obtain ⟨rfl, rfl⟩ := g5
    exact ⟨⟨s0, x1, x2, x3, x4, e.1, e.2⟩, ⟨a1, n1, p1, a2, n2, p2, a3, n3, p3, a4, n4, p4, a5, n5, p5, rfl, S1.split.1, S2.split.1, S3.split.1, S4, S5⟩, ⟨fits z0, S1.split.2, S2.split.2, S3.split.2, zo⟩, ze⟩
def bokIn : (Nat → Prop) → World → List Value → Bok → Prop := fun F w row b => ∃ a1 n1 c1 a2 n2 c2, row = [.slice a1 n1 c1, .slice a2 n2 c2] ∧ SlF F w 2 typIn a1 n1 c1 b.types ∧ SlF F w 7 rulIn a2 n2 c2 b.rules
set_option maxRecDepth 100000 in
theorem at_bok (N : Nat) : OpensAt enc Tryd.prog w 25 2 bokIn N := by
  match N with
  | 0 => exact opensAt_zero
  | N + 1 =>
  intro n row y hl h hlt hB hN
  obtain ⟨xs, k, -, rfl, -, hxl, hf⟩ := DataW.trod_struct Tryd.underlying25 h
  match row, hl, xs, hxl with
  | [c0, c1], _, [y0, y1], _ =>
    obtain ⟨x0, a0, n0, p0, g0, S0⟩ := fieldS Tryd.underlying25 hf hlt hB hN 0 _ rfl (by simp) (by kernel_rfl) (sliceOf Tryd.underlying22 (by kernel_rfl) (by omega) at_typ N) [c0] (by simp) rfl
    obtain ⟨x1, a1, n1, p1, g1, S1⟩ := fieldS Tryd.underlying25 hf hlt hB hN 1 _ rfl (by simp) (by kernel_rfl) (sliceOf Tryd.underlying23 (by kernel_rfl) (by omega) at_rul N) [c1] (by simp) rfl
    injection g0 with g0
    subst g0
    injection g1 with g1
    subst g1
    exact ⟨⟨x0, x1⟩, a0, n0, p0, a1, n1, p1, rfl, S0, S1⟩
/-- A book that came in. -/
theorem open_book {W : World} {v : Value} {d : DataW H} {ps : List MemPlace} (hk : v.cells.toList.length = 2) (h : DataW.Trod enc Tryd.prog W 0 (fun _ => true) true 25 v d ps) (hlt : ∀ p ∈ ps, p.block < W.heap.size) (hB : ∀ q ∈ d.weights Tryd.prog 25, q ≤ reachBytes) :
    ∃ (b : Bok) (a1 : Option Addr) (n1 c1 : Nat) (a2 : Option Addr) (n2 c2 : Nat), v.cells.toList = [.slice a1 n1 c1, .slice a2 n2 c2] ∧ SlF (under W.heap.size) W 2 typF a1 n1 c1 b.types ∧ SlF (under W.heap.size) W 7 rulF a2 n2 c2 b.rules ∧ (∀ t ∈ b.types, typOk t) ∧ (∀ x ∈ b.rules, RulFit x) ∧ ∀ x ∈ b.rules, x.etype.size ≤ maxLen := by
  obtain ⟨fuel, hf⟩ := h
  obtain ⟨b, a1, n1, c1, a2, n2, c2, e, S1, S2⟩ := at_bok (enc := enc) (w := W) (SizeOf.sizeOf d + 1) fuel v.cells.toList (d, ps) hk hf hlt hB (Nat.lt_succ_self _)
  have S2' : SlF (under W.heap.size) W 7 (fun F w row x => rulF F w row x ∧ (RulFit x ∧ x.etype.size ≤ maxLen)) a2 n2 c2 b.rules := S2
  exact ⟨b, a1, n1, c1, a2, n2, c2, e, S1.split.1, S2'.split.1, S1.split.2, fun x hx => (S2'.split.2 x hx).1, fun x hx => (S2'.split.2 x hx).2⟩
end
end Go.Proofs.YtnbnmcadoekcfaaDoor
/-
  A book that came in as an argument.
-/
namespace Go.Proofs.YtnbnmcadoekcfaaDoor
open Go.ChangeShapes Go.WideShapes Go.ChangeAt Go.RowKit Go.Joins Go.Deep
set_option linter.unusedVariables false
set_option linter.unusedSimpArgs false

set_option maxRecDepth 100000 in
/-- A book that came in. -/
theorem open_bok {H : Type} {enc : TypeId × Value → H} {W : World} {base : Nat} {v : Value} {d : DataW H} {ps : List MemPlace} (hv : Value.okWide Tryd.prog W .any base 25 v) (h : DataW.Trod enc Tryd.prog W 0 (fun _ => true) true 25 v d ps) (hlt : ∀ p ∈ ps, p.block < W.heap.size) (hB : ∀ q ∈ d.weights Tryd.prog 25, q ≤ reachBytes) :
    ∃ (b : Bok) (a1 : Option Addr) (n1 c1 : Nat) (a2 : Option Addr) (n2 c2 : Nat), v = .agg #[.slice a1 n1 c1, .slice a2 n2 c2] ∧ SlF (under W.heap.size) W 2 typF a1 n1 c1 b.types ∧ SlF (under W.heap.size) W 7 rulF a2 n2 c2 b.rules ∧ (∀ t ∈ b.types, typOk t) ∧ (∀ x ∈ b.rules, RulFit x) ∧ ∀ x ∈ b.rules, x.etype.size ≤ maxLen := by
  obtain ⟨cs, rfl, hsz⟩ := okWide_struct Tryd.underlying25 hv
  have hk : Tryd.prog.cellsOf 25 = 2 := by kernel_rfl
  obtain ⟨b, a1, n1, c1, a2, n2, c2, e, r⟩ := open_book (by rw [hk] at hsz; simpa [Value.cells] using hsz) h hlt hB
  refine ⟨b, a1, n1, c1, a2, n2, c2, ?_, r⟩
  have h1 : cs = cs.toList.toArray := by simp
  have h2 : cs.toList = [.slice a1 n1 c1, .slice a2 n2 c2] := by simpa [Value.cells] using e
  rw [h1, h2]
end Go.Proofs.YtnbnmcadoekcfaaDoor
/-
  The walks of value.CheckEvent and of its reference.
-/
namespace Go.Proofs.YtnbnmcadoekcfaaDoor
open Go.RowKit
set_option linter.unusedVariables false
set_option linter.unusedSimpArgs false

instance : Inhabited Typ := ⟨⟨ByteArray.empty, []⟩⟩
def typR : World → List Value → Typ → Prop := fun w row t => ∃ ao n cap, row = [.string t.name, .slice ao n cap] ∧ t.name.size ≤ maxLen ∧ SlR w 2 fldR ao n cap t.fields
theorem typR_stays : Stays typR := fun w w' row t hb ⟨ao, n, cap, e, h1, h2⟩ => ⟨ao, n, cap, e, h1, h2.mono fldR_stays hb⟩
theorem size_type : SizeIs Tryd.prog 50 2 := fun w => by kernel_rfl

/-- An event. -/
structure Evt where
  number : Int
  type : Int
  start : Int
  stop : Int
def Evt.val (x : Evt) (v : Value) : Value := .agg #[.int .i64 x.number, .int .i64 x.type, .int .i64 x.start, .int .i64 x.stop, v]
/-- What an event is refused for. -/
def eventE (ts : List Typ) (x : Evt) (vs : List Val) : Int :=
  if 1 ≤ x.number ∧ x.number ≤ 1048576 then
    (if 0 ≤ x.type ∧ x.type < ts.length then (if spanE x.start x.stop = 0 then fitE (ts.getD x.type.toNat default).name (ts.getD x.type.toNat default).fields vs else spanE x.start x.stop) else 6) else 2

set_option maxHeartbeats 2000000 in
theorem event_any (tq : Option Addr) (tn tcap : Nat) (ts : List Typ) (x : Evt) (vo : Option Addr) (m vcap : Nat) (vs : List Val) (w : World) (hT : SlR w 2 typR tq tn tcap ts) (hV : SlR w 3 valR vo m vcap vs) :
    Calls Tryd.prog 14 #[.slice tq tn tcap, x.val (.slice vo m vcap)] w fun e' w' => e' = .returned (.int .i64 (eventE ts x vs)) ∧ Below w.heap.size w w' := by
  have TL : Hid (tn = ts.length) := hT.len
  have hvle := hV.le
  have htle := hT.le
  have hd : Below w.heap.size w (w.alloc (.cells #[.int .i64 x.number, .int .i64 x.type, .int .i64 x.start, .int .i64 x.stop, .slice vo m vcap] 39)) := Joins.below_alloc1 _ _
  have hV1 := hV.mono valR_stays hd
  have hT1 := hT.mono typR_stays hd
  unfold Evt.val
  by_cases hn : 1 ≤ x.number ∧ x.number ≤ 1048576
  · have N1 : Hid (1 ≤ x.number ∧ x.number ≤ 1048576) := hn
    have n1 : decide (x.number < 1) = false := by simp; omega
    have n2 : decide ((1048576 : Int) < x.number) = false := by simp; omega
    have n3 : inB x.number 1 1048576 = true := inB_true.2 hn
    clear hn
    by_cases ht : 0 ≤ x.type ∧ x.type < tn
    · generalize hxt : x.type = xt at *
      obtain ⟨j, rfl⟩ := Int.eq_ofNat_of_zero_le ht.1
      have hjt : j < ts.length := by have := TL.out; omega
      have T1 : Hid (0 ≤ x.type ∧ x.type < ts.length) := by have := TL.out; rw [hxt]; exact ⟨ht.1, by omega⟩
      have TJ : Hid (ts.getD x.type.toNat default = ts[j]) := by show _ = _; rw [hxt]; simp [List.getD, List.getElem?_eq_getElem hjt]
      have t1 : decide ((j : Int) < 0) = false := by simp
      have t2 : decide ((tn : Int) ≤ (j : Int)) = false := by simp; omega
      have t3 : inB (j : Int) 0 ((tn : Int) - 1) = true := by rw [inB_true]; omega
      have hjn : j < tn := by omega
      obtain ⟨b, off, row, hix, hblt, hrow, ⟨ao, n, cap, rfl, hnm, hF⟩⟩ := hT1.index (P := Tryd.prog) Tryd.underlying22 size_type hjt
      obtain ⟨c0, c1⟩ := hrow.two
      clear hxt ht
      by_cases hs : spanE x.start x.stop = 0
      · have hs1 : (spanE x.start x.stop != 0) = false := by simp [hs]
        have hs2 : (spanE x.start x.stop == 0) = true := by simp [hs]
        have S0 : Hid (spanE x.start x.stop = 0) := hs
        clear hs
        go_enter Tryd.func14, Tryd.ntmps14
        go_wp2_with fail
        refine (span_any _ _ _).mono ?_
        rintro e w1 ⟨rfl, hb1⟩
        obtain ⟨hc_w1, hf_w1⟩ := bcell hb1; have hs_w1 := hb1.size; (try simp only [World.size_alloc, World.size_drew, World.size_setCell] at hs_w1); (try simp only [World.size_drew, World.cell?_drew, World.frozen?_drew] at hc_w1 hf_w1); have z0_w1 : w.heap.size < w1.heap.size := (by omega)
        have hF1 := hF.mono fldR_stays hb1
        have hV2 := hV1.mono valR_stays hb1
        have d0 : w1.cell? ⟨b, off + j * 2, none⟩ = some (.string ts[j].name) := (hb1.cell (p := ⟨b, off + j * 2, none⟩) hblt).trans c0
        have d1 : w1.cell? ⟨b, off + j * 2 + 1, none⟩ = some (.slice ao n cap) := (hb1.cell (p := ⟨b, off + j * 2 + 1, none⟩) hblt).trans c1
        go_wp2_with fail
        go_region_with (go_at_call 31; refine (fit_any ts[j].name ao n cap ts[j].fields vo m vcap vs _ hnm (hF1.mono fldR_stays ((Below.refl _ _).drew)) (hV2.mono valR_stays ((Below.refl _ _).drew))).mono ?_; rintro e w2 ⟨rfl, hb2⟩)
        all_goals
          go_wp2
          go_ret
          exact ⟨ret_int (by simp only [eventE, if_pos N1.out, if_pos T1.out, if_pos S0.out, TJ.out]), below_step (below_step hd hb1) (((Below.refl _ _).drew).trans hb2)⟩
      · have hs1 : (spanE x.start x.stop != 0) = true := by simp [hs]
        have hs2 : (spanE x.start x.stop == 0) = false := by simp [hs]
        have S0 : Hid (¬ spanE x.start x.stop = 0) := hs
        clear hs
        go_enter Tryd.func14, Tryd.ntmps14
        go_wp2_with fail
        refine (span_any _ _ _).mono ?_
        rintro e w1 ⟨rfl, hb1⟩
        go_wp2
        go_ret
        exact ⟨ret_int (by simp only [eventE, if_pos N1.out, if_pos T1.out, if_neg S0.out]), (by repeat (first | exact Below.refl _ _ | assumption | refine below_step ?_ (by assumption) | refine below_step ?_ (Joins.below_draws _ _ _) | (refine Below.alloc ?_ (by first | omega | (simp; done) | (simp; omega)) _) | (refine Below.setCell ?_ (by first | omega | (simp; done) | (simp; omega)) _) | refine Below.drew ?_))⟩
    · have T1 : Hid (¬ (0 ≤ x.type ∧ x.type < ts.length)) := by have := TL.out; intro h; exact ht ⟨h.1, by omega⟩
      by_cases ht0 : x.type < 0
      · have t1 : decide (x.type < 0) = true := by simp; omega
        have t3 : inB x.type 0 ((tn : Int) - 1) = false := by rw [inB_false]; omega
        clear ht
        go_enter Tryd.func14, Tryd.ntmps14
        go_wp2
        go_ret
        exact ⟨ret_int (by simp only [eventE, if_pos N1.out, if_neg T1.out]), (by repeat (first | exact Below.refl _ _ | assumption | refine below_step ?_ (by assumption) | refine below_step ?_ (Joins.below_draws _ _ _) | (refine Below.alloc ?_ (by first | omega | (simp; done) | (simp; omega)) _) | (refine Below.setCell ?_ (by first | omega | (simp; done) | (simp; omega)) _) | refine Below.drew ?_))⟩
      · have t1 : decide (x.type < 0) = false := by simp; omega
        have t2 : decide ((tn : Int) ≤ x.type) = true := by simp; omega
        have t3 : inB x.type 0 ((tn : Int) - 1) = false := by rw [inB_false]; omega
        clear ht
        go_enter Tryd.func14, Tryd.ntmps14
        go_wp2
        go_ret
        exact ⟨ret_int (by simp only [eventE, if_pos N1.out, if_neg T1.out]), (by repeat (first | exact Below.refl _ _ | assumption | refine below_step ?_ (by assumption) | refine below_step ?_ (Joins.below_draws _ _ _) | (refine Below.alloc ?_ (by first | omega | (simp; done) | (simp; omega)) _) | (refine Below.setCell ?_ (by first | omega | (simp; done) | (simp; omega)) _) | refine Below.drew ?_))⟩
  · have N1 : Hid (¬ (1 ≤ x.number ∧ x.number ≤ 1048576)) := hn
    have n3 : inB x.number 1 1048576 = false := inB_false.2 hn
    by_cases hn0 : x.number < 1
    · have n1 : decide (x.number < 1) = true := by simp; omega
      clear hn
      go_enter Tryd.func14, Tryd.ntmps14
      go_wp2
      go_ret
      exact ⟨ret_int (by simp only [eventE, if_neg N1.out]), (by repeat (first | exact Below.refl _ _ | assumption | refine below_step ?_ (by assumption) | refine below_step ?_ (Joins.below_draws _ _ _) | (refine Below.alloc ?_ (by first | omega | (simp; done) | (simp; omega)) _) | (refine Below.setCell ?_ (by first | omega | (simp; done) | (simp; omega)) _) | refine Below.drew ?_))⟩
    · have n1 : decide (x.number < 1) = false := by simp; omega
      have n2 : decide ((1048576 : Int) < x.number) = true := by simp; omega
      clear hn
      go_enter Tryd.func14, Tryd.ntmps14
      go_wp2
      go_ret
      exact ⟨ret_int (by simp only [eventE, if_neg N1.out]), (by repeat (first | exact Below.refl _ _ | assumption | refine below_step ?_ (by assumption) | refine below_step ?_ (Joins.below_draws _ _ _) | (refine Below.alloc ?_ (by first | omega | (simp; done) | (simp; omega)) _) | (refine Below.setCell ?_ (by first | omega | (simp; done) | (simp; omega)) _) | refine Below.drew ?_))⟩

set_option maxHeartbeats 2000000 in
theorem eventFault_any (tq : Option Addr) (tn tcap : Nat) (ts : List Typ) (x : Evt) (vo : Option Addr) (m vcap : Nat) (vs : List Val) (w : World) (hT : SlR w 2 typR tq tn tcap ts) (hV : SlR w 3 valR vo m vcap vs) :
    Calls Tryd.prog 16 #[.slice tq tn tcap, x.val (.slice vo m vcap)] w fun e' w' => e' = .returned (.int .i64 (eventE ts x vs)) ∧ Below w.heap.size w w' := by
  have TL : Hid (tn = ts.length) := hT.len
  have hvle := hV.le
  have htle := hT.le
  have hd : Below w.heap.size w (w.alloc (.cells #[.int .i64 x.number, .int .i64 x.type, .int .i64 x.start, .int .i64 x.stop, .slice vo m vcap] 39)) := Joins.below_alloc1 _ _
  have hV1 := hV.mono valR_stays hd
  have hT1 := hT.mono typR_stays hd
  unfold Evt.val
  by_cases hn : 1 ≤ x.number ∧ x.number ≤ 1048576
  · have N1 : Hid (1 ≤ x.number ∧ x.number ≤ 1048576) := hn
    have n1 : decide (x.number < 1) = false := by simp; omega
    have n2 : decide ((1048576 : Int) < x.number) = false := by simp; omega
    have n3 : inB x.number 1 1048576 = true := inB_true.2 hn
    clear hn
    by_cases ht : 0 ≤ x.type ∧ x.type < tn
    · generalize hxt : x.type = xt at *
      obtain ⟨j, rfl⟩ := Int.eq_ofNat_of_zero_le ht.1
      have hjt : j < ts.length := by have := TL.out; omega
      have T1 : Hid (0 ≤ x.type ∧ x.type < ts.length) := by have := TL.out; rw [hxt]; exact ⟨ht.1, by omega⟩
      have TJ : Hid (ts.getD x.type.toNat default = ts[j]) := by show _ = _; rw [hxt]; simp [List.getD, List.getElem?_eq_getElem hjt]
      have t1 : decide ((j : Int) < 0) = false := by simp
      have t2 : decide ((tn : Int) ≤ (j : Int)) = false := by simp; omega
      have t3 : inB (j : Int) 0 ((tn : Int) - 1) = true := by rw [inB_true]; omega
      have hjn : j < tn := by omega
      obtain ⟨b, off, row, hix, hblt, hrow, ⟨ao, n, cap, rfl, hnm, hF⟩⟩ := hT1.index (P := Tryd.prog) Tryd.underlying22 size_type hjt
      obtain ⟨c0, c1⟩ := hrow.two
      clear hxt ht
      by_cases hs : spanE x.start x.stop = 0
      · have hs1 : (spanE x.start x.stop != 0) = false := by simp [hs]
        have hs2 : (spanE x.start x.stop == 0) = true := by simp [hs]
        have S0 : Hid (spanE x.start x.stop = 0) := hs
        clear hs
        go_enter Tryd.func16, Tryd.ntmps16
        go_wp2_with (go_at_call 24; refine (in_any _ _ _ _).mono ?_; rintro e w' ⟨rfl, rfl⟩)
        refine (spanFault_any _ _ _).mono ?_
        rintro e w1 ⟨rfl, hb1⟩
        obtain ⟨hc_w1, hf_w1⟩ := bcell hb1; have hs_w1 := hb1.size; (try simp only [World.size_alloc, World.size_drew, World.size_setCell] at hs_w1); (try simp only [World.size_drew, World.cell?_drew, World.frozen?_drew] at hc_w1 hf_w1); have z0_w1 : w.heap.size < w1.heap.size := (by omega)
        have hF1 := hF.mono fldR_stays hb1
        have hV2 := hV1.mono valR_stays hb1
        have d0 : w1.cell? ⟨b, off + j * 2, none⟩ = some (.string ts[j].name) := (hb1.cell (p := ⟨b, off + j * 2, none⟩) hblt).trans c0
        have d1 : w1.cell? ⟨b, off + j * 2 + 1, none⟩ = some (.slice ao n cap) := (hb1.cell (p := ⟨b, off + j * 2 + 1, none⟩) hblt).trans c1
        go_wp2_with fail
        go_region_with (go_at_call 38; refine (fitFault_any ts[j].name ao n cap ts[j].fields vo m vcap vs _ hnm (hF1.mono fldR_stays ((Below.refl _ _).drew)) (hV2.mono valR_stays ((Below.refl _ _).drew))).mono ?_; rintro e w2 ⟨rfl, hb2⟩)
        all_goals
          go_wp2
          go_ret
          exact ⟨ret_int (by simp only [eventE, if_pos N1.out, if_pos T1.out, if_pos S0.out, TJ.out]), below_step (below_step hd hb1) (((Below.refl _ _).drew).trans hb2)⟩
      · have hs1 : (spanE x.start x.stop != 0) = true := by simp [hs]
        have hs2 : (spanE x.start x.stop == 0) = false := by simp [hs]
        have S0 : Hid (¬ spanE x.start x.stop = 0) := hs
        clear hs
        go_enter Tryd.func16, Tryd.ntmps16
        go_wp2_with (go_at_call 24; refine (in_any _ _ _ _).mono ?_; rintro e w' ⟨rfl, rfl⟩)
        refine (spanFault_any _ _ _).mono ?_
        rintro e w1 ⟨rfl, hb1⟩
        go_wp2
        go_ret
        exact ⟨ret_int (by simp only [eventE, if_pos N1.out, if_pos T1.out, if_neg S0.out]), (by repeat (first | exact Below.refl _ _ | assumption | refine below_step ?_ (by assumption) | refine below_step ?_ (Joins.below_draws _ _ _) | (refine Below.alloc ?_ (by first | omega | (simp; done) | (simp; omega)) _) | (refine Below.setCell ?_ (by first | omega | (simp; done) | (simp; omega)) _) | refine Below.drew ?_))⟩
    · have T1 : Hid (¬ (0 ≤ x.type ∧ x.type < ts.length)) := by have := TL.out; intro h; exact ht ⟨h.1, by omega⟩
      by_cases ht0 : x.type < 0
      · have t1 : decide (x.type < 0) = true := by simp; omega
        have t3 : inB x.type 0 ((tn : Int) - 1) = false := by rw [inB_false]; omega
        clear ht
        go_enter Tryd.func16, Tryd.ntmps16
        go_wp2_with (go_at_call 24; refine (in_any _ _ _ _).mono ?_; rintro e w' ⟨rfl, rfl⟩)
        go_ret
        exact ⟨ret_int (by simp only [eventE, if_pos N1.out, if_neg T1.out]), (by repeat (first | exact Below.refl _ _ | assumption | refine below_step ?_ (by assumption) | refine below_step ?_ (Joins.below_draws _ _ _) | (refine Below.alloc ?_ (by first | omega | (simp; done) | (simp; omega)) _) | (refine Below.setCell ?_ (by first | omega | (simp; done) | (simp; omega)) _) | refine Below.drew ?_))⟩
      · have t1 : decide (x.type < 0) = false := by simp; omega
        have t2 : decide ((tn : Int) ≤ x.type) = true := by simp; omega
        have t3 : inB x.type 0 ((tn : Int) - 1) = false := by rw [inB_false]; omega
        clear ht
        go_enter Tryd.func16, Tryd.ntmps16
        go_wp2_with (go_at_call 24; refine (in_any _ _ _ _).mono ?_; rintro e w' ⟨rfl, rfl⟩)
        go_ret
        exact ⟨ret_int (by simp only [eventE, if_pos N1.out, if_neg T1.out]), (by repeat (first | exact Below.refl _ _ | assumption | refine below_step ?_ (by assumption) | refine below_step ?_ (Joins.below_draws _ _ _) | (refine Below.alloc ?_ (by first | omega | (simp; done) | (simp; omega)) _) | (refine Below.setCell ?_ (by first | omega | (simp; done) | (simp; omega)) _) | refine Below.drew ?_))⟩
  · have N1 : Hid (¬ (1 ≤ x.number ∧ x.number ≤ 1048576)) := hn
    have n3 : inB x.number 1 1048576 = false := inB_false.2 hn
    by_cases hn0 : x.number < 1
    · have n1 : decide (x.number < 1) = true := by simp; omega
      clear hn
      go_enter Tryd.func16, Tryd.ntmps16
      go_wp2_with (go_at_call 24; refine (in_any _ _ _ _).mono ?_; rintro e w' ⟨rfl, rfl⟩)
      go_ret
      exact ⟨ret_int (by simp only [eventE, if_neg N1.out]), (by repeat (first | exact Below.refl _ _ | assumption | refine below_step ?_ (by assumption) | refine below_step ?_ (Joins.below_draws _ _ _) | (refine Below.alloc ?_ (by first | omega | (simp; done) | (simp; omega)) _) | (refine Below.setCell ?_ (by first | omega | (simp; done) | (simp; omega)) _) | refine Below.drew ?_))⟩
    · have n1 : decide (x.number < 1) = false := by simp; omega
      have n2 : decide ((1048576 : Int) < x.number) = true := by simp; omega
      clear hn
      go_enter Tryd.func16, Tryd.ntmps16
      go_wp2_with (go_at_call 24; refine (in_any _ _ _ _).mono ?_; rintro e w' ⟨rfl, rfl⟩)
      go_ret
      exact ⟨ret_int (by simp only [eventE, if_neg N1.out]), (by repeat (first | exact Below.refl _ _ | assumption | refine below_step ?_ (by assumption) | refine below_step ?_ (Joins.below_draws _ _ _) | (refine Below.alloc ?_ (by first | omega | (simp; done) | (simp; omega)) _) | (refine Below.setCell ?_ (by first | omega | (simp; done) | (simp; omega)) _) | refine Below.drew ?_))⟩
end Go.Proofs.YtnbnmcadoekcfaaDoor
/-
  Lists of events checked against a book, in plain Lean; their rows of cells.
-/
namespace Go.Proofs.YtnbnmcadoekcfaaDoor
open Go.RowKit
set_option linter.unusedVariables false
set_option linter.unusedSimpArgs false

/-- An operation whose guard was itself left out. -/
theorem s_skipU {P : Program} {opsl rest : List Oper} {w : World} {Q : Act → Prop} {dst : Option Tmp} {op : Op} {oty : TypeId} {pos : String} {after : Array Edge} {gi : Nat} {want : Bool} {t : Tmp} {l l' : List Value} {ds : List Deferred} [ho : NthO opsl gi t] [hv : Nth l t undef] [hp : PutI l dst undef l'] (h : wpStill P opsl.toArray w Q rest ⟨l'.toArray, ds⟩) : wpStill P opsl.toArray w Q (⟨dst, op, oty, pos, after, some (gi, want)⟩ :: rest) ⟨l.toArray, ds⟩ :=
  wpStill_step fun K hK => by
    have hn : ¬ Region.wanted (⟨dst, op, oty, pos, after, some (gi, want)⟩ : Oper) (yielded opsl.toArray l.toArray) = true := by
      obtain ⟨o', h2, h3⟩ := ho.at_
      have h1 := hv.nth
      simp only [Region.wanted, yielded, List.getElem?_toArray, h2, Option.bind_some, h3, h1]
      cases want <;> simp [undef]
    rw [if_neg hn]; refine hK _ ?_; rw [hp.put]; exact h
/-- An event with its values. -/
structure Eve where
  e : Evt
  vals : List Val
instance : Inhabited Evt := ⟨⟨0, 0, 0, 0⟩⟩
instance : Inhabited Eve := ⟨⟨default, []⟩⟩
/-- What the i'th event of a list is refused for. -/
def evesE (ts : List Typ) (l : List Eve) (i : Nat) : Int :=
  if eventE ts (l.getD i default).e (l.getD i default).vals ≠ 0 then eventE ts (l.getD i default).e (l.getD i default).vals
  else if 0 < i ∧ ((l.getD i default).e.number ≤ (l.getD (i - 1) default).e.number ∨ (l.getD i default).e.stop < (l.getD (i - 1) default).e.stop) then 9 else 0
/-- What a list of events is refused for. -/
def eventsE (b : Bok) (l : List Eve) : Int :=
  if bookE b ≠ 0 then bookE b else if 120 < l.length then 1 else firstN (evesE b.types l) l.length
/-- Its row. -/
def eveF (F : Nat → Prop) (w : World) (row : List Value) (x : Eve) : Prop := ∃ ao n cap, row = [.int .i64 x.e.number, .int .i64 x.e.type, .int .i64 x.e.start, .int .i64 x.e.stop, .slice ao n cap] ∧ SlF F w 3 (plainF valC) ao n cap x.vals
theorem eveF_firm : Firm eveF := fun F G w w' row x hs ⟨ao, n, cap, h1, h2⟩ => ⟨ao, n, cap, h1, h2.same (plainF_firm _) hs⟩
theorem size_eve : SizeIs Tryd.prog 39 5 := fun w => by kernel_rfl
theorem stEve : StT Tryd.prog 39 5 := ⟨by kernel_rfl, _, Tryd.underlying39, rfl⟩
theorem zeEve : ZeroT Tryd.prog 39 [.int .i64 0, .int .i64 0, .int .i64 0, .int .i64 0, .slice none 0 0] := ⟨by kernel_rfl⟩
theorem oneVals : OneT Tryd.prog 37 := ⟨by kernel_rfl, _, Tryd.underlying37, rfl⟩
instance iStEve : StI Tryd.prog 39 5 := ⟨stEve⟩
instance iZeEve : ZeI Tryd.prog 39 [.int .i64 0, .int .i64 0, .int .i64 0, .int .i64 0, .slice none 0 0] := ⟨zeEve⟩
instance iOneVals : OneI Tryd.prog 37 := ⟨oneVals⟩
/-- Texts that fit. -/
def eveOk (x : Eve) : Prop := ∀ v ∈ x.vals, v.text.size ≤ maxLen
theorem val_R {F : Nat → Prop} {w : World} {ao : Option Addr} {n cap : Nat} {vs : List Val} (h : SlF F w 3 (plainF valC) ao n cap vs) (hb : ∀ v ∈ vs, v.text.size ≤ maxLen) : SlR w 3 valR ao n cap vs := by
  obtain ⟨h1, h2, h3, h4, h5⟩ := h.toR
  refine ⟨h1, h2, h3, h4, fun i hi => ?_⟩
  obtain ⟨b, off, row, e, hl, hr, hx⟩ := h5 i hi
  exact ⟨b, off, row, e, hl, hr, hx, hb _ (List.getElem_mem hi)⟩
theorem typ_R {F : Nat → Prop} {w : World} {ao : Option Addr} {n cap : Nat} {ts : List Typ} (h : SlF F w 2 typF ao n cap ts) (hb : ∀ t ∈ ts, typOk t) : SlR w 2 typR ao n cap ts := by
  obtain ⟨h1, h2, h3, h4, h5⟩ := h.toR
  refine ⟨h1, h2, h3, h4, fun i hi => ?_⟩
  obtain ⟨b, off, row, e, hl, hr, a1, n1, c1, hx, hf⟩ := h5 i hi
  have ht := hb _ (List.getElem_mem hi)
  exact ⟨b, off, row, e, hl, hr, a1, n1, c1, hx, ht.1, fld_R hf ht.2⟩
end Go.Proofs.YtnbnmcadoekcfaaDoor
/-
  Lists of events as an argument, opened.
-/
namespace Go.Proofs.YtnbnmcadoekcfaaDoor
open Go.ChangeShapes Go.WideShapes Go.ChangeAt Go.RowKit Go.Joins Go.Deep
set_option linter.unusedVariables false
set_option linter.unusedSimpArgs false

section
variable {H : Type} {enc : TypeId × Value → H} {w : World}
def valIn : (Nat → Prop) → World → List Value → Val → Prop := fun F w row v => plainF valC F w row v ∧ v.text.size ≤ maxLen
theorem at_valv (N : Nat) : OpensAt enc Tryd.prog w 71 3 valIn N := fun n row y hl h hlt hB hN => by
  obtain ⟨v, e, z⟩ := at_val N n row y hl h hlt hB hN
  exact ⟨⟨v.1, v.2.1, v.2.2⟩, e, z⟩
def spnF : (Nat → Prop) → World → List Value → Int × Int → Prop := fun _ _ row v => row = [.int .i64 v.1, .int .i64 v.2]
set_option maxRecDepth 100000 in
theorem at_span (N : Nat) : OpensAt enc Tryd.prog w 36 2 spnF N := by
  match N with
  | 0 => exact opensAt_zero
  | N + 1 =>
  intro n row y hl h hlt hB hN
  obtain ⟨xs, k, -, rfl, -, hxl, hf⟩ := DataW.trod_struct Tryd.underlying36 h
  match row, hl, xs, hxl with
  | [c0, c1], _, [y0, y1], _ =>
    obtain ⟨i0, g0⟩ := fieldS Tryd.underlying36 hf hlt hB hN 0 _ rfl (by simp) (by kernel_rfl) (at_int N) [c0] (by simp) rfl
    obtain ⟨i1, g1⟩ := fieldS Tryd.underlying36 hf hlt hB hN 1 _ rfl (by simp) (by kernel_rfl) (at_int N) [c1] (by simp) rfl
    have g0' : [c0] = [Value.int .i64 i0] := g0
    injection g0' with g0'
    subst g0'
    have g1' : [c1] = [Value.int .i64 i1] := g1
    injection g1' with g1'
    subst g1'
    exact ⟨(i0, i1), rfl⟩
def eveIn : (Nat → Prop) → World → List Value → Eve → Prop := fun F w row x => eveF F w row x ∧ eveOk x
set_option maxRecDepth 100000 in
theorem at_eve (N : Nat) : OpensAt enc Tryd.prog w 39 5 eveIn N := by
  match N with
  | 0 => exact opensAt_zero
  | N + 1 =>
  intro n row y hl h hlt hB hN
  obtain ⟨xs, k, -, rfl, -, hxl, hf⟩ := DataW.trod_struct Tryd.underlying39 h
  match row, hl, xs, hxl with
  | [c0, c1, c2, c3, c4], _, [y0, y1, y2, y3], _ =>
    obtain ⟨i0, g0⟩ := fieldS Tryd.underlying39 hf hlt hB hN 0 _ rfl (by simp) (by kernel_rfl) (at_int N) [c0] (by simp) rfl
    obtain ⟨i1, g1⟩ := fieldS Tryd.underlying39 hf hlt hB hN 1 _ rfl (by simp) (by kernel_rfl) (at_int N) [c1] (by simp) rfl
    obtain ⟨s, gs⟩ := fieldS Tryd.underlying39 hf hlt hB hN 2 _ rfl (by simp) (by kernel_rfl) (at_span N) [c2, c3] (by simp) rfl
    obtain ⟨x4, a4, n4, p4, g4, S4⟩ := fieldS Tryd.underlying39 hf hlt hB hN 3 _ rfl (by simp) (by kernel_rfl) (sliceOf Tryd.underlying37 (by kernel_rfl) (by omega) at_valv N) [c4] (by simp) rfl
    have g0' : [c0] = [Value.int .i64 i0] := g0
    injection g0' with g0'
    subst g0'
    have g1' : [c1] = [Value.int .i64 i1] := g1
    injection g1' with g1'
    subst g1'
    have gs' : [c2, c3] = [Value.int .i64 s.1, Value.int .i64 s.2] := gs
    simp only [List.cons.injEq, and_true] at gs'
    obtain ⟨rfl, rfl⟩ := gs'
    injection g4 with g4
    subst g4
    have S4' : SlF (under w.heap.size) w 3 (fun F w row v => plainF valC F w row v ∧ v.text.size ≤ maxLen) a4 n4 p4 x4 := S4
    exact ⟨⟨⟨i0, i1, s.1, s.2⟩, x4⟩, ⟨a4, n4, p4, rfl, S4'.split.1⟩, S4'.split.2⟩
end
theorem opens_events : Opens Tryd.prog 26 1 (sliceF 5 56 eveIn) := opens_slice Tryd.underlying26 (by kernel_rfl) (by kernel_rfl) ⟨by kernel_rfl, by omega, fun {H enc} w n row y hl h hlt hB => at_eve _ n row y hl h hlt hB (Nat.lt_succ_self _)⟩
set_option maxRecDepth 100000 in
/-- A list of events that came in. -/
theorem open_events {H : Type} {enc : TypeId × Value → H} {W : World} {base : Nat} {v : Value} {d : DataW H} {ps : List MemPlace} (hv : Value.okWide Tryd.prog W .any base 26 v) (h : DataW.Trod enc Tryd.prog W 0 (fun _ => true) true 26 v d ps) (hlt : ∀ p ∈ ps, p.block < W.heap.size) (hB : ∀ q ∈ d.weights Tryd.prog 26, q ≤ reachBytes) :
    ∃ (l : List Eve) (ao : Option Addr) (n cap : Nat), v = .slice ao n cap ∧ SlF (under W.heap.size) W 5 eveF ao n cap l ∧ (∀ x ∈ l, eveOk x) ∧ n * 56 ≤ 140737488355328 := by
  obtain ⟨qa, qb, qc, rfl⟩ := okWide_slice Tryd.underlying26 hv
  obtain ⟨l, ao, n, cap, e, S, h8⟩ := open_arg opens_events (by simp [Value.cells]) h hlt hB
  simp only [Value.cells, List.cons.injEq, and_true, Value.slice.injEq] at e
  obtain ⟨rfl, rfl, rfl⟩ := e
  have S' : SlF (under W.heap.size) W 5 (fun F w row x => eveF F w row x ∧ eveOk x) qa qb qc l := S
  refine ⟨l, qa, qb, qc, rfl, S'.split.1, S'.split.2, ?_⟩
  rw [S.len]
  omega
end Go.Proofs.YtnbnmcadoekcfaaDoor
/-
  The walks of join.CheckEvents and of its reference. Printed by jow.py.
-/
namespace Go.Proofs.YtnbnmcadoekcfaaDoor
open Go.RowKit
set_option linter.unusedVariables false
set_option linter.unusedSimpArgs false

theorem eves_book {b : Bok} {l : List Eve} (h : bookE b ≠ 0) : eventsE b l = bookE b := by unfold eventsE; rw [if_pos h]
theorem eves_size {b : Bok} {l : List Eve} (h : bookE b = 0) (h2 : 120 < l.length) : eventsE b l = 1 := by unfold eventsE; rw [if_neg (by rw [h]; simp), if_pos h2]
theorem eves_at {b : Bok} {l : List Eve} (h : bookE b = 0) (h2 : ¬ 120 < l.length) {j : Nat} (hz : AllZ (evesE b.types l) j) (hj : j < l.length) {e : Int} (he : evesE b.types l j = e) (hn : e ≠ 0) : eventsE b l = e := by
  unfold eventsE; rw [if_neg (by rw [h]; simp), if_neg h2, firstN_at hz hj (by rw [he]; exact hn), he]
theorem eves_none {b : Bok} {l : List Eve} (h : bookE b = 0) (h2 : ¬ 120 < l.length) (hz : AllZ (evesE b.types l) l.length) : eventsE b l = 0 := by
  unfold eventsE; rw [if_neg (by rw [h]; simp), if_neg h2, firstN_zero hz]
theorem getD_at {α : Type} [Inhabited α] {l : List α} {j : Nat} (h : j < l.length) : l.getD j default = l[j] := by simp [List.getD, List.getElem?_eq_getElem h]
theorem eves_zero {ts : List Typ} {l : List Eve} (h : 0 < l.length) : evesE ts l 0 = eventE ts l[0].e l[0].vals := by
  unfold evesE
  rw [getD_at h]
  split
  · rfl
  · rename_i hz
    simp at hz
    simp [hz]
theorem eves_pre {ts : List Typ} {l : List Eve} {j : Nat} (h : j < l.length) (hp : j - 1 < l.length) (h0 : 0 < j) : evesE ts l j = if eventE ts l[j].e l[j].vals ≠ 0 then eventE ts l[j].e l[j].vals else if l[j].e.number ≤ l[j - 1].e.number ∨ l[j].e.stop < l[j - 1].e.stop then 9 else 0 := by
  unfold evesE
  rw [getD_at h, getD_at hp]
  simp [h0]
theorem eves_fault {ts : List Typ} {l : List Eve} {j : Nat} (h : j < l.length) (hn : eventE ts l[j].e l[j].vals ≠ 0) : evesE ts l j = eventE ts l[j].e l[j].vals := by
  unfold evesE
  rw [getD_at h, if_pos hn]
section
variable {g : Nat} {F F3 : Nat → Prop} {w0 : World}
set_option maxRecDepth 8000 in
set_option maxHeartbeats 16000000 in
theorem checkEvents_any (hg : g < w0.heap.size) (E : Env F w0) (hF : ∀ b, F b → b < w0.heap.size) (b : Bok) (a1 : Option Addr) (n1 c1 : Nat) (a2 : Option Addr) (n2 c2 : Nat) (X1 : SlF F w0 2 typF a1 n1 c1 b.types) (X2 : SlF F w0 7 rulF a2 n2 c2 b.rules) (hts : ∀ t ∈ b.types, typOk t) (hrs : ∀ x ∈ b.rules, RulFit x) (hes : ∀ x ∈ b.rules, x.etype.size ≤ maxLen) (a3 : Option Addr) (n3 c3 : Nat) (l : List Eve) (X3 : SlF F3 w0 5 eveF a3 n3 c3 l) (hls : ∀ x ∈ l, eveOk x) : Calls Tryd.prog 6 #[.agg #[.slice a1 n1 c1, .slice a2 n2 c2], .slice a3 n3 c3] w0 fun e w' => e = .returned (.int .i64 (eventsE b l)) ∧ Below w0.heap.size w0 w' := by
  have M := Mem.begin hg ⟨0, 0⟩
  have N3 := Lib.hid X3.len
  have hle3 := X3.le
  have HC : Hid (∀ wx, Below w0.heap.size w0 wx → Calls Tryd.prog 13 #[.agg #[.slice a1 n1 c1, .slice a2 n2 c2]] wx fun e w' => e = .returned (.int .i64 (bookE b)) ∧ Below wx.heap.size wx w') := fun wx hb => check_any (E.below hb).lt (E.below hb) (fun k hk => Nat.lt_of_lt_of_le (hF k hk) hb.size) b a1 n1 c1 a2 n2 c2 (X1.below typF_firm hb) (X2.below rulF_firm hb) hts hrs hes
  have HT := Lib.hid (fun wx (hb : Below w0.heap.size w0 wx) => typ_R (X1.below typF_firm hb) hts)
  by_cases hb0 : bookE b = 0
  · rw [hb0] at HC
    by_cases h120 : 120 < n3
    · have HV : Hid (eventsE b l = 1) := eves_size hb0 (by have := N3.out; omega)
      have d1 : decide ((120 : Int) < n3) = true := by simp; omega
      clear hb0 h120 X1 X2 X3 hts hrs hes hls hg hF E HT
      go_enter Tryd.func6, Tryd.ntmps6
      go_wp2_with (first | (with_reducible (first | (refine wb (L := []) M ?_; clear M; intro za w1 M) | refine wl M ?_ | refine wlg M ?_ | (refine ws M ?_; clear M; intro w M) | (refine wsc M ?_; clear M; intro w M) | (refine wv M ?_; clear M; intro z w M) | (refine wr M ?_; clear M; intro q w M) | refine o_skipT ?_ | refine o_skipF ?_)) | (go_at_call 13; with_reducible refine (HC.out _ M.new).mono ?_; rintro e w5 ⟨rfl, hb5⟩; replace M := M.below hb5; clear hb5))
      go_ret
      rw [HV.out]
      exact ⟨rfl, M.new⟩
    · have d1 : decide ((120 : Int) < n3) = false := by simp; omega
      have HB0 := Lib.hid hb0
      have H12 : Hid (¬ 120 < l.length) := by have := N3.out; show ¬ _; omega
      have HLS := Lib.hid hls
      have HX3 := Lib.hid X3
      clear hb0 X1 X2 X3 hts hrs hes hls hg hF E
      go_enter Tryd.func6, Tryd.ntmps6
      go_wp2_with (first | (with_reducible (first | (refine wb (L := []) M ?_; clear M; intro za w1 M) | refine wl M ?_ | refine wlg M ?_ | (refine ws M ?_; clear M; intro w M) | (refine wsc M ?_; clear M; intro w M) | (refine wv M ?_; clear M; intro z w M) | (refine wr M ?_; clear M; intro q w M) | refine o_skipT ?_ | refine o_skipF ?_)) | (go_at_call 13; with_reducible refine (HC.out _ M.new).mono ?_; rintro e w5 ⟨rfl, hb5⟩; replace M := M.below hb5; clear hb5))
      go_loopg [19] n3 (fun f i wr => ∃ (j : Nat), j + f = n3 ∧ i = .int .i64 j ∧ Mem (StaysB g w0) g w0 wr ⟨0, 0⟩ (own za [.slice a1 n1 c1, .slice a2 n2 c2] 25 :: []) ∧ Hid (AllZ (evesE b.types l) j))
      case atStart => exact ⟨0, by omega, rfl, M, allZ_zero _⟩
      case round =>
        clear M
        obtain ⟨j, hj, rfl, M, HZ⟩ := hrel
        by_cases hlt : j < n3
        · have hkl : j < l.length := by have := N3.out; omega
          obtain ⟨ct, ot, rowt, hixt, -, hrrt, hwt⟩ := SlF.rowAt (P := Tryd.prog) HX3.out eveF_firm Tryd.underlying26 size_eve (i := j) hkl
          obtain ⟨p1, q1, s1, et, ut⟩ := hrrt
          subst et
          have HR := Lib.hid (fun wx hb => (hwt wx hb).1)
          have hto := HLS.out _ (List.getElem_mem hkl)
          have HEV : Hid (∀ wx, Below w0.heap.size w0 wx → Calls Tryd.prog 14 #[.slice a1 n1 c1, .agg #[.int .i64 l[j].e.number, .int .i64 l[j].e.type, .int .i64 l[j].e.start, .int .i64 l[j].e.stop, .slice p1 q1 s1]] wx fun e w' => e = .returned (.int .i64 (eventE b.types l[j].e l[j].vals)) ∧ Below wx.heap.size wx w') := fun wx hb => event_any a1 n1 c1 b.types l[j].e p1 q1 s1 l[j].vals wx (HT.out wx hb) (val_R (ut.below (plainF_firm _) hb) hto)
          clear hwt hto ut
          by_cases hq : eventE b.types l[j].e l[j].vals = 0
          · rw [hq] at HEV
            have HS0 : Hid (j = 0 → AllZ (evesE b.types l) (j + 1)) := fun h => allZ_succ HZ.out (by subst h; rw [eves_zero hkl]; exact hq)
            have HS1 : Hid (∀ hp : j - 1 < l.length, 0 < j → evesE b.types l j = if l[j].e.number ≤ l[j - 1].e.number ∨ l[j].e.stop < l[j - 1].e.stop then 9 else 0) := fun hp h0 => by rw [eves_pre hkl hp h0, if_neg (by rw [hq]; simp)]
            have HZ2 : Hid (evesE b.types l j = 0 → AllZ (evesE b.types l) (j + 1)) := fun h => allZ_succ HZ.out h
            have HE2 : Hid (∀ e, evesE b.types l j = e → e ≠ 0 → eventsE b l = e) := fun e he hn => eves_at HB0.out H12.out HZ.out hkl he hn
            have HKL := Lib.hid hkl
            generalize l[j] = x at HR HEV HS1
            clear HZ hq hkl
            go_wp2_with (first | (with_reducible (first | (refine wv M ?_; clear M; intro zt w M) | refine wl M ?_ | refine wlg M ?_ | (refine ws M ?_; clear M; intro w M) | (refine wsc M ?_; clear M; intro w M) | (refine wv M ?_; clear M; intro z w M) | (refine wr M ?_; clear M; intro q w M) | refine o_skipT ?_ | refine o_skipF ?_ | refine wa (HR.out _ M.new) ?_)) | (go_at_call 14; with_reducible refine (HEV.out _ M.new).mono ?_; rintro e w5 ⟨rfl, hb5⟩; replace M := M.below hb5; clear hb5))
            by_cases hj0 : j = 0
            · have HZ3 := Lib.hid (HS0.out hj0)
              have dk0 : decide (0 < j) = false := by simp; omega
              clear HS0 HS1 HZ2 HE2 hj0
              ((refine wp_region_still_lit (by kernel_rfl) (by kernel_rfl) ?_); (change wpStill _ _ (World.drew _) _ _ _); replace M := M.drew; (repeat (first | ((with_reducible refine s_list rfl fun K hK => ?_); refine s_load ?_; (first | refine q_all M (by rfl) ?_ | refine q_get M (by exact rfl) ?_ | refine q_prt M (by rfl) ?_); refine ⟨rfl, hK _ ?_⟩; clear hK K) | ((with_reducible refine s_listg fun K hK => ?_); refine s_load ?_; (first | refine q_all M (by rfl) ?_ | refine q_get M (by exact rfl) ?_ | refine q_prt M (by rfl) ?_); refine ⟨rfl, hK _ ?_⟩; clear hK K) | (with_reducible refine s_skipT ?_) | (with_reducible refine s_skipF ?_) | (with_reducible refine s_skipU ?_) | ((first | (with_reducible refine s_list rfl fun K hK => ?_) | (with_reducible refine s_listg fun K hK => ?_)); refine s_pure ?_; go_simp; with_reducible refine hK _ ?_; clear hK K))); (with_reducible refine wpStill_nil ?_))
              go_wp2_with (first | (with_reducible (first | refine wl M ?_ | refine wlg M ?_ | (refine ws M ?_; clear M; intro w M) | (refine wsc M ?_; clear M; intro w M) | (refine wv M ?_; clear M; intro z w M) | (refine wr M ?_; clear M; intro q w M) | refine o_skipT ?_ | refine o_skipF ?_)))
              go_roundg (n3 - (j + 1))
              case measure => omega
              case rel => exact ⟨j + 1, by omega, by go_num, M.drop, HZ3⟩
            · have hpl : j - 1 < l.length := by have := HKL.out; omega
              obtain ⟨cs, os, rows, hixs, -, hrrs, hws⟩ := SlF.rowAt (P := Tryd.prog) HX3.out eveF_firm Tryd.underlying26 size_eve (i := j - 1) hpl
              have hjm : (((j - 1 : Nat) : Int)) = (j : Int) - 1 := by omega
              have hw : IntKind.i64.wrap ((j : Int) - 1) = (j : Int) - 1 := IntWalk.i64_in _ (by omega)
              rw [hjm, ← hw] at hixs
              obtain ⟨p2, q2, s2, es, -⟩ := hrrs
              subst es
              have HY0 : Hid (∀ wx, Below w0.heap.size w0 wx → wx.cell? ⟨cs, os, none⟩ = some (.int .i64 l[j - 1].e.number)) := fun wx hb => (hws wx hb).1 0 _ rfl
              have HY3 : Hid (∀ wx, Below w0.heap.size w0 wx → wx.cell? ⟨cs, os + 2 + 1, none⟩ = some (.int .i64 l[j - 1].e.stop)) := fun wx hb => (hws wx hb).1 3 _ rfl
              have HS := Lib.hid (HS1.out hpl (by omega))
              have hj1 : 0 < j := by omega
              clear hws HS0 HS1 hj0 hjm hw
              generalize l[j - 1] = y at HY0 HY3 HS
              clear hpl
              by_cases hc1 : x.e.number ≤ y.e.number
              · have HV : Hid (eventsE b l = 9) := HE2.out 9 (by rw [HS.out, if_pos (Or.inl hc1)]) (by decide)
                have k1 : decide (x.e.number ≤ y.e.number) = true := by simpa using hc1
                clear HS HE2 HZ2 hc1
                ((refine wp_region_still_lit (by kernel_rfl) (by kernel_rfl) ?_); (change wpStill _ _ (World.drew _) _ _ _); replace M := M.drew; (repeat (first | ((with_reducible refine s_list rfl fun K hK => ?_); refine s_load ?_; (first | (refine q_cellat (HY0.out _ M.new) ?_) | (refine q_cellat (HY3.out _ M.new) ?_) | refine q_all M (by rfl) ?_ | refine q_get M (by exact rfl) ?_ | refine q_prt M (by rfl) ?_); refine ⟨rfl, hK _ ?_⟩; clear hK K) | ((with_reducible refine s_listg fun K hK => ?_); refine s_load ?_; (first | (refine q_cellat (HY0.out _ M.new) ?_) | (refine q_cellat (HY3.out _ M.new) ?_) | refine q_all M (by rfl) ?_ | refine q_get M (by exact rfl) ?_ | refine q_prt M (by rfl) ?_); refine ⟨rfl, hK _ ?_⟩; clear hK K) | (with_reducible refine s_skipT ?_) | (with_reducible refine s_skipF ?_) | (with_reducible refine s_skipU ?_) | ((first | (with_reducible refine s_list rfl fun K hK => ?_) | (with_reducible refine s_listg fun K hK => ?_)); refine s_pure ?_; go_simp; with_reducible refine hK _ ?_; clear hK K))); (with_reducible refine wpStill_nil ?_))
                go_wp2_with (first | (with_reducible (first | refine wl M ?_ | refine wlg M ?_ | (refine ws M ?_; clear M; intro w M) | (refine wsc M ?_; clear M; intro w M) | (refine wv M ?_; clear M; intro z w M) | (refine wr M ?_; clear M; intro q w M) | refine o_skipT ?_ | refine o_skipF ?_)))
                go_ret
                rw [HV.out]
                exact ⟨rfl, M.new⟩
              · have k1 : decide (x.e.number ≤ y.e.number) = false := by simpa using hc1
                by_cases hc2 : x.e.stop < y.e.stop
                · have HV : Hid (eventsE b l = 9) := HE2.out 9 (by rw [HS.out, if_pos (Or.inr hc2)]) (by decide)
                  have k2 : decide (x.e.stop < y.e.stop) = true := by simpa using hc2
                  clear HS HE2 HZ2 hc1 hc2
                  ((refine wp_region_still_lit (by kernel_rfl) (by kernel_rfl) ?_); (change wpStill _ _ (World.drew _) _ _ _); replace M := M.drew; (repeat (first | ((with_reducible refine s_list rfl fun K hK => ?_); refine s_load ?_; (first | (refine q_cellat (HY0.out _ M.new) ?_) | (refine q_cellat (HY3.out _ M.new) ?_) | refine q_all M (by rfl) ?_ | refine q_get M (by exact rfl) ?_ | refine q_prt M (by rfl) ?_); refine ⟨rfl, hK _ ?_⟩; clear hK K) | ((with_reducible refine s_listg fun K hK => ?_); refine s_load ?_; (first | (refine q_cellat (HY0.out _ M.new) ?_) | (refine q_cellat (HY3.out _ M.new) ?_) | refine q_all M (by rfl) ?_ | refine q_get M (by exact rfl) ?_ | refine q_prt M (by rfl) ?_); refine ⟨rfl, hK _ ?_⟩; clear hK K) | (with_reducible refine s_skipT ?_) | (with_reducible refine s_skipF ?_) | (with_reducible refine s_skipU ?_) | ((first | (with_reducible refine s_list rfl fun K hK => ?_) | (with_reducible refine s_listg fun K hK => ?_)); refine s_pure ?_; go_simp; with_reducible refine hK _ ?_; clear hK K))); (with_reducible refine wpStill_nil ?_))
                  go_wp2_with (first | (with_reducible (first | refine wl M ?_ | refine wlg M ?_ | (refine ws M ?_; clear M; intro w M) | (refine wsc M ?_; clear M; intro w M) | (refine wv M ?_; clear M; intro z w M) | (refine wr M ?_; clear M; intro q w M) | refine o_skipT ?_ | refine o_skipF ?_)))
                  go_ret
                  rw [HV.out]
                  exact ⟨rfl, M.new⟩
                · have HZ3 := Lib.hid (HZ2.out (by rw [HS.out, if_neg (fun h => h.elim hc1 hc2)]))
                  have k2 : decide (x.e.stop < y.e.stop) = false := by simpa using hc2
                  clear HS HE2 HZ2 hc1 hc2
                  ((refine wp_region_still_lit (by kernel_rfl) (by kernel_rfl) ?_); (change wpStill _ _ (World.drew _) _ _ _); replace M := M.drew; (repeat (first | ((with_reducible refine s_list rfl fun K hK => ?_); refine s_load ?_; (first | (refine q_cellat (HY0.out _ M.new) ?_) | (refine q_cellat (HY3.out _ M.new) ?_) | refine q_all M (by rfl) ?_ | refine q_get M (by exact rfl) ?_ | refine q_prt M (by rfl) ?_); refine ⟨rfl, hK _ ?_⟩; clear hK K) | ((with_reducible refine s_listg fun K hK => ?_); refine s_load ?_; (first | (refine q_cellat (HY0.out _ M.new) ?_) | (refine q_cellat (HY3.out _ M.new) ?_) | refine q_all M (by rfl) ?_ | refine q_get M (by exact rfl) ?_ | refine q_prt M (by rfl) ?_); refine ⟨rfl, hK _ ?_⟩; clear hK K) | (with_reducible refine s_skipT ?_) | (with_reducible refine s_skipF ?_) | (with_reducible refine s_skipU ?_) | ((first | (with_reducible refine s_list rfl fun K hK => ?_) | (with_reducible refine s_listg fun K hK => ?_)); refine s_pure ?_; go_simp; with_reducible refine hK _ ?_; clear hK K))); (with_reducible refine wpStill_nil ?_))
                  go_wp2_with (first | (with_reducible (first | refine wl M ?_ | refine wlg M ?_ | (refine ws M ?_; clear M; intro w M) | (refine wsc M ?_; clear M; intro w M) | (refine wv M ?_; clear M; intro z w M) | (refine wr M ?_; clear M; intro q w M) | refine o_skipT ?_ | refine o_skipF ?_)))
                  go_roundg (n3 - (j + 1))
                  case measure => omega
                  case rel => exact ⟨j + 1, by omega, by go_num, M.drop, HZ3⟩
          · have HV : Hid (eventsE b l = eventE b.types l[j].e l[j].vals) := eves_at HB0.out H12.out HZ.out hkl (eves_fault hkl hq) hq
            have hqb : (eventE b.types l[j].e l[j].vals != 0) = true := by simpa using hq
            generalize eventE b.types l[j].e l[j].vals = te at HEV HV hqb
            generalize l[j] = x at HR HEV
            clear HZ hq hkl
            go_wp2_with (first | (with_reducible (first | (refine wv M ?_; clear M; intro zt w M) | refine wl M ?_ | refine wlg M ?_ | (refine ws M ?_; clear M; intro w M) | (refine wsc M ?_; clear M; intro w M) | (refine wv M ?_; clear M; intro z w M) | (refine wr M ?_; clear M; intro q w M) | refine o_skipT ?_ | refine o_skipF ?_ | refine wa (HR.out _ M.new) ?_)) | (go_at_call 14; with_reducible refine (HEV.out _ M.new).mono ?_; rintro e w5 ⟨rfl, hb5⟩; replace M := M.below hb5; clear hb5))
            go_ret
            rw [HV.out]
            exact ⟨rfl, M.new⟩
        · have HV : Hid (eventsE b l = 0) := eves_none HB0.out H12.out (by have e : j = l.length := (by have := N3.out; omega); rw [← e]; exact HZ.out)
          clear HZ
          go_wp2_with (first | (with_reducible (first | refine wl M ?_ | refine wlg M ?_ | (refine ws M ?_; clear M; intro w M) | (refine wsc M ?_; clear M; intro w M) | (refine wv M ?_; clear M; intro z w M) | (refine wr M ?_; clear M; intro q w M) | refine o_skipT ?_ | refine o_skipF ?_)))
          go_ret
          rw [HV.out]
          exact ⟨rfl, M.new⟩
  · have HV : Hid (eventsE b l = bookE b) := eves_book hb0
    have hqb : (bookE b != 0) = true := by simpa using hb0
    generalize bookE b = q at HC HV hqb
    clear hb0 X1 X2 X3 hts hrs hes hls hg hF E HT
    go_enter Tryd.func6, Tryd.ntmps6
    go_wp2_with (first | (with_reducible (first | (refine wb (L := []) M ?_; clear M; intro za w1 M) | refine wl M ?_ | refine wlg M ?_ | (refine ws M ?_; clear M; intro w M) | (refine wsc M ?_; clear M; intro w M) | (refine wv M ?_; clear M; intro z w M) | (refine wr M ?_; clear M; intro q w M) | refine o_skipT ?_ | refine o_skipF ?_)) | (go_at_call 13; with_reducible refine (HC.out _ M.new).mono ?_; rintro e w5 ⟨rfl, hb5⟩; replace M := M.below hb5; clear hb5))
    go_ret
    rw [HV.out]
    exact ⟨rfl, M.new⟩
set_option maxRecDepth 8000 in
set_option maxHeartbeats 16000000 in
theorem eventsFault_any (hg : g < w0.heap.size) (E : Env F w0) (hF : ∀ b, F b → b < w0.heap.size) (b : Bok) (a1 : Option Addr) (n1 c1 : Nat) (a2 : Option Addr) (n2 c2 : Nat) (X1 : SlF F w0 2 typF a1 n1 c1 b.types) (X2 : SlF F w0 7 rulF a2 n2 c2 b.rules) (hts : ∀ t ∈ b.types, typOk t) (hrs : ∀ x ∈ b.rules, RulFit x) (hes : ∀ x ∈ b.rules, x.etype.size ≤ maxLen) (a3 : Option Addr) (n3 c3 : Nat) (l : List Eve) (X3 : SlF F3 w0 5 eveF a3 n3 c3 l) (hls : ∀ x ∈ l, eveOk x) : Calls Tryd.prog 7 #[.agg #[.slice a1 n1 c1, .slice a2 n2 c2], .slice a3 n3 c3] w0 fun e w' => e = .returned (.int .i64 (eventsE b l)) ∧ Below w0.heap.size w0 w' := by
  have M := Mem.begin hg ⟨0, 0⟩
  have N3 := Lib.hid X3.len
  have hle3 := X3.le
  have HC : Hid (∀ wx, Below w0.heap.size w0 wx → Calls Tryd.prog 15 #[.agg #[.slice a1 n1 c1, .slice a2 n2 c2]] wx fun e w' => e = .returned (.int .i64 (bookE b)) ∧ Below wx.heap.size wx w') := fun wx hb => bookFault_any (E.below hb).lt b a1 n1 c1 a2 n2 c2 (X1.below typF_firm hb) (X2.below rulF_firm hb) hts (fun x hx => (hrs x hx).ok)
  have HT := Lib.hid (fun wx (hb : Below w0.heap.size w0 wx) => typ_R (X1.below typF_firm hb) hts)
  by_cases hb0 : bookE b = 0
  · rw [hb0] at HC
    by_cases h120 : 120 < n3
    · have HV : Hid (eventsE b l = 1) := eves_size hb0 (by have := N3.out; omega)
      have d1 : decide ((120 : Int) < n3) = true := by simp; omega
      clear hb0 h120 X1 X2 X3 hts hrs hes hls hg hF E HT
      go_enter Tryd.func7, Tryd.ntmps7
      go_wp2_with (first | (with_reducible (first | (refine wb (L := []) M ?_; clear M; intro za w1 M) | refine wl M ?_ | refine wlg M ?_ | (refine ws M ?_; clear M; intro w M) | (refine wsc M ?_; clear M; intro w M) | (refine wv M ?_; clear M; intro z w M) | (refine wr M ?_; clear M; intro q w M) | refine o_skipT ?_ | refine o_skipF ?_)) | (go_at_call 15; with_reducible refine (HC.out _ M.new).mono ?_; rintro e w5 ⟨rfl, hb5⟩; replace M := M.below hb5; clear hb5))
      go_loopg [5, 6] 1 (fun f v i wr => f = 1 ∧ v = .int .i64 1 ∧ i = .int .i64 0 ∧ Mem (StaysB g w0) g w0 wr ⟨0, 0⟩ (own za [.slice a1 n1 c1, .slice a2 n2 c2] 25 :: []))
      case atStart => exact ⟨rfl, rfl, rfl, M⟩
      case round =>
        clear M
        obtain ⟨-, rfl, rfl, M⟩ := hrel
        by_cases hlt : 0 < n3
        · go_wp2_with (first | (with_reducible (first | refine wl M ?_ | refine wlg M ?_ | (refine ws M ?_; clear M; intro w M) | (refine wsc M ?_; clear M; intro w M) | (refine wv M ?_; clear M; intro z w M) | (refine wr M ?_; clear M; intro q w M) | refine o_skipT ?_ | refine o_skipF ?_)))
          go_ret
          rw [HV.out]
          exact ⟨rfl, M.new⟩
        · go_wp2_with (first | (with_reducible (first | refine wl M ?_ | refine wlg M ?_ | (refine ws M ?_; clear M; intro w M) | (refine wsc M ?_; clear M; intro w M) | (refine wv M ?_; clear M; intro z w M) | (refine wr M ?_; clear M; intro q w M) | refine o_skipT ?_ | refine o_skipF ?_)))
          go_ret
          rw [HV.out]
          exact ⟨rfl, M.new⟩
    · have d1 : decide ((120 : Int) < n3) = false := by simp; omega
      have HB0 := Lib.hid hb0
      have H12 : Hid (¬ 120 < l.length) := by have := N3.out; show ¬ _; omega
      have HLS := Lib.hid hls
      have HX3 := Lib.hid X3
      clear hb0 X1 X2 X3 hts hrs hes hls hg hF E
      go_enter Tryd.func7, Tryd.ntmps7
      go_wp2_with (first | (with_reducible (first | (refine wb (L := []) M ?_; clear M; intro za w1 M) | refine wl M ?_ | refine wlg M ?_ | (refine ws M ?_; clear M; intro w M) | (refine wsc M ?_; clear M; intro w M) | (refine wv M ?_; clear M; intro z w M) | (refine wr M ?_; clear M; intro q w M) | refine o_skipT ?_ | refine o_skipF ?_)) | (go_at_call 15; with_reducible refine (HC.out _ M.new).mono ?_; rintro e w5 ⟨rfl, hb5⟩; replace M := M.below hb5; clear hb5))
      go_loopg [5, 6] (n3 + 1) (fun f v i wr => ∃ (j : Nat) (ev : Int), j + f = n3 + 1 ∧ j ≤ n3 ∧ v = .int .i64 ev ∧ i = .int .i64 j ∧ Mem (StaysB g w0) g w0 wr ⟨0, 0⟩ (own za [.slice a1 n1 c1, .slice a2 n2 c2] 25 :: []) ∧ Hid ((ev = 0 → AllZ (evesE b.types l) j) ∧ (ev ≠ 0 → eventsE b l = ev)))
      case atStart => exact ⟨0, 0, by omega, by omega, rfl, rfl, M, fun _ => allZ_zero _, fun h => absurd rfl h⟩
      case round =>
        clear M
        obtain ⟨j, ev, hj, hj3, rfl, rfl, M, HZE⟩ := hrel
        by_cases hev : ev = 0
        · subst hev
          have HZ := Lib.hid (HZE.out.1 rfl)
          clear HZE
          by_cases hlt : j < n3
          · have hkl : j < l.length := by have := N3.out; omega
            obtain ⟨ct, ot, rowt, hixt, -, hrrt, hwt⟩ := SlF.rowAt (P := Tryd.prog) HX3.out eveF_firm Tryd.underlying26 size_eve (i := j) hkl
            obtain ⟨p1, q1, s1, et, ut⟩ := hrrt
            subst et
            have HR := Lib.hid (fun wx hb => (hwt wx hb).1)
            have HX0 : Hid (∀ wx, Below w0.heap.size w0 wx → wx.cell? ⟨ct, ot, none⟩ = some (.int .i64 l[j].e.number)) := fun wx hb => (hwt wx hb).1 0 _ rfl
            have HX3c : Hid (∀ wx, Below w0.heap.size w0 wx → wx.cell? ⟨ct, ot + 2 + 1, none⟩ = some (.int .i64 l[j].e.stop)) := fun wx hb => (hwt wx hb).1 3 _ rfl
            have hto := HLS.out _ (List.getElem_mem hkl)
            have HEV : Hid (∀ wx, Below w0.heap.size w0 wx → Calls Tryd.prog 16 #[.slice a1 n1 c1, .agg #[.int .i64 l[j].e.number, .int .i64 l[j].e.type, .int .i64 l[j].e.start, .int .i64 l[j].e.stop, .slice p1 q1 s1]] wx fun e w' => e = .returned (.int .i64 (eventE b.types l[j].e l[j].vals)) ∧ Below wx.heap.size wx w') := fun wx hb => eventFault_any a1 n1 c1 b.types l[j].e p1 q1 s1 l[j].vals wx (HT.out wx hb) (val_R (ut.below (plainF_firm _) hb) hto)
            clear hwt hto ut
            by_cases hq : eventE b.types l[j].e l[j].vals = 0
            · rw [hq] at HEV
              have HS0 : Hid (j = 0 → AllZ (evesE b.types l) (j + 1)) := fun h => allZ_succ HZ.out (by subst h; rw [eves_zero hkl]; exact hq)
              have HS1 : Hid (∀ hp : j - 1 < l.length, 0 < j → evesE b.types l j = if l[j].e.number ≤ l[j - 1].e.number ∨ l[j].e.stop < l[j - 1].e.stop then 9 else 0) := fun hp h0 => by rw [eves_pre hkl hp h0, if_neg (by rw [hq]; simp)]
              have HZ2 : Hid (evesE b.types l j = 0 → AllZ (evesE b.types l) (j + 1)) := fun h => allZ_succ HZ.out h
              have HE2 : Hid (∀ e, evesE b.types l j = e → e ≠ 0 → eventsE b l = e) := fun e he hn => eves_at HB0.out H12.out HZ.out hkl he hn
              have HKL := Lib.hid hkl
              generalize l[j] = x at HR HEV HS1 HX0 HX3c
              clear HZ hq hkl
              go_wp2_with (first | (with_reducible (first | refine wl M ?_ | refine wlg M ?_ | (refine ws M ?_; clear M; intro w M) | (refine wsc M ?_; clear M; intro w M) | (refine wv M ?_; clear M; intro z w M) | (refine wr M ?_; clear M; intro q w M) | refine o_skipT ?_ | refine o_skipF ?_)))
              ((refine wp_region_still_tail 6 (by kernel_rfl) (by kernel_rfl) ?_); (simp only [List.take_succ_cons, List.take_zero, List.drop_succ_cons, List.drop_zero]); (change wpStill _ _ (World.drew _) (fun a' => wpList _ _ _ _ a' (World.drew _)) _ _); replace M := M.drew; generalize World.drew _ = wd at M ⊢; (repeat (first | ((with_reducible refine s_list rfl fun K hK => ?_); refine s_load ?_; (first | (refine q_at (HR.out _ M.new) (by rfl) ?_) | refine q_all M (by rfl) ?_ | refine q_get M (by exact rfl) ?_ | refine q_prt M (by rfl) ?_); refine ⟨rfl, hK _ ?_⟩; clear hK K) | ((with_reducible refine s_listg fun K hK => ?_); refine s_load ?_; (first | (refine q_at (HR.out _ M.new) (by rfl) ?_) | refine q_all M (by rfl) ?_ | refine q_get M (by exact rfl) ?_ | refine q_prt M (by rfl) ?_); refine ⟨rfl, hK _ ?_⟩; clear hK K) | (with_reducible refine s_skipT ?_) | (with_reducible refine s_skipF ?_) | ((first | (with_reducible refine s_list rfl fun K hK => ?_) | (with_reducible refine s_listg fun K hK => ?_)); refine s_pure ?_; go_simp; refine hK _ ?_; clear hK K))); (refine wpStill_nil ?_))
              go_wp2_with (first | (go_at_call 16; with_reducible refine (HEV.out _ M.new).mono ?_; rintro e w5 ⟨rfl, hb5⟩; replace M := M.below hb5; clear hb5) | (with_reducible (first | refine wl M ?_ | refine wlg M ?_ | (refine ws M ?_; clear M; intro w M) | (refine wsc M ?_; clear M; intro w M) | (refine wv M ?_; clear M; intro z w M) | (refine wr M ?_; clear M; intro q w M) | refine o_skipT ?_ | refine o_skipF ?_)))
              by_cases hj0 : j = 0
              · have HZ3 := Lib.hid (HS0.out hj0)
                have dk0 : decide (0 < j) = false := by simp; omega
                clear HS0 HS1 HZ2 HE2 hj0
                ((refine wp_region_still_lit (by kernel_rfl) (by kernel_rfl) ?_); (change wpStill _ _ (World.drew _) _ _ _); replace M := M.drew; (repeat (first | ((with_reducible refine s_list rfl fun K hK => ?_); refine s_load ?_; (first | refine q_all M (by rfl) ?_ | refine q_get M (by exact rfl) ?_ | refine q_prt M (by rfl) ?_); refine ⟨rfl, hK _ ?_⟩; clear hK K) | ((with_reducible refine s_listg fun K hK => ?_); refine s_load ?_; (first | refine q_all M (by rfl) ?_ | refine q_get M (by exact rfl) ?_ | refine q_prt M (by rfl) ?_); refine ⟨rfl, hK _ ?_⟩; clear hK K) | (with_reducible refine s_skipT ?_) | (with_reducible refine s_skipF ?_) | (with_reducible refine s_skipU ?_) | ((first | (with_reducible refine s_list rfl fun K hK => ?_) | (with_reducible refine s_listg fun K hK => ?_)); refine s_pure ?_; go_simp; with_reducible refine hK _ ?_; clear hK K))); (with_reducible refine wpStill_nil ?_))
                go_wp2_with (first | (with_reducible (first | refine wl M ?_ | refine wlg M ?_ | (refine ws M ?_; clear M; intro w M) | (refine wsc M ?_; clear M; intro w M) | (refine wv M ?_; clear M; intro z w M) | (refine wr M ?_; clear M; intro q w M) | refine o_skipT ?_ | refine o_skipF ?_)))
                go_roundg (n3 + 1 - (j + 1))
                case measure => omega
                case rel => exact ⟨j + 1, 0, by omega, by omega, rfl, by go_num, M, fun _ => HZ3.out, fun h => absurd rfl h⟩
              · have hpl : j - 1 < l.length := by have := HKL.out; omega
                obtain ⟨cs, os, rows, hixs, -, hrrs, hws⟩ := SlF.rowAt (P := Tryd.prog) HX3.out eveF_firm Tryd.underlying26 size_eve (i := j - 1) hpl
                have hjm : (((j - 1 : Nat) : Int)) = (j : Int) - 1 := by omega
                have hw : IntKind.i64.wrap ((j : Int) - 1) = (j : Int) - 1 := IntWalk.i64_in _ (by omega)
                rw [hjm, ← hw] at hixs
                obtain ⟨p2, q2, s2, es, -⟩ := hrrs
                subst es
                have HY0 : Hid (∀ wx, Below w0.heap.size w0 wx → wx.cell? ⟨cs, os, none⟩ = some (.int .i64 l[j - 1].e.number)) := fun wx hb => (hws wx hb).1 0 _ rfl
                have HY3 : Hid (∀ wx, Below w0.heap.size w0 wx → wx.cell? ⟨cs, os + 2 + 1, none⟩ = some (.int .i64 l[j - 1].e.stop)) := fun wx hb => (hws wx hb).1 3 _ rfl
                have HS := Lib.hid (HS1.out hpl (by omega))
                have hj1 : 0 < j := by omega
                clear hws HS0 HS1 hj0 hjm hw
                generalize l[j - 1] = y at HY0 HY3 HS
                clear hpl
                by_cases hc1 : x.e.number ≤ y.e.number
                · have HV : Hid (eventsE b l = 9) := HE2.out 9 (by rw [HS.out, if_pos (Or.inl hc1)]) (by decide)
                  have k1 : decide (x.e.number ≤ y.e.number) = true := by simpa using hc1
                  clear HS HE2 HZ2 hc1
                  ((refine wp_region_still_lit (by kernel_rfl) (by kernel_rfl) ?_); (change wpStill _ _ (World.drew _) _ _ _); replace M := M.drew; (repeat (first | ((with_reducible refine s_list rfl fun K hK => ?_); refine s_load ?_; (first | (refine q_cellat (HX0.out _ M.new) ?_) | (refine q_cellat (HX3c.out _ M.new) ?_) | (refine q_cellat (HY0.out _ M.new) ?_) | (refine q_cellat (HY3.out _ M.new) ?_) | refine q_all M (by rfl) ?_ | refine q_get M (by exact rfl) ?_ | refine q_prt M (by rfl) ?_); refine ⟨rfl, hK _ ?_⟩; clear hK K) | ((with_reducible refine s_listg fun K hK => ?_); refine s_load ?_; (first | (refine q_cellat (HX0.out _ M.new) ?_) | (refine q_cellat (HX3c.out _ M.new) ?_) | (refine q_cellat (HY0.out _ M.new) ?_) | (refine q_cellat (HY3.out _ M.new) ?_) | refine q_all M (by rfl) ?_ | refine q_get M (by exact rfl) ?_ | refine q_prt M (by rfl) ?_); refine ⟨rfl, hK _ ?_⟩; clear hK K) | (with_reducible refine s_skipT ?_) | (with_reducible refine s_skipF ?_) | (with_reducible refine s_skipU ?_) | ((first | (with_reducible refine s_list rfl fun K hK => ?_) | (with_reducible refine s_listg fun K hK => ?_)); refine s_pure ?_; go_simp; with_reducible refine hK _ ?_; clear hK K))); (with_reducible refine wpStill_nil ?_))
                  go_wp2_with (first | (with_reducible (first | refine wl M ?_ | refine wlg M ?_ | (refine ws M ?_; clear M; intro w M) | (refine wsc M ?_; clear M; intro w M) | (refine wv M ?_; clear M; intro z w M) | (refine wr M ?_; clear M; intro q w M) | refine o_skipT ?_ | refine o_skipF ?_)))
                  go_roundg (n3 + 1 - (j + 1))
                  case measure => omega
                  case rel => exact ⟨j + 1, 9, by omega, by omega, rfl, by go_num, M, fun h => absurd h (by first | decide | exact hq), fun _ => HV.out⟩
                · have k1 : decide (x.e.number ≤ y.e.number) = false := by simpa using hc1
                  by_cases hc2 : x.e.stop < y.e.stop
                  · have HV : Hid (eventsE b l = 9) := HE2.out 9 (by rw [HS.out, if_pos (Or.inr hc2)]) (by decide)
                    have k2 : decide (x.e.stop < y.e.stop) = true := by simpa using hc2
                    clear HS HE2 HZ2 hc1 hc2
                    ((refine wp_region_still_lit (by kernel_rfl) (by kernel_rfl) ?_); (change wpStill _ _ (World.drew _) _ _ _); replace M := M.drew; (repeat (first | ((with_reducible refine s_list rfl fun K hK => ?_); refine s_load ?_; (first | (refine q_cellat (HX0.out _ M.new) ?_) | (refine q_cellat (HX3c.out _ M.new) ?_) | (refine q_cellat (HY0.out _ M.new) ?_) | (refine q_cellat (HY3.out _ M.new) ?_) | refine q_all M (by rfl) ?_ | refine q_get M (by exact rfl) ?_ | refine q_prt M (by rfl) ?_); refine ⟨rfl, hK _ ?_⟩; clear hK K) | ((with_reducible refine s_listg fun K hK => ?_); refine s_load ?_; (first | (refine q_cellat (HX0.out _ M.new) ?_) | (refine q_cellat (HX3c.out _ M.new) ?_) | (refine q_cellat (HY0.out _ M.new) ?_) | (refine q_cellat (HY3.out _ M.new) ?_) | refine q_all M (by rfl) ?_ | refine q_get M (by exact rfl) ?_ | refine q_prt M (by rfl) ?_); refine ⟨rfl, hK _ ?_⟩; clear hK K) | (with_reducible refine s_skipT ?_) | (with_reducible refine s_skipF ?_) | (with_reducible refine s_skipU ?_) | ((first | (with_reducible refine s_list rfl fun K hK => ?_) | (with_reducible refine s_listg fun K hK => ?_)); refine s_pure ?_; go_simp; with_reducible refine hK _ ?_; clear hK K))); (with_reducible refine wpStill_nil ?_))
                    go_wp2_with (first | (with_reducible (first | refine wl M ?_ | refine wlg M ?_ | (refine ws M ?_; clear M; intro w M) | (refine wsc M ?_; clear M; intro w M) | (refine wv M ?_; clear M; intro z w M) | (refine wr M ?_; clear M; intro q w M) | refine o_skipT ?_ | refine o_skipF ?_)))
                    go_roundg (n3 + 1 - (j + 1))
                    case measure => omega
                    case rel => exact ⟨j + 1, 9, by omega, by omega, rfl, by go_num, M, fun h => absurd h (by first | decide | exact hq), fun _ => HV.out⟩
                  · have HZ3 := Lib.hid (HZ2.out (by rw [HS.out, if_neg (fun h => h.elim hc1 hc2)]))
                    have k2 : decide (x.e.stop < y.e.stop) = false := by simpa using hc2
                    clear HS HE2 HZ2 hc1 hc2
                    ((refine wp_region_still_lit (by kernel_rfl) (by kernel_rfl) ?_); (change wpStill _ _ (World.drew _) _ _ _); replace M := M.drew; (repeat (first | ((with_reducible refine s_list rfl fun K hK => ?_); refine s_load ?_; (first | (refine q_cellat (HX0.out _ M.new) ?_) | (refine q_cellat (HX3c.out _ M.new) ?_) | (refine q_cellat (HY0.out _ M.new) ?_) | (refine q_cellat (HY3.out _ M.new) ?_) | refine q_all M (by rfl) ?_ | refine q_get M (by exact rfl) ?_ | refine q_prt M (by rfl) ?_); refine ⟨rfl, hK _ ?_⟩; clear hK K) | ((with_reducible refine s_listg fun K hK => ?_); refine s_load ?_; (first | (refine q_cellat (HX0.out _ M.new) ?_) | (refine q_cellat (HX3c.out _ M.new) ?_) | (refine q_cellat (HY0.out _ M.new) ?_) | (refine q_cellat (HY3.out _ M.new) ?_) | refine q_all M (by rfl) ?_ | refine q_get M (by exact rfl) ?_ | refine q_prt M (by rfl) ?_); refine ⟨rfl, hK _ ?_⟩; clear hK K) | (with_reducible refine s_skipT ?_) | (with_reducible refine s_skipF ?_) | (with_reducible refine s_skipU ?_) | ((first | (with_reducible refine s_list rfl fun K hK => ?_) | (with_reducible refine s_listg fun K hK => ?_)); refine s_pure ?_; go_simp; with_reducible refine hK _ ?_; clear hK K))); (with_reducible refine wpStill_nil ?_))
                    go_wp2_with (first | (with_reducible (first | refine wl M ?_ | refine wlg M ?_ | (refine ws M ?_; clear M; intro w M) | (refine wsc M ?_; clear M; intro w M) | (refine wv M ?_; clear M; intro z w M) | (refine wr M ?_; clear M; intro q w M) | refine o_skipT ?_ | refine o_skipF ?_)))
                    go_roundg (n3 + 1 - (j + 1))
                    case measure => omega
                    case rel => exact ⟨j + 1, 0, by omega, by omega, rfl, by go_num, M, fun _ => HZ3.out, fun h => absurd rfl h⟩
            · have HV : Hid (eventsE b l = eventE b.types l[j].e l[j].vals) := eves_at HB0.out H12.out HZ.out hkl (eves_fault hkl hq) hq
              have hqb : (eventE b.types l[j].e l[j].vals == 0) = false := by simpa using hq
              generalize eventE b.types l[j].e l[j].vals = te at HEV HV hqb hq
              generalize l[j] = x at HR HEV HX0 HX3c
              clear HZ hkl
              go_wp2_with (first | (with_reducible (first | refine wl M ?_ | refine wlg M ?_ | (refine ws M ?_; clear M; intro w M) | (refine wsc M ?_; clear M; intro w M) | (refine wv M ?_; clear M; intro z w M) | (refine wr M ?_; clear M; intro q w M) | refine o_skipT ?_ | refine o_skipF ?_)))
              ((refine wp_region_still_tail 6 (by kernel_rfl) (by kernel_rfl) ?_); (simp only [List.take_succ_cons, List.take_zero, List.drop_succ_cons, List.drop_zero]); (change wpStill _ _ (World.drew _) (fun a' => wpList _ _ _ _ a' (World.drew _)) _ _); replace M := M.drew; generalize World.drew _ = wd at M ⊢; (repeat (first | ((with_reducible refine s_list rfl fun K hK => ?_); refine s_load ?_; (first | (refine q_at (HR.out _ M.new) (by rfl) ?_) | refine q_all M (by rfl) ?_ | refine q_get M (by exact rfl) ?_ | refine q_prt M (by rfl) ?_); refine ⟨rfl, hK _ ?_⟩; clear hK K) | ((with_reducible refine s_listg fun K hK => ?_); refine s_load ?_; (first | (refine q_at (HR.out _ M.new) (by rfl) ?_) | refine q_all M (by rfl) ?_ | refine q_get M (by exact rfl) ?_ | refine q_prt M (by rfl) ?_); refine ⟨rfl, hK _ ?_⟩; clear hK K) | (with_reducible refine s_skipT ?_) | (with_reducible refine s_skipF ?_) | ((first | (with_reducible refine s_list rfl fun K hK => ?_) | (with_reducible refine s_listg fun K hK => ?_)); refine s_pure ?_; go_simp; refine hK _ ?_; clear hK K))); (refine wpStill_nil ?_))
              go_wp2_with (first | (go_at_call 16; with_reducible refine (HEV.out _ M.new).mono ?_; rintro e w5 ⟨rfl, hb5⟩; replace M := M.below hb5; clear hb5) | (with_reducible (first | refine wl M ?_ | refine wlg M ?_ | (refine ws M ?_; clear M; intro w M) | (refine wsc M ?_; clear M; intro w M) | (refine wv M ?_; clear M; intro z w M) | (refine wr M ?_; clear M; intro q w M) | refine o_skipT ?_ | refine o_skipF ?_)))
              ((refine wp_region_still_lit (by kernel_rfl) (by kernel_rfl) ?_); (change wpStill _ _ (World.drew _) _ _ _); replace M := M.drew; (repeat (first | ((with_reducible refine s_list rfl fun K hK => ?_); refine s_load ?_; (first | refine q_all M (by rfl) ?_ | refine q_get M (by exact rfl) ?_ | refine q_prt M (by rfl) ?_); refine ⟨rfl, hK _ ?_⟩; clear hK K) | ((with_reducible refine s_listg fun K hK => ?_); refine s_load ?_; (first | refine q_all M (by rfl) ?_ | refine q_get M (by exact rfl) ?_ | refine q_prt M (by rfl) ?_); refine ⟨rfl, hK _ ?_⟩; clear hK K) | (with_reducible refine s_skipT ?_) | (with_reducible refine s_skipF ?_) | (with_reducible refine s_skipU ?_) | ((first | (with_reducible refine s_list rfl fun K hK => ?_) | (with_reducible refine s_listg fun K hK => ?_)); refine s_pure ?_; go_simp; with_reducible refine hK _ ?_; clear hK K))); (with_reducible refine wpStill_nil ?_))
              go_wp2_with (first | (with_reducible (first | refine wl M ?_ | refine wlg M ?_ | (refine ws M ?_; clear M; intro w M) | (refine wsc M ?_; clear M; intro w M) | (refine wv M ?_; clear M; intro z w M) | (refine wr M ?_; clear M; intro q w M) | refine o_skipT ?_ | refine o_skipF ?_)))
              go_roundg (n3 + 1 - (j + 1))
              case measure => omega
              case rel => exact ⟨j + 1, te, by omega, by omega, rfl, by go_num, M, fun h => absurd h (by first | decide | exact hq), fun _ => HV.out⟩
          · have HV : Hid (eventsE b l = 0) := eves_none HB0.out H12.out (by have e : j = l.length := (by have := N3.out; omega); rw [← e]; exact HZ.out)
            clear HZ
            go_wp2_with (first | (with_reducible (first | refine wl M ?_ | refine wlg M ?_ | (refine ws M ?_; clear M; intro w M) | (refine wsc M ?_; clear M; intro w M) | (refine wv M ?_; clear M; intro z w M) | (refine wr M ?_; clear M; intro q w M) | refine o_skipT ?_ | refine o_skipF ?_)))
            go_ret
            rw [HV.out]
            exact ⟨rfl, M.new⟩
        · have HV := Lib.hid (HZE.out.2 hev)
          have hevb : (ev == 0) = false := by simpa using hev
          clear HZE hev
          by_cases hlt : j < n3
          · go_wp2_with (first | (with_reducible (first | refine wl M ?_ | refine wlg M ?_ | (refine ws M ?_; clear M; intro w M) | (refine wsc M ?_; clear M; intro w M) | (refine wv M ?_; clear M; intro z w M) | (refine wr M ?_; clear M; intro q w M) | refine o_skipT ?_ | refine o_skipF ?_)))
            go_ret
            rw [HV.out]
            exact ⟨rfl, M.new⟩
          · go_wp2_with (first | (with_reducible (first | refine wl M ?_ | refine wlg M ?_ | (refine ws M ?_; clear M; intro w M) | (refine wsc M ?_; clear M; intro w M) | (refine wv M ?_; clear M; intro z w M) | (refine wr M ?_; clear M; intro q w M) | refine o_skipT ?_ | refine o_skipF ?_)))
            go_ret
            rw [HV.out]
            exact ⟨rfl, M.new⟩
  · have HV : Hid (eventsE b l = bookE b) := eves_book hb0
    have hqb : (bookE b == 0) = false := by simpa using hb0
    generalize bookE b = q at HC HV hqb
    clear hb0 X1 X2 X3 hts hrs hes hls hg hF E HT
    go_enter Tryd.func7, Tryd.ntmps7
    go_wp2_with (first | (with_reducible (first | (refine wb (L := []) M ?_; clear M; intro za w1 M) | refine wl M ?_ | refine wlg M ?_ | (refine ws M ?_; clear M; intro w M) | (refine wsc M ?_; clear M; intro w M) | (refine wv M ?_; clear M; intro z w M) | (refine wr M ?_; clear M; intro q w M) | refine o_skipT ?_ | refine o_skipF ?_)) | (go_at_call 15; with_reducible refine (HC.out _ M.new).mono ?_; rintro e w5 ⟨rfl, hb5⟩; replace M := M.below hb5; clear hb5))
    go_loopg [5, 6] 1 (fun f v i wr => f = 1 ∧ v = .int .i64 q ∧ i = .int .i64 0 ∧ Mem (StaysB g w0) g w0 wr ⟨0, 0⟩ (own za [.slice a1 n1 c1, .slice a2 n2 c2] 25 :: []))
    case atStart => exact ⟨rfl, rfl, rfl, M⟩
    case round =>
      clear M
      obtain ⟨-, rfl, rfl, M⟩ := hrel
      by_cases hlt : 0 < n3
      · go_wp2_with (first | (with_reducible (first | refine wl M ?_ | refine wlg M ?_ | (refine ws M ?_; clear M; intro w M) | (refine wsc M ?_; clear M; intro w M) | (refine wv M ?_; clear M; intro z w M) | (refine wr M ?_; clear M; intro q w M) | refine o_skipT ?_ | refine o_skipF ?_)))
        go_ret
        rw [HV.out]
        exact ⟨rfl, M.new⟩
      · go_wp2_with (first | (with_reducible (first | refine wl M ?_ | refine wlg M ?_ | (refine ws M ?_; clear M; intro w M) | (refine wsc M ?_; clear M; intro w M) | (refine wv M ?_; clear M; intro z w M) | (refine wr M ?_; clear M; intro q w M) | refine o_skipT ?_ | refine o_skipF ?_)))
        go_ret
        rw [HV.out]
        exact ⟨rfl, M.new⟩
end
end Go.Proofs.YtnbnmcadoekcfaaDoor
/-
  The walk of the law JoinEvents: the program's answer and the reference's are the same.
-/
namespace Go.Proofs.YtnbnmcadoekcfaaDoor
open Go.ChangeShapes Go.WideShapes Go.ChangeAt Go.RowKit Go.Joins Go.Deep
set_option linter.unusedVariables false
set_option linter.unusedSimpArgs false

theorem info_eve : (Tryd.prog.info? 39).map (fun i => (i.zero, i.size, i.bytes)) = some (some (.agg #[.int .i64 0, .int .i64 0, .int .i64 0, .int .i64 0, .slice none 0 0]), 5, 56) := by kernel_rfl
theorem eveF_one : ∀ F w row x, eveF F w row x → ∀ u ∈ row, u.oneCell' = true := fun F w row x ⟨ao, n, cap, h, _⟩ u hu => by
  subst h
  exact ones_of (vs := [.int .i64 x.e.number, .int .i64 x.e.type, .int .i64 x.e.start, .int .i64 x.e.stop, .slice ao n cap]) rfl u hu
theorem eveF_wide {F G : Nat → Prop} {w : World} {row : List Value} {x : Eve} (h : ∀ b, F b → b < w.heap.size → G b) (hx : eveF F w row x) : eveF G w row x := eveF_firm _ _ _ _ _ _ (Same.wide h) hx
/-- A list of events, copied by an append to nil. -/
theorem copy_eves {F : Nat → Prop} {ao : Option Addr} {n cap : Nat} {l : List Eve} {w0 wx : World} (hL : SlF F w0 5 eveF ao n cap l) (hn : n * 56 ≤ 140737488355328) (hb : Below w0.heap.size w0 wx) :
    ∃ ao' cap' w', (Builtin.append_ #[26, 26] 26 #[.slice none 0 0, .slice ao n cap]).run Tryd.prog wx = .ok (.slice ao' n cap') w' ∧ SlF (under w'.heap.size) w' 5 eveF ao' n cap' l ∧ Below wx.heap.size wx w' := by
  obtain ⟨i0, hi, hz0, hz1, hz2⟩ := info_parts info_eve
  obtain ⟨ao', cap', w', hrun, hS, hb'⟩ := run_copy_to (P := Tryd.prog) (G := fun _ => True) Tryd.underlying26 hi hz0 hz1 hz2 rfl (by omega) eveF_firm eveF_one (hL.below eveF_firm hb) hn (Nat.le_refl _) none (World.ownsRow_nil _ _ _ _) (fun b h => trivial) (fun row x h => eveF_wide (fun b _ _ => ⟨trivial, by simp [Value.ownBlock]⟩) h)
  exact ⟨ao', cap', w', hrun, hS.wide eveF_firm (fun b _ h => h), hb'⟩
section
set_option maxRecDepth 8000 in
set_option maxHeartbeats 4000000 in
theorem joinEvents_walk (b : Bok) (a1 : Option Addr) (n1 c1 : Nat) (a2 : Option Addr) (n2 c2 : Nat) (a3 : Option Addr) (n3 c3 : Nat) (l : List Eve) (w0 : World) (X1 : SlF (under w0.heap.size) w0 2 typF a1 n1 c1 b.types) (X2 : SlF (under w0.heap.size) w0 7 rulF a2 n2 c2 b.rules) (hts : ∀ t ∈ b.types, typOk t) (hrs : ∀ x ∈ b.rules, RulFit x) (hes : ∀ x ∈ b.rules, x.etype.size ≤ maxLen)
    (X3 : SlF (under w0.heap.size) w0 5 eveF a3 n3 c3 l) (hls : ∀ x ∈ l, eveOk x) (hn : n3 * 56 ≤ 140737488355328)
    (hK : SlF (under w0.heap.size) w0 1 wordF (some ⟨0, 0, none⟩) 17 17 keptL) (hR : SlF (under w0.heap.size) w0 1 wordF (some ⟨1, 0, none⟩) 14 14 relsL) :
    Calls Tryd.prog 3 #[.agg #[.slice a1 n1 c1, .slice a2 n2 c2], .slice a3 n3 c3] w0 fun e w' => e = .returned (.bool true) ∧ Below w0.heap.size w0 w' := by
  have E : Env (under w0.heap.size) w0 := ⟨hK, hR⟩
  have M := Mem.begin E.lt ⟨0, 0⟩
  have HCP := Lib.hid (fun wx (hb : Below w0.heap.size w0 wx) => copy_eves X3 hn hb)
  have HC : Hid (∀ wx a' c', Below w0.heap.size w0 wx → SlF (under wx.heap.size) wx 5 eveF a' n3 c' l → Calls Tryd.prog 6 #[.agg #[.slice a1 n1 c1, .slice a2 n2 c2], .slice a' n3 c'] wx fun e w' => e = .returned (.int .i64 (eventsE b l)) ∧ Below wx.heap.size wx w') := fun wx a' c' hb hS =>
    checkEvents_any (E.below hb).lt (E.below hb) (fun k hk => Nat.lt_of_lt_of_le hk hb.size) b a1 n1 c1 a2 n2 c2 (X1.below typF_firm hb) (X2.below rulF_firm hb) hts hrs hes a' n3 c' l hS hls
  have HB : Hid (∀ wx, Below w0.heap.size w0 wx → Calls Tryd.prog 7 #[.agg #[.slice a1 n1 c1, .slice a2 n2 c2], .slice a3 n3 c3] wx fun e w' => e = .returned (.int .i64 (eventsE b l)) ∧ Below wx.heap.size wx w') := fun wx hb =>
    eventsFault_any (E.below hb).lt (E.below hb) (fun k hk => Nat.lt_of_lt_of_le hk hb.size) b a1 n1 c1 a2 n2 c2 (X1.below typF_firm hb) (X2.below rulF_firm hb) hts hrs hes a3 n3 c3 l (X3.below eveF_firm hb) hls
  generalize eventsE b l = v at HC HB
  clear X1 X2 X3 hts hrs hes hls hn hK hR E
  go_enter Tryd.func3, Tryd.ntmps3
  go_wp2_with (first | (with_reducible (first | (refine wb (L := []) M ?_; clear M; intro za w1 M) | refine wl M ?_ | refine wlg M ?_ | (refine ws M ?_; clear M; intro w M) | (refine wsc M ?_; clear M; intro w M) | (refine wv M ?_; clear M; intro z w M) | (refine wr M ?_; clear M; intro q w M) | refine o_skipT ?_ | refine o_skipF ?_)))
  (refine wp_region_any (by kernel_rfl) ?_; (try (change wpAny _ _ _ _ _ _ _ (World.drew _))); replace M := M.drew; generalize World.drew _ = w at M ⊢; (refine tk 1 (v := ?_) rfl (by kernel_rfl) rfl (fun _ _ _ h => h) ?_ ?_; (rotate_left 1); focus (intro w; go_simp; try with_reducible rfl)); (try go_simp); (refine wpAny_ready (rs := [0, 2]) (by kernel_rfl) (by simp) ?_; refine (ready_cons (get_l rfl) rfl (fun K hK => ?_) (ready_cons (get_l rfl) rfl (fun K hK => ?_) AllReady.nil))); (all_goals (first | (refine o_dst (some 7) ?_; (first | (obtain ⟨ao1, cap1, w6, hrun, hS6, hb6⟩ := HCP.out _ M.new; refine owp_of (wp_append_run _ _ 26 rfl rfl rfl rfl hrun ?_); replace M := M.below hb6; clear hrun hb6; go_simp) | (first | refine q_all M (by rfl) ?_ | refine q_get M (by exact rfl) ?_ | refine q_prt M (by rfl) ?_)); (all_goals ((refine hK _ _ ?_); clear hK K)); (all_goals ((refine wpAny_ready (rs := [2]) (by kernel_rfl) (by simp) ?_; refine (ready_cons (get_l rfl) rfl (fun K hK => ?_) AllReady.nil)); (all_goals ((refine o_dst (some 9) ?_; (first | (obtain ⟨ao1, cap1, w6, hrun, hS6, hb6⟩ := HCP.out _ M.new; refine owp_of (wp_append_run _ _ 26 rfl rfl rfl rfl hrun ?_); replace M := M.below hb6; clear hrun hb6; go_simp) | (refine owp_of ?_; go_simp)); (all_goals ((refine hK _ _ ?_); clear hK K)); (all_goals ((refine wpAny_ready (rs := [3]) (by kernel_rfl) (by simp) ?_; refine (ready_cons (get_l rfl) rfl (fun K hK => ?_) AllReady.nil)); (all_goals ((refine o_dst (some 10) ?_; (refine owp_of ?_; go_simp; (go_at_call 6; with_reducible refine (HC.out _ _ _ M.new hS6).mono ?_; rintro e w5 ⟨rfl, hb5⟩; replace M := M.below hb5; clear hb5 hS6); (try go_simp)); (all_goals ((refine hK _ _ ?_); clear hK K)); (all_goals ((refine tk 4 (v := ?_) rfl (by kernel_rfl) rfl (fun _ _ _ h => h) ?_ ?_; (rotate_left 1); focus (intro w; go_simp; try with_reducible rfl)); (try go_simp); (refine wpAny_done (by kernel_rfl) ?_ _)))))))))))))) | (refine o_dst (some 9) ?_; (first | (obtain ⟨ao1, cap1, w6, hrun, hS6, hb6⟩ := HCP.out _ M.new; refine owp_of (wp_append_run _ _ 26 rfl rfl rfl rfl hrun ?_); replace M := M.below hb6; clear hrun hb6; go_simp) | (refine owp_of ?_; go_simp)); (all_goals ((refine hK _ _ ?_); clear hK K)); (all_goals ((refine wpAny_ready (rs := [0]) (by kernel_rfl) (by simp) ?_; refine (ready_cons (get_l rfl) rfl (fun K hK => ?_) AllReady.nil)); (all_goals ((refine o_dst (some 7) ?_; (first | (obtain ⟨ao1, cap1, w6, hrun, hS6, hb6⟩ := HCP.out _ M.new; refine owp_of (wp_append_run _ _ 26 rfl rfl rfl rfl hrun ?_); replace M := M.below hb6; clear hrun hb6; go_simp) | (first | refine q_all M (by rfl) ?_ | refine q_get M (by exact rfl) ?_ | refine q_prt M (by rfl) ?_)); (all_goals ((refine hK _ _ ?_); clear hK K)); (all_goals ((refine wpAny_ready (rs := [3]) (by kernel_rfl) (by simp) ?_; refine (ready_cons (get_l rfl) rfl (fun K hK => ?_) AllReady.nil)); (all_goals ((refine o_dst (some 10) ?_; (refine owp_of ?_; go_simp; (go_at_call 6; with_reducible refine (HC.out _ _ _ M.new hS6).mono ?_; rintro e w5 ⟨rfl, hb5⟩; replace M := M.below hb5; clear hb5 hS6); (try go_simp)); (all_goals ((refine hK _ _ ?_); clear hK K)); (all_goals ((refine tk 4 (v := ?_) rfl (by kernel_rfl) rfl (fun _ _ _ h => h) ?_ ?_; (rotate_left 1); focus (intro w; go_simp; try with_reducible rfl)); (try go_simp); (refine wpAny_done (by kernel_rfl) ?_ _)))))))))))))))))
  all_goals
    go_wp2_with (first | (with_reducible (first | refine wl M ?_ | refine wlg M ?_ | (refine ws M ?_; clear M; intro w M) | (refine wsc M ?_; clear M; intro w M) | (refine wv M ?_; clear M; intro z w M) | (refine wr M ?_; clear M; intro q w M) | refine o_skipT ?_ | refine o_skipF ?_)) | (go_at_call 7; with_reducible refine (HB.out _ M.new).mono ?_; rintro e w5 ⟨rfl, hb5⟩; replace M := M.below hb5; clear hb5))
    go_ret
    exact ⟨ret_bool (by simp), M.new⟩
end
end Go.Proofs.YtnbnmcadoekcfaaDoor
namespace Go.Proofs.YtnbnmcadoekcfaaDoor
open Go.ChangeShapes Go.WideShapes Go.ChangeAt Go.RowKit Go.Joins
open Go.ChangeMaps (setBlock shut_map_nil open_string shut_string keptBut_setBlock frozen?_setBlock heap_setBlock_same)
set_option linter.unusedVariables false

theorem g_rels : Tryd.prog.globalNamed "dotterel/parse.relations" = some 1 := by kernel_rfl
theorem gt_rels : (Tryd.prog.globals[1]?).map (·.type) = some 118 := by kernel_rfl
theorem gc_rels : Tryd.prog.cellsOf 118 = 14 := by kernel_rfl
theorem g_kept : Tryd.prog.globalNamed "dotterel/parse.kept" = some 0 := by kernel_rfl
theorem gt_kept : (Tryd.prog.globals[0]?).map (·.type) = some 117 := by kernel_rfl
theorem gc_kept : Tryd.prog.cellsOf 117 = 17 := by kernel_rfl
theorem cells_string : Tryd.prog.cellsOf 9 = 1 := by kernel_rfl
/-- A world for the witness: the tables hold what their initialisers lay. -/
noncomputable def laidWorld (os : Os) : World :=
  { World.holding Tryd.prog os ⟨#[], #[], []⟩ with heap := (layCells (layCells (World.holding Tryd.prog os ⟨#[], #[], []⟩).heap 1 (relsL.map Value.string).toArray) 0 (keptL.map Value.string).toArray) }
theorem laid_met (os : Os) : laidMet Tryd.prog Rows.joinEventsRow.laid ((laidWorld os).forCall (fun _ _ => 0) ⟨#[], #[.agg #[.slice none 0 0, .slice none 0 0], .slice none 0 0], []⟩).memory :=
  laidMet_of_run' 8 (by kernel_rfl) (by kernel_rfl)
theorem reads (os : Os) {H : Type} (enc : TypeId × Value → H) : ∃ places, DataW.whole enc Tryd.prog ((laidWorld os).forCall (fun _ _ => 0) ⟨#[], #[.agg #[.slice none 0 0, .slice none 0 0], .slice none 0 0], []⟩).memory Tryd.f3.params.toList Rows.joinEventsSpec.vars false #[(.agg #[.slice none 0 0, .slice none 0 0] : Value), (.slice none 0 0 : Value)].toList 8 = some ([.agg [.nil, .nil], .nil], [], places) :=
  ⟨[], by kernel_rfl⟩

set_option maxRecDepth 100000 in
theorem joinEvents_lifted (os : Os) (started : os.Started) (H : Type) (enc : TypeId × Value → H) (F : Stop.Interp) :
    ReturnsInHanded {} Tryd.checked os 3 .any ((OpenSpec.ofChange Rows.joinEventsSpec).preRow enc Tryd.prog Tryd.f3 Rows.joinEventsRow.domain false Rows.joinEventsRow.laid) (((OpenSpec.ofChange Rows.joinEventsSpec).at F).post enc Tryd.prog Tryd.f3 false true false false) := by
  have hp : Tryd.f3.params = #[25, 26] := Tryd.params3
  obtain ⟨places, hx⟩ := reads os enc
  refine lawrow_lift (C := Tryd.checked) (fn := Tryd.f3) (s := Rows.joinEventsSpec) (tb := 4) own_knob started (by kernel_rfl) Tryd.func3 laid_out (by kernel_rfl) rfl (by kernel_rfl) Tryd.underlying4
    (fun ds hl => by rw [hp] at hl; exact (by match ds, hl with | [_, _], _ => rfl))
    (witness_row_at (enc := enc) (C := Tryd.checked) false (laidWorld os) #[.agg #[.slice none 0 0, .slice none 0 0], .slice none 0 0] rfl (by kernel_rfl) (by kernel_rfl) (by kernel_rfl)
      (OpenSpec.preRow_of_cond 8 hx (by kernel_rfl) (fun k hk => by cases hk) (by kernel_rfl) (laid_met os))) ?_
  intro W base args ds ps hval0 hA0 hlt hsz0 hL
  have hval : ∀ (j : Nat) t v, Tryd.f3.params[j]? = some t → args[j]? = some v → Value.okWide Tryd.prog W .any base t v := hval0
  have hA : DataW.TrodAll enc Tryd.prog W 0 (fun _ => true) true Tryd.f3.params.toList args.toList ds ps := hA0
  have hsz : (DataW.weightsEach Tryd.prog Tryd.f3.params.toList ds).all (· ≤ reachBytes) = true := hsz0
  rw [hp] at hA hval hsz
  clear hA0 hval0 hsz0
  have hL' : laidMet Tryd.prog [("dotterel/parse.relations", wordsData relsL), ("dotterel/parse.kept", wordsData keptL)] W := hL
  have c_rels := words_of_head g_rels gt_rels Tryd.underlying118 Tryd.underlying9 cells_string gc_rels (zs := relsL) hL'
  have b_rels : 1 < W.heap.size := World.block_lt_of_cell? W ⟨1, 0, none⟩ (c_rels 0 (by decide))
  have S_rels : SlF (under W.heap.size) W 1 wordF (some ⟨1, 0, none⟩) 14 14 relsL := words_cells b_rels b_rels rfl (by omega) c_rels
  have c_kept := words_of_head g_kept gt_kept Tryd.underlying117 Tryd.underlying9 cells_string gc_kept (zs := keptL) (laidMet.tail hL')
  have b_kept : 0 < W.heap.size := World.block_lt_of_cell? W ⟨0, 0, none⟩ (c_kept 0 (by decide))
  have S_kept : SlF (under W.heap.size) W 1 wordF (some ⟨0, 0, none⟩) 17 17 keptL := words_cells b_kept b_kept rfl (by omega) c_kept
  obtain ⟨v0, v1, d0, d1, p0, p1, rfl, rfl, rfl, h0, h1⟩ := trodAll_two hA
  obtain ⟨b0, p0, q0, r0, p10, q10, r10, rfl, S0, T0, U0, V0, W0⟩ := open_bok (hval 0 25 v0 rfl rfl) h0 (fun p hp => hlt p (by simp [hp])) (fun q hq => by simpa using List.all_eq_true.1 hsz q (DataW.weights_mem_each (j := 0) rfl rfl q hq))
  obtain ⟨l1, ao1, n1, cap1, rfl, S1, z1, y1⟩ := open_events (hval 1 26 v1 rfl rfl) h1 (fun p hp => hlt p (by simp [hp])) (fun q hq => by simpa using List.all_eq_true.1 hsz q (DataW.weights_mem_each (j := 1) rfl rfl q hq))
  exact joinEvents_walk b0 _ _ _ _ _ _ _ _ _ l1 W S0 T0 U0 V0 W0 S1 z1 y1 S_kept S_rels

theorem joinEvents_said : Rows.JoinEventsSaid :=
  OpenClaim.holds_of_cond 3 Tryd.f3 rfl rfl rfl rfl rfl rfl rfl ⟨rfl, rfl, rfl, rfl, rfl⟩ rfl rfl rfl rfl rfl (by kernel_rfl) Tryd.func3 (by kernel_rfl)
    (of_decide_eq_true (by kernel_rfl)) (by unfold Func.isWrapper; first | (rw [if_pos (by decide +kernel)]; kernel_rfl) | (rw [if_neg (by decide +kernel)]; exact ⟨rfl, rfl⟩))
    (fun os started H enc _ F => by rw [OpenClaim.pre_eq_preRow]; exact joinEvents_lifted os started H enc F)

/-- No parameter wants a stand-in; the program's own looks are off: what the card asks. -/
theorem plainCard (f : FuncId) (fn : Func) (hf : Tryd.pinned.checked.prog.funcNamed "dotterel/dotterellaw.JoinEvents" = some f) (hfn : Tryd.pinned.checked.prog.funcs[f]? = some fn) :
    false = Tryd.pinned.checked.prog.looks [] ∧ ∀ (j : Nat) t, fn.params[j]? = some t → Tryd.pinned.checked.prog.wantsStandIn t = false := by
  obtain rfl : f = 3 := Option.some.inj ((show Tryd.prog.funcNamed "dotterel/dotterellaw.JoinEvents" = some 3 by kernel_rfl).symm.trans hf) |>.symm
  obtain rfl : fn = Tryd.f3 := (Option.some.inj (Tryd.func3.symm.trans hfn)).symm
  refine ⟨by kernel_rfl, fun j t ht => ?_⟩
  have hp : Tryd.f3.params = #[25, 26] := Tryd.params3
  rw [hp] at ht
  have h := Array.mem_of_getElem? ht
  simp only [List.mem_toArray, List.mem_cons, List.not_mem_nil, or_false] at h
  rcases h with rfl | rfl <;> (show Tryd.prog.wantsStandIn _ = false; kernel_rfl)

/-- The statement: the card. -/
theorem joinEvents_holds : Rows.JoinEventsCardSaid :=
  Claim7.holds_tied_plain_at .later [] _ _ _ _ joinEvents_said (fun _ h => by cases h) (by kernel_rfl) (fun _ h => by cases h) joinEvents_row_tie rfl ⟨rfl, rfl⟩ (by kernel_rfl) rfl plainCard (by kernel_rfl)

#print axioms joinEvents_holds
end Go.Proofs.YtnbnmcadoekcfaaDoor
