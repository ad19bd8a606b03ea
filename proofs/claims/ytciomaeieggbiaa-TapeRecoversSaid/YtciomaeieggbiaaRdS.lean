/-
  The walks of the reference's scan of bytes: stop, one, many, str.
-/
import Derived.Test.YtciomaeieggbiaaRdD
namespace Go.Proofs.Ytciomaeieggbiaa
open Go.RowKit
set_option linter.unusedVariables false
set_option linter.unusedSimpArgs false

/-- A scan that has these bytes ahead of it, out of these all, or these refused. -/
def ScnAt (b D : Nat) (all : List UInt8) (s : Sc) (w : World) : Prop :=
  s.fine ∧ all.length ≤ 20000 ∧ ∃ ao cap p, w.heap[b]? = some (.cells #[.slice ao all.length cap, .int .i64 (p : Nat), .int .i64 s.code] 126 (0, 0)) ∧ SlF (Else b D) w 1 byteF ao all.length cap all ∧ p ≤ all.length ∧ (∀ l, s = .on l → all.drop p = l)
theorem ScnAt.lt {b D : Nat} {all : List UInt8} {s : Sc} {w : World} (h : ScnAt b D all s w) : b < w.heap.size := by
  obtain ⟨_, _, ao, cap, p, hb, _⟩ := h
  exact (Array.getElem?_eq_some_iff.1 hb).1
theorem ScnAt.below {b D : Nat} {all : List UInt8} {s : Sc} {w w' : World} (h : ScnAt b D all s w) (hb : Below w.heap.size w w') : ScnAt b D all s w' := by
  have hlt := h.lt
  obtain ⟨hf, ha, ao, cap, p, hk, hS, hn⟩ := h
  exact ⟨hf, ha, ao, cap, p, (hb.block b hlt).trans hk, hS.below byteF_firm hb, hn⟩
theorem ScnAt.setNew {b D : Nat} {all : List UInt8} {s : Sc} {w : World} (h : ScnAt b D all s w) {q : Addr} (hne : q.block ≠ b) (hD : D ≤ q.block) (u : Value) : ScnAt b D all s (w.setCell q u) := by
  obtain ⟨hf, ha, ao, cap, p, hk, hS, hn⟩ := h
  exact ⟨hf, ha, ao, cap, p, (Below.heap_setCell _ _ _ _ hne.symm).trans hk, hS.same byteF_firm (Same.setCell _ (fun e => by have := e.2; omega)), hn⟩
theorem ScnAt.grown {b D : Nat} {all : List UInt8} {s : Sc} {w w' : World} {row : Option Nat} (h : ScnAt b D all s w) (hg : w.grownBy w' row) (hr : ∀ g, row = some g → b < g ∧ D ≤ g) : ScnAt b D all s w' := by
  have hlt := h.lt
  obtain ⟨hf, ha, ao, cap, p, hk, hS, hn⟩ := h
  exact ⟨hf, ha, ao, cap, p, (hg.block b hlt (fun e => by have := hr b e.symm; omega)).trans hk, hS.same byteF_firm ⟨hg.size, fun g hF hlt => ⟨hF, hg.block g hlt (fun e => by have := hr g e.symm; have := hF.2; omega)⟩⟩, hn⟩
/-- An element's address, its row and its block. -/
theorem SlF.index {α : Type} {F : Nat → Prop} {w : World} {k : Nat} {R : (Nat → Prop) → World → List Value → α → Prop} {ao : Option Addr} {n cap : Nat} {xs : List α} (h : SlF F w k R ao n cap xs) {P : Program} {t e : TypeId} (ht : P.underlying t = some (.slice e)) (hs : SizeIs P e k) {i : Nat} (hi : i < xs.length) :
    ∃ b off row, (∀ wx, (Instr.indexAt t (.slice ao n cap) (.int .i64 i)).run P wx = .ok (.pointer (some ⟨b, off + i * k, none⟩)) wx) ∧ F b ∧ b < w.heap.size ∧ RowAt w b (off + i * k) k row ∧ R F w row xs[i] := by
  obtain ⟨h1, h2, h3, _, h4⟩ := h
  obtain ⟨b, off, row, rfl, hF, hlt, hr, hx⟩ := h4 i hi
  refine ⟨b, off, row, fun wx => ?_, hF, hlt, hr, hx⟩
  have hin : (i : Int) < n := by omega
  have hsw := hs wx
  simp [Instr.indexAt, run_underlying ht, asIntOf, hsw, Addr.add]
  rw [if_pos (by omega)]
  by_cases e : i * k = 0
  · rw [if_pos e, e]; simp
  · rw [if_neg e]
theorem set_three1' {w : World} {b : Nat} {x y z u : Value} {t : TypeId} {f : Nat × Nat} (h : w.heap[b]? = some (.cells #[x, y, z] t f)) : (w.setCell ⟨b, 1, none⟩ u).heap[b]? = some (.cells #[x, u, z] t f) := by simp [World.setCell, Array.getElem?_modify, h]
theorem set_three2' {w : World} {b : Nat} {x y z u : Value} {t : TypeId} {f : Nat × Nat} (h : w.heap[b]? = some (.cells #[x, y, z] t f)) : (w.setCell ⟨b, 2, none⟩ u).heap[b]? = some (.cells #[x, y, u] t f) := by simp [World.setCell, Array.getElem?_modify, h]

theorem ScnAt.step {b D p : Nat} {all : List UInt8} {w : World} {ao : Option Addr} {cap : Nat} {e : Int} (ha : all.length ≤ 20000) (hk : w.heap[b]? = some (.cells #[.slice ao all.length cap, .int .i64 (p : Nat), .int .i64 e] 126 (0, 0))) (hS : SlF (Else b D) w 1 byteF ao all.length cap all) (m : Nat) (hm : p + m ≤ all.length) (he : e = 0) :
    ScnAt b D all (.on (all.drop (p + m))) (w.setCell ⟨b, 1, none⟩ (.int .i64 ((p + m : Nat) : Int))) :=
  ⟨trivial, ha, ao, cap, p + m, by rw [he] at hk; exact set_three1' hk, hS.same byteF_firm ((Only.refl b w).setCell rfl _).same, hm, fun l h => by injection h⟩
theorem ScnAt.steps {b D p : Nat} {all : List UInt8} {w w' : World} {ao : Option Addr} {cap : Nat} (ha : all.length ≤ 20000) (hk : w.heap[b]? = some (.cells #[.slice ao all.length cap, .int .i64 (p : Nat), .int .i64 0] 126 (0, 0))) (hS : SlF (Else b D) w 1 byteF ao all.length cap all) (m : Nat) (hm : p + m ≤ all.length) (hb : Below w.heap.size w w') :
    ScnAt b D all (.on (all.drop (p + m))) (w'.setCell ⟨b, 1, none⟩ (.int .i64 ((p + m : Nat) : Int))) :=
  ScnAt.step ha ((hb.block b (Array.getElem?_eq_some_iff.1 hk).1).trans hk) (hS.below byteF_firm hb) m hm rfl

set_option maxHeartbeats 1000000 in
theorem sstop_any (b D : Nat) (all : List UInt8) (s : Sc) (e : Int) (w : World) (h : ScnAt b D all s w) (he : e ≠ 0) :
    Calls Try.prog 72 #[.pointer (some ⟨b, 0, none⟩), .int .i64 e] w fun x w' => x = .returned (.tuple #[]) ∧ ScnAt b D all (s.stop e) w' ∧ Only b w w' := by
  have HH := Lib.hid h
  obtain ⟨hf, ha, ao, cap, p, hk, hS, hp, hn⟩ := h
  have HK := Lib.hid hk
  have HE := Lib.hid he
  have HF := Lib.hid hf
  have HS := Lib.hid hS
  have HA := Lib.hid ha
  have HP := Lib.hid hp
  obtain ⟨c0, c1, c2, cf⟩ := three_cells hk
  have hlt : b < w.heap.size := (Array.getElem?_eq_some_iff.1 hk).1
  clear hS hn hk hf he ha hp
  match s with
  | .on l =>
    simp only [Sc.code] at c2
    go_enter Try.func72, Try.ntmps72
    go_wp2
    go_end0
    exact ⟨rfl, ⟨HE.out, HA.out, ao, cap, p, set_three2' HK.out, HS.out.same byteF_firm ((Only.refl b w).setCell rfl _).same, HP.out, fun l h => nomatch h⟩, (Only.refl b w).setCell rfl _⟩
  | .bad f =>
    simp only [Sc.code] at c2
    have q1 : (f == 0) = false := by have := HF.out; simpa [Sc.fine] using this
    go_enter Try.func72, Try.ntmps72
    go_wp2
    go_end0
    exact ⟨rfl, HH.out, Only.refl b w⟩

set_option maxHeartbeats 1000000 in
set_option maxRecDepth 100000 in
theorem sone_any (b D : Nat) (all : List UInt8) (s : Sc) (w : World) (h : ScnAt b D all s w) :
    Calls Try.prog 70 #[.pointer (some ⟨b, 0, none⟩)] w fun x w' => x = .returned (.int .i64 s.small.1) ∧ ScnAt b D all s.small.2 w' ∧ Only b w w' := by
  have HH := Lib.hid h
  obtain ⟨hf, ha, ao, cap, p, hk, hS, hp, hn⟩ := h
  have HK := Lib.hid hk
  have HF := Lib.hid hf
  have HS := Lib.hid hS
  have HA := Lib.hid ha
  have hle := hS.le
  obtain ⟨c0, c1, c2, cf⟩ := three_cells hk
  have hlt : b < w.heap.size := (Array.getElem?_eq_some_iff.1 hk).1
  match s with
  | .bad e =>
    have q1 : (e == 0) = false := by have := HF.out; simpa [Sc.fine] using this
    have q2 : (e != 0) = true := by have := HF.out; simpa [Sc.fine] using this
    simp only [Sc.code] at c2
    clear hS hn hk hf
    go_enter Try.func70, Try.ntmps70
    go_wp2
    go_ret
    exact ⟨rfl, HH.out, Only.refl b w⟩
  | .on [] =>
    have hpe : p = all.length := by have := hn [] rfl; have := congrArg List.length this; simp at this; omega
    subst hpe
    simp only [Sc.code] at c2
    clear hS hn hk hf
    go_enter Try.func70, Try.ntmps70
    go_wp2_with fail
    go_quiet (fail)
    go_wp2_with (go_at_call 72; refine (sstop_any b D all _ 5 _ (HH.out.below (Joins.below_draws _ _ _)) (by decide)).mono ?_; rintro e w1 ⟨rfl, h1, ho1⟩)
    go_ret
    exact ⟨rfl, h1, ((Only.refl b w).draws _).trans ho1⟩
  | .on (c :: l) =>
    have hd := hn (c :: l) rfl
    have hpl : p < all.length := by have := congrArg List.length hd; simp at this; omega
    have hgc : all[p] = c := by have := congrArg (fun z => z[0]?) hd; simp at this; rw [List.getElem?_eq_getElem hpl] at this; simpa using this
    have hdl : all.drop (p + 1) = l := by have := congrArg (List.drop 1) hd; simpa using this
    have HD := Lib.hid hdl
    obtain ⟨g, off, row, hix, hgF, hglt, hrow, hrr⟩ := hS.index (P := Try.prog) Try.underlying34 size_byte (i := p) hpl
    have hrr3 : row = [.int .u8 c.toNat] := by have h := hrr; rw [hgc] at h; exact h
    subst hrr3
    have d0 := hrow.one
    simp only [Nat.mul_one] at hix d0
    have hgb : g ≠ b := hgF.1
    have hgb' : b ≠ g := hgF.1.symm
    have hpl' : (p : Int) < all.length := by omega
    have PL : Hid (p + 1 ≤ all.length) := by show _ ≤ _; omega
    have hcn : (c.toNat : Int) < 256 := by have := c.toNat_lt; omega
    simp only [Sc.code] at c2
    clear hS hn hk hf hd hgc hdl hrr
    go_enter Try.func70, Try.ntmps70
    go_wp2_with fail
    go_quiet (fail)
    go_wp2_with fail
    go_quiet (fail)
    go_wp2
    go_ret
    have hst := fun n => ScnAt.steps HA.out HK.out HS.out 1 PL.out (Joins.below_draws w.heap.size w n)
    simp only [HD.out] at hst
    exact ⟨rfl, (hst _).below (Joins.below_draws _ _ _), (((Only.refl b w).draws _).setCell rfl _).draws _⟩

set_option maxHeartbeats 4000000 in
set_option maxRecDepth 100000 in
theorem smany_any (b D : Nat) (all : List UInt8) (s : Sc) (w : World) (h : ScnAt b D all s w) :
    Calls Try.prog 71 #[.pointer (some ⟨b, 0, none⟩)] w fun x w' => x = .returned (.int .i64 s.long.1) ∧ ScnAt b D all s.long.2 w' ∧ Only b w w' := by
  have HH := Lib.hid h
  have hlt : b < w.heap.size := h.lt
  clear h
  generalize hL : s.long = L
  have HL := Lib.hid hL
  clear hL
  go_enter Try.func71, Try.ntmps71
  go_wp2_with fail
  go_loopw [3, 4, 5] (fun n f i wr => ∃ (k m : Nat) (t : Sc), k ≤ 8 ∧ n = .int .i64 m ∧ f = .int .i64 ((128 ^ k : Nat) : Int) ∧ i = .int .i64 k ∧ m < 128 ^ k ∧ ScnAt b D all t wr ∧ Only b w wr ∧ Hid (longF (9 - k) k m t = L)) (fun _ _ i _ => 9 - (intOf i).toNat)
  case atStart => exact ⟨0, 0, s, by omega, rfl, rfl, rfl, by decide, HH.out, Only.refl _ _, HL.out⟩
  case round =>
    obtain ⟨k, m, t, hk8, rfl, rfl, rfl, hm, hr, ho, XX⟩ := hrel
    have hltr : b < wr.heap.size := hr.lt
    have HR := Lib.hid hr
    have HM := Lib.hid hm
    have HS := Lib.hid (sone_any b D all t wr hr)
    clear hm hr
    obtain ⟨j, hj⟩ : ∃ j, 9 - k = j + 1 := ⟨8 - k, by omega⟩
    have XX2 : Hid (longF (j + 1) k m t = L) := by show _ = _; rw [← hj]; exact XX.out
    clear XX
    have hk9 : (k : Int) < 9 := by omega
    unfold longF at XX2
    have SL := Sc.small_lt t
    generalize t.small = M at HS XX2 SL
    obtain ⟨c, u⟩ := M
    simp only at HS XX2 SL
    match u with
    | .bad e =>
      have E : Hid (L = (0, .bad e)) := XX2.out.symm
      clear XX2
      go_wp2_with fail
      refine HS.out.mono ?_
      rintro x w1 ⟨rfl, h1, ho1⟩
      have H1 := Lib.hid h1
      obtain ⟨hf, ha, ao, cap, p, hk, hS, hp, hn⟩ := h1
      obtain ⟨c0, c1, c2, cf⟩ := three_cells hk
      have q1 : (e != 0) = true := by simpa [Sc.fine] using hf
      simp only [Sc.code] at c2
      clear hf hS hn hk
      go_wp2
      go_ret
      rw [E.out]; exact ⟨rfl, H1.out, ho.trans ho1⟩
    | .on l =>
      simp only at XX2
      have hP := pow_eight hk8
      have hp1 : 1 ≤ 128 ^ k := Nat.one_le_pow _ _ (by decide)
      have HK8 := Lib.hid hk8
      have PW : Hid (128 ^ (k + 1) = 128 ^ k * 128) := Nat.pow_succ ..
      have JJ : Hid (9 - (k + 1) = j) := by show _ = _; omega
      generalize 128 ^ (k + 1) = P2 at PW
      obtain ⟨q, hq⟩ : ∃ q, q = c % 128 := ⟨_, rfl⟩
      have hq1 : (c : Int).tmod 128 = (q : Int) := by rw [Int.tmod_eq_emod_of_nonneg (by omega)]; omega
      have hq2 : (c : Int) % 128 = (q : Int) := by omega
      have hq3 : IntKind.i64.wrap (q : Int) = (q : Int) := IntWalk.i64_in _ (by omega)
      have hcw : IntKind.i64.wrap (c : Int) = (c : Int) := IntWalk.i64_in _ (by omega)
      generalize hPP : 128 ^ k = P at *
      have HPP := Lib.hid hPP
      have hmul : q * P ≤ 127 * P := Nat.mul_le_mul_right _ (by omega)
      have hm := HM.out
      have QW : Hid (wrap64 ((m : Int) + wrap64 ((q : Int) * (P : Int))) = ((m + q * P : Nat) : Int)) := by
        show wrap64 _ = _
        have e1 : (q : Int) * (P : Int) = ((q * P : Nat) : Int) := (Int.natCast_mul _ _).symm
        rw [e1]
        generalize q * P = M at hmul
        rw [IntWalk.wrap64_in (M : Int) (by omega), IntWalk.wrap64_in _ (by omega)]
        rfl
      have hq5 : c < 128 → q = c := fun h => by rw [hq]; exact Nat.mod_eq_of_lt h
      have hq7 : k < 8 → IntKind.i64.wrap ((P : Int) * 128) = (P2 : Int) := fun hk => by
        have h1 := PW.out
        have h2 : 128 ^ k ≤ 128 ^ 7 := Nat.pow_le_pow_right (by decide) (by omega)
        have h3 : (128 : Nat) ^ 7 = 562949953421312 := by decide
        rw [IntWalk.i64_in _ (by omega)]; omega
      have hq8 : k < 8 → m + q * P < P2 := fun hk => by have h1 := PW.out; omega
      have CM : Hid (c % 128 = q) := hq.symm
      clear hPP hq hmul hm
      have SP : ∀ w1, ScnAt b D all (.on l) w1 → w1.cell? ⟨b, 2, none⟩ = some (.int .i64 0) ∧ w1.frozen? ⟨b, 2, none⟩ = false ∧ b < w1.heap.size := fun w1 h => by
        have hl := h.lt
        obtain ⟨hf, ha, ao, cap, p, hk, hS, hp, hn⟩ := h
        obtain ⟨c0, c1, c2, cf⟩ := three_cells hk
        exact ⟨c2, cf 2, hl⟩
      have SP := Lib.hid SP
      by_cases hb : (0 < k ∧ c = 0) ∨ (k = 8 ∧ 127 < c)
      · have E : Hid (L = (0, .bad 4)) := by show _ = _; rw [← XX2.out, if_pos hb]
        clear XX2 hq1 hq2 hq3 hq5 hq7 hq8
        by_cases hk8 : k = 8 ∧ 127 < c
        · obtain ⟨rfl, hc1⟩ := hk8
          have hc1' : (127 : Int) < c := by omega
          have hc0 : ((c : Int) == 0) = false := by simp; omega
          clear hb
          go_wp2_with fail
          refine HS.out.mono ?_
          rintro x w1 ⟨rfl, h1, ho1⟩
          obtain ⟨c2, cf, hl1⟩ := SP.out _ h1
          go_wp2_with (go_at_call 72; refine (sstop_any b D all _ 4 _ h1 (by decide)).mono ?_; rintro e w2 ⟨rfl, h2, ho2⟩)
          go_ret
          rw [E.out]; exact ⟨rfl, h2, (ho.trans ho1).trans ho2⟩
        · obtain ⟨hk0, hc0⟩ : 0 < k ∧ c = 0 := by omega
          have hk1 : (0 : Int) < k := by omega
          subst hc0
          clear hb hk8
          go_wp2_with fail
          refine HS.out.mono ?_
          rintro x w1 ⟨rfl, h1, ho1⟩
          obtain ⟨c2, cf, hl1⟩ := SP.out _ h1
          go_wp2_with (go_at_call 72; refine (sstop_any b D all _ 4 _ h1 (by decide)).mono ?_; rintro e w2 ⟨rfl, h2, ho2⟩)
          all_goals
            go_ret
            rw [E.out]; exact ⟨rfl, h2, (ho.trans ho1).trans ho2⟩
      · rw [if_neg hb] at XX2
        by_cases hs : c < 128
        · obtain rfl := hq5 hs
          have E : Hid (L = (m + q * P, .on l)) := by show _ = _; rw [← XX2.out, if_pos hs]
          have hs' : (q : Int) < 128 := by omega
          clear XX2 hq5 hq7 hq8
          by_cases hk0 : k = 0
          · subst hk0
            clear hb
            go_wp2_with fail
            refine HS.out.mono ?_
            rintro x w1 ⟨rfl, h1, ho1⟩
            obtain ⟨c2, cf, hl1⟩ := SP.out _ h1
            go_wp2
            go_ret
            rw [E.out]; exact ⟨ret_int QW.out, h1, ho.trans ho1⟩
          · have hk1 : (0 : Int) < k := by omega
            have hc0 : ((q : Int) == 0) = false := by simp; omega
            have hc3 : ¬ (127 : Int) < q := by omega
            clear hb
            go_wp2_with fail
            refine HS.out.mono ?_
            rintro x w1 ⟨rfl, h1, ho1⟩
            obtain ⟨c2, cf, hl1⟩ := SP.out _ h1
            go_wp2
            all_goals
              go_ret
              rw [E.out]; exact ⟨ret_int QW.out, h1, ho.trans ho1⟩
        · rw [if_neg hs] at XX2
          have hk7 : k < 8 := by omega
          have hq7 := hq7 hk7
          have Q8 := Lib.hid (hq8 hk7)
          have XX3 : Hid (longF j (k + 1) (m + q * P) (.on l) = L) := by show _ = _; rw [← XX2.out, CM.out]
          have hk8' : ((k : Int) == 8) = false := by simp; omega
          have hc0 : ((c : Int) == 0) = false := by simp; omega
          have hs' : ¬ (c : Int) < 128 := by omega
          have PQ : Hid (128 ^ (k + 1) = P2) := by show _ = _; rw [PW.out, ← HPP.out]; exact Nat.pow_succ ..
          clear XX2 hb hs hq8 hq5
          go_wp2_with fail
          refine HS.out.mono ?_
          rintro x w1 ⟨rfl, h1, ho1⟩
          obtain ⟨c2, cf, hl1⟩ := SP.out _ h1
          go_wp2
          all_goals
            go_roundw
            case rel =>
              exact ⟨k + 1, m + q * P, .on l, by omega, by rw [QW.out], by rw [PQ.out], by go_num, by rw [PQ.out]; exact Q8.out, h1, ho.trans ho1, by rw [JJ.out]; exact XX3.out⟩
            case measure => simp [intOf]; omega

theorem run_cut {P : Program} {t e : TypeId} {k : Nat} (ht : P.underlying t = some (.slice e)) (hs : SizeIs P e k) (ao : Option Addr) (n cap lo hi : Nat) (hlo : lo ≤ hi) (hhi : hi ≤ n) (hc : n ≤ cap) (wx : World) :
    (Instr.sliceAt t (.slice ao n cap) (some (.int .i64 lo)) (some (.int .i64 hi)) none).run P wx = .ok (.slice (if cap = lo then ao else ao.map (·.add (lo * k))) (hi - lo) (cap - lo)) wx := by
  have hsw := hs wx
  have h1 : (lo : Int) ≤ hi := by omega
  have h2 : (hi : Int) ≤ cap := by omega
  simp [Instr.sliceAt, Instr.slice, run_underlying ht, Instr.sliceBounds, run_sliceBound, hsw, h1, h2]
theorem cut_slice {F : Nat → Prop} {w : World} {ao : Option Addr} {n cap lo hi : Nat} {xs : List UInt8} (h : SlF F w 1 byteF ao n cap xs) (hlo : lo ≤ hi) (hhi : hi ≤ n) : SlF F w 1 byteF (if cap = lo then ao else ao.map (·.add (lo * 1))) (hi - lo) (cap - lo) ((xs.drop lo).take (hi - lo)) :=
  (h.from lo (by omega)).take (hi - lo) (cap - lo) (by omega) (by have := h.le; omega) (Nat.le_refl _)

set_option maxHeartbeats 4000000 in
set_option maxRecDepth 100000 in
theorem sstr_any (b D : Nat) (all : List UInt8) (s : Sc) (w : World) (h : ScnAt b D all s w) :
    Calls Try.prog 73 #[.pointer (some ⟨b, 0, none⟩)] w fun x w' => x = .returned (.string s.text.1) ∧ ScnAt b D all s.text.2 w' ∧ Only b w w' := by
  have HC := Lib.hid (sone_any b D all s w h)
  have hlt := Sc.small_lt s
  unfold Sc.text
  generalize s.small = L at HC hlt ⊢
  obtain ⟨n, t⟩ := L
  simp only at HC hlt ⊢
  have hlt' : (n : Int) < 256 := by omega
  match t with
  | .bad e =>
    go_enter Try.func73, Try.ntmps73
    go_wp2_with fail
    refine HC.out.mono ?_
    rintro x w1 ⟨rfl, h1, ho1⟩
    have H1 := Lib.hid h1
    obtain ⟨hf, ha, ao, cap, p, hk, hS, hp, hn⟩ := h1
    obtain ⟨c0, c1, c2, cf⟩ := three_cells hk
    have q1 : (e != 0) = true := by simpa [Sc.fine] using hf
    simp only [Sc.code] at c2
    clear hf hS hn hk
    go_wp2
    go_ret
    exact ⟨rfl, H1.out, ho1⟩
  | .on l =>
    simp only
    by_cases hm : l.length < n
    · simp only [if_pos hm]
      go_enter Try.func73, Try.ntmps73
      go_wp2_with fail
      refine HC.out.mono ?_
      rintro x w1 ⟨rfl, h1, ho1⟩
      have H1 := Lib.hid h1
      obtain ⟨hf, ha, ao, cap, p, hk, hS, hp, hn⟩ := h1
      obtain ⟨c0, c1, c2, cf⟩ := three_cells hk
      have hlb : b < w1.heap.size := (Array.getElem?_eq_some_iff.1 hk).1
      have hl := congrArg List.length (hn l rfl)
      simp only [List.length_drop] at hl
      have hgt : (all.length : Int) < (p : Int) + n := by omega
      simp only [Sc.code] at c2
      clear hf hS hn hk hm hl
      go_wp2_with fail
      go_quiet (fail)
      go_wp2_with (go_at_call 72; refine (sstop_any b D all _ 5 _ (H1.out.below (Joins.below_draws _ _ _)) (by decide)).mono ?_; rintro e w2 ⟨rfl, h2, ho2⟩)
      go_ret
      exact ⟨rfl, h2, (ho1.draws _).trans ho2⟩
    · simp only [if_neg hm]
      go_enter Try.func73, Try.ntmps73
      go_wp2_with fail
      refine HC.out.mono ?_
      rintro x w1 ⟨rfl, h1, ho1⟩
      have H1 := Lib.hid h1
      obtain ⟨hf, ha, ao, cap, p, hk, hS, hp, hn⟩ := h1
      obtain ⟨c0, c1, c2, cf⟩ := three_cells hk
      have hlb : b < w1.heap.size := (Array.getElem?_eq_some_iff.1 hk).1
      have hle := hS.le
      have hd := hn l rfl
      have hl := congrArg List.length hd
      simp only [List.length_drop] at hl
      have hgt : ¬ (all.length : Int) < (p : Int) + n := by omega
      have PN : p + n ≤ all.length := by omega
      have hcut := fun wx => run_cut (P := Try.prog) Try.underlying34 size_byte ao all.length cap p (p + n) (by omega) PN hle.1 wx
      have HK := Lib.hid hk
      have HST : Hid (∀ m, ScnAt b D all (.on (l.drop n)) ((w1.drewN m).setCell ⟨b, 1, none⟩ (.int .i64 ((p + n : Nat) : Int)))) := by
        show ∀ m, _
        intro m
        have h := ScnAt.steps ha hk hS n PN (Joins.below_draws w1.heap.size w1 m)
        rw [← List.drop_drop, hd] at h
        exact h
      have hss := cut_slice (lo := p) (hi := p + n) hS (by omega) PN
      rw [hd] at hss
      have e0 : p + n - p = n := by omega
      rw [e0] at hss
      simp only [e0] at hcut
      have HCV := fun (w' : World) (h : Only b w1 w') => convert_bytes (P := Try.prog) (src := 34) (dst := 9) Try.underlying34 Try.underlying5 Try.underlying9 (hss.same byteF_firm h.same)
      have HCW := fun m1 m2 => HCV ((((w1.drewN m1).setCell ⟨b, 1, none⟩ (.int .i64 ((p + n : Nat) : Int)))).drewN m2) ((((Only.refl b w1).draws _).setCell rfl _).draws _)
      have ecast : ((p + n : Nat) : Int) = (p : Int) + n := by omega
      simp only [ecast] at hcut HCW
      generalize hX : (if cap = p then ao else ao.map (·.add (p * 1))) = X at hcut HCW
      simp only [Sc.code] at c2
      clear hf hS hn hk hm hl hX hss HCV e0 ecast
      go_wp2_with fail
      go_quiet (fail)
      go_wp2_with fail
      go_quiet (fail)
      go_wp2
      go_ret
      exact ⟨rfl, (HST.out _).below (Joins.below_draws _ _ _), ((ho1.draws _).setCell rfl _).draws _⟩
end Go.Proofs.Ytciomaeieggbiaa
