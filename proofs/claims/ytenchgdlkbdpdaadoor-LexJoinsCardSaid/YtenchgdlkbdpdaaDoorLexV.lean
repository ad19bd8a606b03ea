/-
  The walks of lex and its reference, ninth part: a text cut into tokens.
-/
import Derived.Test.YtenchgdlkbdpdaaDoorLexU
import Derived.Test.YtenchgdlkbdpdaaDoorTokL
namespace Go.Proofs.YtenchgdlkbdpdaaDoor
open Go.RowKit
set_option linter.unusedVariables false
set_option linter.unusedSimpArgs false

theorem wordV_len (s : ByteArray) (h : 0 < s.size) : (wordV s).code = 0 → 1 ≤ (wordV s).len ∧ (wordV s).len ≤ s.size := by
  have := run_le isWrd (s.data.toList.drop 1)
  have h1 : (s.data.toList.drop 1).length = s.size - 1 := by simp
  rw [h1] at this
  unfold wordV
  split
  · intro h; cases h
  · intro _; simp only; omega
theorem numV_len (s : ByteArray) (h : 0 < s.size) (hd : isDig s[0] = true) : (numV s).code = 0 → 1 ≤ (numV s).len ∧ (numV s).len ≤ s.size := by
  have h1 := run_le isDig s.data.toList
  have h2 := run_yes h hd
  simp at h1 h2
  unfold numV
  split
  · intro h; cases h
  · split
    · intro h; cases h
    · intro _; simp only; omega
theorem textV_len (s : ByteArray) : (textV s).code = 0 → 1 ≤ (textV s).len ∧ (textV s).len ≤ s.size := by
  unfold textV
  split
  · intro h; cases h
  · rename_i h0
    split
    · intro h; cases h
    · intro _
      simp only
      obtain ⟨n, hn⟩ : ∃ n : Nat, Lib.indexByte (s.data.toList.drop 1) 34 = n := ⟨(Lib.indexByte (s.data.toList.drop 1) 34).toNat, by omega⟩
      have := (List.getElem?_eq_some_iff.1 (Lib.indexByte_some hn).1).1
      simp at this
      rw [hn]; simp; omega
theorem markV_len (s : ByteArray) : (markV s).code = 0 → 1 ≤ (markV s).len ∧ (markV s).len ≤ s.size := by
  unfold markV
  split
  · rename_i m hm
    intro _
    obtain ⟨g1, g2⟩ := marks_some hm
    have hne := marks_nonempty m g1
    rw [prefix_take] at g2
    have h1 := congrArg List.length (beq_iff_eq.1 g2)
    have h2 : 0 < m.data.toList.length := List.length_pos_iff.2 hne
    rw [List.length_take, ba_len, ba_len] at h1
    rw [ba_len] at h2
    simp only; omega
  · intro h; cases h
theorem tokenV_len (s : ByteArray) (h : 0 < s.size) : (tokenV s).code = 0 → 1 ≤ (tokenV s).len ∧ (tokenV s).len ≤ s.size := by
  rw [tokenV_at s h]
  by_cases h1 : isLet s[0] = true
  · rw [if_pos h1]; exact wordV_len s h
  · rw [if_neg h1]
    by_cases h2 : isDig s[0] = true
    · rw [if_pos h2]; exact numV_len s h h2
    · rw [if_neg h2]
      by_cases h3 : (s[0].toNat : Int) = 34
      · rw [if_pos h3]; exact textV_len s
      · rw [if_neg h3]; exact markV_len s

def tokC (t : Tok) : List Value := [.int .i64 t.kind, .string t.text, .int .i64 t.int]
def tkF : (Nat → Prop) → World → List Value → Tok → Prop := plainF tokC
theorem tkF_firm : Firm tkF := plainF_firm _
def TokR.tok (r : TokR) : Tok := ⟨r.kind, r.text, r.int⟩
/-- The tokens of a text from a place on; where it is wrong, and what it is refused for. -/
def cutF (s : ByteArray) : Nat → Nat → List Tok → List Tok × Nat × Int
  | 0, i, out => (out, 0, 0)
  | f + 1, i, out => if i < s.size then (if out.length = 700 then ([], i, 8) else if (tokenV (suf s i)).code = 0 then cutF s f (blankAt s (i + (tokenV (suf s i)).len)) (out ++ [(tokenV (suf s i)).tok]) else ([], i, (tokenV (suf s i)).code)) else (out, 0, 0)
def cutV (s : ByteArray) : List Tok × Nat × Int := if 3000 < s.size then ([], 0, 1) else cutF s (s.size + 1) (blankAt s 0) []
theorem info_tok : (Tryd.prog.info? 24).map (fun i => (i.zero, i.size, i.bytes)) = some (some (.agg #[.int .i64 0, .string ByteArray.empty, .int .i64 0]), 3, 32) := by kernel_rfl
theorem cells_new (w : World) (e : TypeId) (row : List Value) : ∀ j u, row[j]? = some u → (w.alloc (.cells row.toArray e)).cell? ((⟨w.heap.size, 0, none⟩ : Addr).add j) = some u := fun j u h => by
  rw [Go.WideShapes.add_plain, Nat.zero_add, World.cell?_alloc_new]
  simpa using h
theorem tok_one (t : Tok) : ∀ u ∈ tokC t, u.oneCell' = true := fun u hu => by
  simp [tokC] at hu
  rcases hu with rfl | rfl | rfl <;> rfl

/-- What a cut answers. -/
def CutPost (s : ByteArray) (w : World) (e : Ending) (w' : World) : Prop :=
  ∃ ao n cap, e = .returned (.tuple #[.slice ao n cap, .int .i64 ((cutV s).2.1 : Nat), .int .i64 (cutV s).2.2]) ∧ Below w.heap.size w w' ∧ SlF (from_ w.heap.size) w' 3 tkF ao n cap (cutV s).1
set_option maxHeartbeats 8000000 in
set_option maxRecDepth 100000 in
theorem cutOf_any (s : ByteArray) (w : World) (hs : s.size ≤ maxLen) : Calls Tryd.prog 13 #[.string s] w (CutPost s w) := by
  unfold maxLen at hs
  by_cases h3 : 3000 < s.size
  · have h3' : (3000 : Int) < s.size := by omega
    have HV : Hid (cutV s = ([], 0, 1)) := by show _ = _; unfold cutV; rw [if_pos h3]
    go_enter Tryd.func13, Tryd.ntmps13
    go_wp2
    go_ret3
    unfold CutPost
    rw [HV.out]
    exact ⟨none, 0, 0, rfl, Below.refl _ _, SlF.nil⟩
  · have h3' : (s.size : Int) ≤ 3000 := by omega
    have h3n : s.size ≤ 3000 := by omega
    have HV : Hid (cutV s = cutF s (s.size + 1) (blankAt s 0) []) := by show _ = _; unfold cutV; rw [if_neg h3]
    have hb0 := blankAt_le s 0 (by omega)
    obtain ⟨i0, hi, hz0, hz1, hz2⟩ := info_parts info_tok
    have HB0 : Hid (∀ wx, Calls Tryd.prog 29 #[.string s, .int .i64 0] wx fun e w' => e = .returned (.int .i64 (blankAt s 0)) ∧ wx = w') := fun wx => (blanksFrom_any s 0 wx (by unfold maxLen; omega) (by omega)).mono fun e w' h => ⟨h.1, h.2.symm⟩
    clear h3
    go_enter Tryd.func13, Tryd.ntmps13
    go_wp2_with (go_at_call 29; refine (HB0.out _).mono ?_; rintro e w' ⟨rfl, rfl⟩)
    go_loopw [5, 6] (fun o i wr => ∃ (k f : Nat) (out : List Tok), k ≤ s.size ∧ i = .int .i64 k ∧ Below w.heap.size w wr ∧ OwnF (from_ w.heap.size) w.heap.size wr 24 3 tkF o out ∧ Hid (out.length ≤ 700 ∧ s.size - k < f ∧ cutV s = cutF s f k out)) (fun _ i _ => s.size - (intOf i).toNat)
    case atStart => exact ⟨blankAt s 0, s.size + 1, [], hb0.2, rfl, Below.refl _ _, OwnF.empty, by simp, by omega, HV.out⟩
    case round =>
      obtain ⟨k, f, out, hk, rfl, hbr, hown, HC⟩ := hrel
      have OW := Lib.hid hown
      clear hown HV HB0
      obtain ⟨ra, rc, rfl⟩ := OW.out.slice
      have hwr : w.heap.size ≤ wr.heap.size := hbr.size
      obtain ⟨hc1, hc2, hc3⟩ := HC.out
      have HCC := Lib.hid hc3
      clear hc3 HC
      obtain ⟨f, rfl⟩ : ∃ g, f = g + 1 := ⟨f - 1, by omega⟩
      by_cases hlt : k < s.size
      · by_cases h700 : out.length = 700
        · have HE : Hid (cutV s = ([], k, 8)) := by show _ = _; rw [HCC.out]; unfold cutF; rw [if_pos hlt, if_pos h700]
          rw [h700] at OW ⊢
          go_wp2
          go_ret3
          unfold CutPost
          rw [HE.out]
          exact ⟨none, 0, 0, rfl, hbr, SlF.nil⟩
        · have h700' : (out.length : Int) < 700 := by omega
          have HT := Lib.hid (fun wx => from_any s k wx h3n hlt)
          have hsuf : 0 < (suf s k).size := by rw [suf_size]; omega
          have hlen := tokenV_len (suf s k) hsuf
          rw [suf_size] at hlen
          have HE := Lib.hid (show (cutV s = if (tokenV (suf s k)).code = 0 then cutF s f (blankAt s (k + (tokenV (suf s k)).len)) (out ++ [(tokenV (suf s k)).tok]) else ([], k, (tokenV (suf s k)).code)) by rw [HCC.out]; conv => lhs; unfold cutF; rw [if_pos hlt, if_neg h700])
          clear HCC h700
          generalize tokenV (suf s k) = r at HT HE hlen
          obtain ⟨code, kind, text, int, len⟩ := r
          by_cases hc0 : code = 0
          · subst hc0
            obtain ⟨g1, g2⟩ : 1 ≤ len ∧ len ≤ s.size - k := hlen rfl
            have hbl := blankAt_le s (k + len) (by omega)
            have HBB : Hid (∀ wx, Calls Tryd.prog 29 #[.string s, .int .i64 (k + len : Nat)] wx fun e w' => e = .returned (.int .i64 (blankAt s (k + len))) ∧ wx = w') := fun wx => (blanksFrom_any s (k + len) wx (by unfold maxLen; omega) (by omega)).mono fun e w' h => ⟨h.1, h.2.symm⟩
            have HE' : Hid (cutV s = cutF s f (blankAt s (k + len)) (out ++ [⟨kind, text, int⟩])) := by
              show _ = _
              rw [HE.out]; rfl
            have HT' : Hid (∀ wx, Calls Tryd.prog 30 #[.string s, .int .i64 k] wx fun e w' => e = .returned (.tuple #[.agg #[.int .i64 kind, .string text, .int .i64 int], .int .i64 (k + len : Nat), .int .i64 0]) ∧ Below wx.heap.size wx w') := HT
            clear HT HE hlen
            generalize blankAt s (k + len) = k2 at hbl HBB HE'
            go_wp2_with fail
            refine (HT'.out _).mono ?_
            rintro e w1 ⟨rfl, hb1⟩
            have hs1 := hb1.size
            have O1 := Lib.hid ((((OW.out.below tkF_firm hb1).alloc tkF_firm (.cells #[.int .i64 kind, .string text, .int .i64 int] 24)).alloc tkF_firm (.cells #[.int .i64 kind, .string text, .int .i64 int] 24)))
            have hbw : Below w.heap.size w w1 := hbr.trans (hb1.mono hwr)
            have hw1 : w.heap.size ≤ w1.heap.size := by omega
            have CN : Hid (∀ j u, (tokC ⟨kind, text, int⟩)[j]? = some u → ((w1.alloc (.cells #[.int .i64 kind, .string text, .int .i64 int] 24)).alloc (.cells #[.int .i64 kind, .string text, .int .i64 int] 24)).cell? ((⟨w1.heap.size + 1, 0, none⟩ : Addr).add j) = some u) := fun j u h => by
              have := cells_new (w1.alloc (.cells #[.int .i64 kind, .string text, .int .i64 int] 24)) 24 (tokC ⟨kind, text, int⟩) j u h
              rw [World.size_alloc] at this
              exact this
            go_wp2_with (first
              | (at_builtin; go_loud (refine wpList_append_F rfl _ _ 28 rfl w.heap.size 24 i0 (.agg #[.int .i64 0, .string ByteArray.empty, .int .i64 0]) 3 32 Tryd.underlying28 hi hz0 hz1 hz2 rfl (by decide) _ out.length rfl O1.out rfl tkF_firm ⟨kind, text, int⟩ (tokC ⟨kind, text, int⟩) ⟨w1.heap.size + 1, 0, none⟩ rfl rfl CN.out (tok_one _) rfl (by omega) (by decide) (by simp; omega) ?_); intro ra5 rc5 w5 hown' hgrow hb5)
              | (go_at_call 29; refine (HBB.out _).mono ?_; rintro e w' ⟨rfl, rfl⟩)
              | fail)
            have HX : Hid ((out ++ [(⟨kind, text, int⟩ : Tok)]).length ≤ 700 ∧ s.size - k2 < f ∧ cutV s = cutF s f k2 (out ++ [⟨kind, text, int⟩])) := ⟨by simp; omega, by omega, HE'.out⟩
            exact ⟨⟨k2, f, _, by omega, rfl, ((hbw.alloc hw1 _).alloc (by simp; omega) _).trans hb5, hown', HX⟩, by simp [intOf]; omega⟩
          · have hq : (code != 0) = true := by simpa using hc0
            have HE' : Hid (cutV s = ([], k, code)) := by show _ = _; rw [HE.out, if_neg hc0]
            have HT' : Hid (∀ wx, Calls Tryd.prog 30 #[.string s, .int .i64 k] wx fun e w' => e = .returned (.tuple #[.agg #[.int .i64 kind, .string text, .int .i64 int], .int .i64 (0 : Nat), .int .i64 code]) ∧ Below wx.heap.size wx w') := fun wx => (HT.out wx).mono fun e w' h => ⟨by rw [h.1]; unfold TokR.from; rw [if_neg hc0], h.2⟩
            clear HT HE hlen hc0
            go_wp2_with (go_at_call 30; refine (HT'.out _).mono ?_; rintro e w1 ⟨rfl, hb1⟩)
            go_ret3
            unfold CutPost
            rw [HE'.out]
            exact ⟨none, 0, 0, rfl, (hbr.trans (hb1.mono hwr)).alloc (by have := hb1.size; omega) _, SlF.nil⟩
      · have HE : Hid (cutV s = (out, 0, 0)) := by show _ = _; rw [HCC.out]; unfold cutF; rw [if_neg hlt]
        go_wp2
        go_ret3
        unfold CutPost
        rw [HE.out]
        obtain ⟨ao', cap', e1, hS⟩ := OW.out.done tkF_firm (G := from_ w.heap.size) (by omega) (fun b _ h => h.elim id id)
        simp only [Value.slice.injEq] at e1
        obtain ⟨rfl, _, rfl⟩ := e1
        exact ⟨_, _, _, rfl, hbr, hS⟩
end Go.Proofs.YtenchgdlkbdpdaaDoor
