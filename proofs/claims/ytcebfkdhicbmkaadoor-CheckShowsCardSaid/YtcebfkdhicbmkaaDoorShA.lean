/-
  Words as tokens, tokens one behind the other, numbers (the reference).
-/
import Derived.Test.YtcebfkdhicbmkaaDoorShQ
import Derived.Test.YtcebfkdhicbmkaaDoorTyC
import Derived.Test.YtcebfkdhicbmkaaDoorChkA
namespace Go.Proofs.YtcebfkdhicbmkaaDoor
open Go.RowKit
set_option linter.unusedVariables false
set_option linter.unusedSimpArgs false

instance iRowTkA : RowI Tryd.prog 26 56 3 := ⟨⟨Tryd.underlying26, ⟨.agg ([.int .i64 0, .string ByteArray.empty, .int .i64 0] : List Value).toArray, by kernel_rfl, rfl⟩, by kernel_rfl, by kernel_rfl, by omega, by omega⟩⟩
instance iRowTks : RowI Tryd.prog 83 26 1 := ⟨⟨Tryd.underlying83, ⟨.slice none 0 0, by kernel_rfl, rfl⟩, by kernel_rfl, by kernel_rfl, by omega, by omega⟩⟩
instance iOneTkA : OneI Tryd.prog 26 := ⟨⟨by kernel_rfl, _, Tryd.underlying26, rfl⟩⟩
instance iStTkA : StI Tryd.prog 56 3 := ⟨by kernel_rfl, _, Tryd.underlying56, rfl⟩
theorem size_tkn : SizeIs Tryd.prog 56 3 := fun w => by kernel_rfl
theorem size_tks : SizeIs Tryd.prog 26 1 := fun w => by kernel_rfl
/-- What a function of the reference gives: tokens, in blocks of its own. -/
abbrev TkP (w : World) (ts : List Tkn) (e : Ending) (w' : World) : Prop := ∃ a n c, e = .returned (.slice a n c) ∧ Below w.heap.size w w' ∧ SlF (from_ w.heap.size) w' 3 tknF a n c ts
def tkd (a : Option Addr) (n c : Nat) (ts : List Tkn) : Ent := dat fun F w => SlF F w 3 tknF a n c ts
abbrev TkQ (At : PS → World → Prop) (b : Nat) (u : World) (s : PS) (L : List Ent) (ts : List Tkn) (e : Ending) (w' : World) : Prop := ∃ a n c, e = .returned (.slice a n c) ∧ Mem At b u w' s (tkd a n c ts :: L)
section
variable {At : PS → World → Prop} {b : Nat} {u w : World} {s : PS} {L : List Ent}
theorem Mem.tkq (M : Mem At b u w s L) {ts : List Tkn} {e : Ending} {w' : World} (h : TkP w ts e w') : TkQ At b u s L ts e w' := by
  obtain ⟨a, n, c, rfl, hb, hs⟩ := h
  exact ⟨a, n, c, rfl, (M.below hb).adopt (fnd tknF_firm) hs fun k hk hlt => ⟨Nat.le_trans M.size hk, hlt, fun e he hz => Nat.lt_irrefl _ (Nat.lt_of_lt_of_le (M.low e he k hz).2 hk)⟩⟩
theorem Mem.gt {g : Nat} (M : Mem (StaysB g u) g u w s L) : g < w.heap.size := Nat.lt_of_lt_of_le M.lt M.size
theorem Mem.tkp {g : Nat} {a : Option Addr} {n c : Nat} {ts : List Tkn} (M : Mem (StaysB g u) g u w s (tkd a n c ts :: L)) : TkP u ts (.returned (.slice a n c)) w :=
  ⟨a, n, c, rfl, M.new, (M.dat_ (i := 0) rfl : SlF _ w 3 tknF a n c ts).wide tknF_firm fun k hk _ => hk.1⟩
theorem Mem.tke {g : Nat} {v : Value} {ts : List Tkn} {i : Nat} (M : Mem (StaysB g u) g u w s L) (hi : L[i]? = some (slc u.heap.size 56 3 tknF v ts)) : TkP u ts (.returned v) w := by
  have hO : OwnF (free_ u w L) u.heap.size w 56 3 tknF v ts := M.say _ (Mem.of_get hi)
  obtain ⟨ao, cap, h1, h2⟩ := hO.done (G := from_ u.heap.size) tknF_firm (by omega) (fun k _ h => h.elim (·.1) id)
  exact ⟨ao, ts.length, cap, by rw [h1], M.new, h2⟩
end
theorem flat_succ {α : Type} {ls : List (List α)} {i : Nat} (h : i < ls.length) : (ls.take (i + 1)).flatten = (ls.take i).flatten ++ ls[i] := by
  rw [List.take_add_one, List.getElem?_eq_getElem h, List.flatten_append]
  simp
theorem flat_le {α : Type} {ls : List (List α)} {i k : Nat} (h : i < ls.length) : ((ls.take i).flatten ++ ls[i].take k).length ≤ ls.flatten.length := by
  have h0 : ls.flatten = (ls.take (i + 1)).flatten ++ (ls.drop (i + 1)).flatten := by rw [← List.flatten_append, List.take_append_drop]
  rw [h0, flat_succ h]
  simp only [List.length_append, List.length_take]
  omega
def tksF (F : Nat → Prop) (w : World) (row : List Value) (l : List Tkn) : Prop := ∃ a n c, row = [.slice a n c] ∧ SlF F w 3 tknF a n c l
theorem tksF_firm : Firm tksF := fun F G w w' row x hs ⟨ao, n, cap, h1, h2⟩ => ⟨ao, n, cap, h1, h2.same tknF_firm hs⟩
section
variable {g : Nat} {w0 : World}
set_option maxRecDepth 8000 in
set_option maxHeartbeats 8000000 in
theorem tokens_any (hg : g < w0.heap.size) {F : Nat → Prop} {ao : Option Addr} {n c : Nat} {ls : List (List Tkn)} (X : SlF F w0 1 tksF ao n c ls) (hb : ls.flatten.length ≤ 100000) : Calls Tryd.prog 11 #[.slice ao n c] w0 (TkP w0 ls.flatten) := by
  have M := Mem.begin hg ⟨0, 0⟩
  have HX := Lib.hid X
  have hle := X.le
  have N := Lib.hid X.len
  have HB := Lib.hid hb
  clear hg X hb
  go_enter Tryd.func11, Tryd.ntmps11
  go_wp2_with (first | (with_reducible (first | refine wq M ?_ | (refine wS M ?_; clear M; intro w M) | (refine wV M ?_; clear M; intro z w M) | (refine wR M ?_; clear M; intro q w M))))
  replace M := M.none_ (R := tknF) tknF_firm 56 3
  go_loopg [3, 4] n (fun f v i wr => ∃ (j : Nat) (ts : List Tkn), j + f = n ∧ i = .int .i64 j ∧ Mem (StaysB g w0) g w0 wr ⟨0, 0⟩ (slc w0.heap.size 56 3 tknF v ts :: []) ∧ Hid (ts = (ls.take j).flatten))
  case atStart => exact ⟨0, [], by omega, rfl, M, Lib.hid rfl⟩
  case round =>
    clear M
    obtain ⟨i, ts, hi, rfl, M, HT⟩ := hrel
    by_cases hlt : i < n
    · have hil : i < ls.length := by have := N.out; omega
      obtain ⟨ci, oi, rowi, hixi, -, hrri, hwi⟩ := SlF.rowAt (P := Tryd.prog) HX.out tksF_firm Tryd.underlying83 size_tks (i := i) hil
      obtain ⟨ka, kn, kc, ek, hK⟩ := hrri
      subst ek
      have HKI := Lib.hid (fun wx hb => (hwi wx hb).1 0 _ rfl)
      have hkle := hK.le
      have HFS := Lib.hid (flat_succ hil)
      have HFL : Hid (∀ k, ((ls.take i).flatten ++ (ls[i]'hil).take k).length ≤ 100000) := fun k => Nat.le_trans (flat_le hil) HB.out
      clear hwi
      generalize (ls[i]'hil) = l at hK HFS HFL
      have HKN := Lib.hid hK.len
      have HK := Lib.hid hK
      clear hK hil
      go_wp2_with (first | (with_reducible (first | refine wq M ?_ | (refine wS M ?_; clear M; intro w M) | (refine wV M ?_; clear M; intro z w M) | (refine wR M ?_; clear M; intro q w M))))
      go_loopg [3, 5] kn (fun f v k wr => ∃ (j : Nat) (us : List Tkn), j + f = kn ∧ k = .int .i64 j ∧ Mem (StaysB g w0) g w0 wr ⟨0, 0⟩ (slc w0.heap.size 56 3 tknF v us :: []) ∧ Hid (us = (ls.take i).flatten ++ l.take j))
      case atStart => exact ⟨0, ts, by omega, rfl, M, Lib.hid (by rw [HT.out]; simp)⟩
      case round =>
        clear M HT
        obtain ⟨k, us, hk, rfl, M, HU⟩ := hrel
        by_cases hlk : k < kn
        · have hkl : k < l.length := by have := HKN.out; omega
          obtain ⟨ck, ok, rowk, hixk, -, hrrk, hwk⟩ := SlF.rowAt (P := Tryd.prog) HK.out tknF_firm Tryd.underlying26 size_tkn (i := k) hkl
          have er : rowk = tknC l[k] := hrrk
          subst er
          have HR := Lib.hid (fun wx hb => (hwk wx hb).1)
          have HLN : Hid (us.length ≤ 100000) := by show _ ≤ _; rw [HU.out]; exact HFL.out k
          have HUS : Hid (us ++ [l[k]] = (ls.take i).flatten ++ l.take (k + 1)) := by show _ = _; rw [HU.out, List.append_assoc, List.take_add_one, List.getElem?_eq_getElem hkl]; rfl
          unfold tknC at HR
          clear hwk hrrk HU
          generalize l[k] = t at HR HUS
          clear hkl
          go_wp2_with (first | (first | (with_reducible (first | refine wq M ?_ | (refine wS M ?_; clear M; intro w M) | (refine wV M ?_; clear M; intro z w M) | (refine wR M ?_; clear M; intro q w M) | refine wC (HKI.out _ M.new) ?_ | refine wA (HR.out _ M.new) ?_)) | (refine w_ (q_app (R := tknF) tknF_firm M 1 rfl t rfl (by rfl) (by rfl) HLN.out ?_); clear M; intro ra2 rc2 w M; (try simp only [List.set_cons_zero, List.set_cons_succ, laid, opdC, List.take_succ_cons, List.take_zero, List.drop_succ_cons, List.drop_zero, List.length_cons, List.length_nil, List.cons_append, List.nil_append, Nat.reduceAdd, Nat.zero_add] at M))))
          go_roundg (kn - (k + 1))
          case measure => omega
          case rel => exact ⟨k + 1, _, by omega, by go_num, M.drop, HUS⟩
        · have HUE : Hid (us = (ls.take (i + 1)).flatten) := by
            show _ = _
            rw [HU.out, HFS.out, List.take_of_length_le (l := l) (by have := HKN.out; omega)]
          clear HU
          go_wp2_with (first | (with_reducible (first | refine wq M ?_ | (refine wS M ?_; clear M; intro w M) | (refine wV M ?_; clear M; intro z w M) | (refine wR M ?_; clear M; intro q w M) | refine wC (HKI.out _ M.new) ?_)))
          go_roundg (n - (i + 1))
          case measure => omega
          case rel => exact ⟨i + 1, _, by omega, by go_num, M, HUE⟩
    · have e : ts = ls.flatten := by rw [HT.out, List.take_of_length_le (by have := N.out; omega)]
      subst e
      go_wp2_with (first | (with_reducible (first | refine wq M ?_ | (refine wS M ?_; clear M; intro w M) | (refine wV M ?_; clear M; intro z w M) | (refine wR M ?_; clear M; intro q w M))))
      go_ret
      exact M.tke (i := 0) rfl
end
section
variable {At : PS → World → Prop} {b : Nat} {u w : World} {s : PS} {L : List Ent}
/-- Where the tokens of a slice stand in the list. -/
class TkI (v : Value) (L : List Ent) (ts : outParam (List Tkn)) : Prop where
  at_ : ∃ a n c, v = Value.slice a n c ∧ tkd a n c ts ∈ L
instance tki_here {a : Option Addr} {n c : Nat} {ts : List Tkn} : TkI (.slice a n c) (tkd a n c ts :: L) ts := ⟨⟨a, n, c, rfl, List.mem_cons_self ..⟩⟩
instance (priority := 100) tki_next {v : Value} {e : Ent} {ts : List Tkn} [h : TkI v L ts] : TkI v (e :: L) ts := ⟨by obtain ⟨a, n, c, h1, h2⟩ := h.at_; exact ⟨a, n, c, h1, List.mem_cons_of_mem _ h2⟩⟩
theorem Mem.tkc {q t : Nat} {vs : List Value} {tss : List (List Tkn)} (A : List Ent) {K : List Ent} (M : Mem At b u w s (own q vs t :: (A ++ K))) (hl : vs.length = tss.length) (hv : ∀ (i : Nat) (v : Value) (ts : List Tkn), vs[i]? = some v → tss[i]? = some ts → ∃ a n c, v = Value.slice a n c ∧ tkd a n c ts ∈ A ++ K) (hb : tss.flatten.length ≤ 100000) (hlb : vs.length ≤ 100) :
    Calls Tryd.prog 11 #[.slice (some ⟨q, 0, none⟩) vs.length vs.length] w (TkQ At b u s K tss.flatten) := by
  have hq := M.own_ (List.mem_cons_self ..)
  have X : SlF (fun _ => True) w 1 tksF (some ⟨q, 0, none⟩) vs.length vs.length tss := by
    refine ⟨hl, Nat.le_refl _, by unfold maxLen; omega, fun h => by simp at h, fun i hi => ?_⟩
    have hi2 : i < vs.length := by omega
    obtain ⟨a, n, c, h1, h2⟩ := hv i vs[i] tss[i] (List.getElem?_eq_getElem hi2) (List.getElem?_eq_getElem hi)
    refine ⟨q, 0, [vs[i]], rfl, trivial, hq.lt, ⟨rfl, fun j hj => ?_⟩, a, n, c, by rw [h1], (M.say _ (List.mem_cons_of_mem _ h2) : SlF _ w 3 tknF a n c _).wide tknF_firm fun _ _ _ => trivial⟩
    have e : j = 0 := by omega
    subst e
    rw [Nat.mul_one, Nat.add_zero, Nat.zero_add, hq.cell]
    simp [List.getElem?_eq_getElem hi2]
  have hg : b < w.heap.size := Nat.lt_of_lt_of_le M.lt M.size
  have M2 : Mem At b u w s K := by
    have M1 := M.drop
    clear hv X hq M hl hb hlb
    induction A with
    | nil => exact M1
    | cons e A ih => exact ih M1.drop
  exact (tokens_any hg X hb).mono fun e w' h => M2.tkq h
theorem tk2 {q t : Nat} {v1 v2 : Value} {x1 x2 : Ent} {t1 t2 : List Tkn} {K : List Ent} [h1 : TkI v1 (x1 :: x2 :: K) t1] [h2 : TkI v2 (x1 :: x2 :: K) t2] (hb : (t1 ++ t2).length ≤ 100000) (M : Mem At b u w s (own q [v1, v2] t :: x1 :: x2 :: K)) :
    Calls Tryd.prog 11 #[.slice (some ⟨q, 0, none⟩) 2 2] w (TkQ At b u s K (t1 ++ t2)) := by
  have := Mem.tkc (tss := [t1, t2]) [x1, x2] M rfl (fun i v ts a c => by
    rcases i with _ | _ | i
    · injection a with a; injection c with c; subst a c; exact h1.at_
    · injection a with a; injection c with c; subst a c; exact h2.at_
    · cases a) (by simpa using hb) (by simp)
  simpa using this
end
def SpI (s : ByteArray) (j fr : Nat) (ts : List Tkn) : Prop := (j ≤ s.size ∧ fr ≤ j ∧ ts.length ≤ j ∧ ts ++ (wordsB ((s.data.toList.take j).drop fr) (s.data.toList.drop j)).map wordL = spokL s) ∨ (j = s.size + 1 ∧ ts = spokL s)
theorem ba_size (s : ByteArray) : s.data.toList.length = s.size := by simp
theorem ba_at {s : ByteArray} {j : Nat} (h : j < s.size) : s.data.toList[j]'(by rw [ba_size]; exact h) = s[j] := rfl
theorem words_step {cur l : List UInt8} {b : UInt8} (h : b ≠ 32) : wordsB cur (b :: l) = wordsB (cur ++ [b]) l := by rw [wordsB, if_neg h]
theorem words_stop {cur l : List UInt8} {b : UInt8} (h : b = 32) : wordsB cur (b :: l) = if cur = [] then wordsB [] l else cur :: wordsB [] l := by rw [wordsB, if_pos h]
theorem words_end {cur : List UInt8} : wordsB cur [] = if cur = [] then [] else [cur] := by rw [wordsB]
theorem take_nil {l : List UInt8} {j : Nat} : (l.take j).drop j = [] := List.drop_eq_nil_of_le (by rw [List.length_take]; omega)
theorem word_cut (s : ByteArray) (fr j : Nat) (h : fr ≤ j) : wordL ((s.data.toList.take j).drop fr) = wordT (s.extract fr j) := by
  have e : (s.extract fr j).data.toList = (s.data.toList.take j).drop fr := by rw [Lib.extract_data, List.drop_take]
  rw [← wordL_data, e]
theorem spI_start (s : ByteArray) : SpI s 0 0 [] := .inl ⟨Nat.zero_le _, Nat.le_refl _, Nat.le_refl _, by simp [spokL]⟩
theorem cur_snoc {l : List UInt8} {fr j : Nat} (h : fr ≤ j) (hj : j < l.length) : (l.take (j + 1)).drop fr = (l.take j).drop fr ++ [l[j]] := by
  rw [List.take_add_one, List.getElem?_eq_getElem hj, List.drop_append_of_le_length (by rw [List.length_take]; omega)]
  rfl
theorem spI_on {s : ByteArray} {j fr : Nat} {ts : List Tkn} (h : SpI s j fr ts) (hj : j < s.size) (hb : s[j] ≠ 32) : SpI s (j + 1) fr ts := by
  rcases h with ⟨h1, h2, h3, h4⟩ | ⟨h1, -⟩
  · refine .inl ⟨hj, by omega, by omega, ?_⟩
    have hj2 : j < s.data.toList.length := by rw [ba_size]; exact hj
    rw [← h4, cur_snoc h2 hj2]
    rw [List.drop_eq_getElem_cons hj2, words_step (by rw [ba_at hj]; exact hb)]
  · omega
theorem spI_cut {s : ByteArray} {j fr : Nat} {ts : List Tkn} (h : SpI s j fr ts) (hj : j < s.size) (hb : s[j] = 32) : (fr < j → SpI s (j + 1) (j + 1) (ts ++ [wordT (s.extract fr j)])) ∧ (fr = j → SpI s (j + 1) (j + 1) ts) := by
  rcases h with ⟨h1, h2, h3, h4⟩ | ⟨h1, -⟩
  · have hj2 : j < s.data.toList.length := by rw [ba_size]; exact hj
    have e0 : (s.data.toList.take (j + 1)).drop (j + 1) = [] := List.drop_eq_nil_of_le (by rw [List.length_take]; omega)
    rw [List.drop_eq_getElem_cons hj2, words_stop (by rw [ba_at hj]; exact hb)] at h4
    refine ⟨fun hf => .inl ⟨hj, Nat.le_refl _, by simp; omega, ?_⟩, fun hf => .inl ⟨hj, Nat.le_refl _, by omega, ?_⟩⟩
    · have hne : (s.data.toList.take j).drop fr ≠ [] := fun e => by
        have := congrArg List.length e
        simp at this
        omega
      rw [if_neg hne, List.map_cons, word_cut s fr j h2] at h4
      rw [e0, ← h4]
      simp
    · subst hf
      rw [if_pos take_nil] at h4
      rw [e0, h4]
  · omega
theorem spI_end {s : ByteArray} {j fr : Nat} {ts : List Tkn} (h : SpI s j fr ts) (hj : j = s.size) : (fr < j → SpI s (j + 1) (j + 1) (ts ++ [wordT (s.extract fr j)])) ∧ (fr = j → SpI s (j + 1) (j + 1) ts) := by
  rcases h with ⟨h1, h2, h3, h4⟩ | ⟨h1, -⟩
  · rw [show s.data.toList.drop j = [] from List.drop_eq_nil_of_le (by rw [ba_size]; omega), words_end] at h4
    refine ⟨fun hf => .inr ⟨by omega, ?_⟩, fun hf => .inr ⟨by omega, ?_⟩⟩
    · have hne : (s.data.toList.take j).drop fr ≠ [] := fun e => by
        have := congrArg List.length e
        simp at this
        omega
      rw [if_neg hne, List.map_cons, word_cut s fr j h2] at h4
      rw [← h4]
      simp
    · subst hf
      rw [if_pos take_nil] at h4
      rw [← h4]
      simp
  · omega
theorem low_cut {s : ByteArray} {fr j : Nat} (h : fr < j) (hj : j ≤ s.size) : wordT (s.extract fr j) = ⟨if inB ((s[fr]'(by omega)).toNat : Int) 97 122 = true then 1 else 4, s.extract fr j, 0⟩ := by
  unfold wordT lowB inB
  have e : (s.extract fr j).data.toList.headD 0 = s[fr]'(by omega) := by
    rw [Lib.extract_data, List.headD_eq_head?_getD, List.head?_eq_getElem?, List.getElem?_take_of_lt (by omega), List.getElem?_drop, Nat.add_zero]
    rw [List.getElem?_eq_getElem (by rw [ba_size]; omega)]
    rfl
  rw [e]
  by_cases h1 : 97 ≤ (s[fr]'(by omega)).toNat ∧ (s[fr]'(by omega)).toNat ≤ 122
  · rw [if_pos (by simpa using h1), if_pos (by simp; omega)]
  · rw [if_neg (by simpa using h1), if_neg (by simp; omega)]
section
variable {g : Nat} {w0 : World}
theorem small_any (c : Int) (h0 : 0 ≤ c) (h : c < 256) (w : World) : Calls Tryd.prog 27 #[.int .u8 c] w fun e w' => e = .returned (.bool (inB c 97 122)) ∧ w' = w := by
  go_enter Tryd.func27, Tryd.ntmps27
  go_wp2_with (go_at_call 45; refine (in_any _ _ _ _).mono ?_; rintro e w' ⟨rfl, rfl⟩)
  go_ret
  exact ⟨rfl, rfl⟩
set_option maxRecDepth 8000 in
set_option maxHeartbeats 8000000 in
theorem spoken_any (hg : g < w0.heap.size) (s : ByteArray) (hs : s.size ≤ 1000) : Calls Tryd.prog 12 #[.string s] w0 (TkP w0 (spokL s)) := by
  have M := Mem.begin hg ⟨0, 0⟩
  clear hg
  go_enter Tryd.func12, Tryd.ntmps12
  go_wp2_with (first | (with_reducible (first | refine wq M ?_ | (refine wS M ?_; clear M; intro w M) | (refine wV M ?_; clear M; intro z w M) | (refine wR M ?_; clear M; intro q w M))))
  replace M := M.none_ (R := tknF) tknF_firm 56 3
  go_loopg [3, 4, 5] (s.size + 1) (fun f v fv i wr => ∃ (j fr : Nat) (ts : List Tkn), j + f = s.size + 1 ∧ fv = .int .i64 fr ∧ i = .int .i64 j ∧ Mem (StaysB g w0) g w0 wr ⟨0, 0⟩ (slc w0.heap.size 56 3 tknF v ts :: []) ∧ Hid (SpI s j fr ts))
  case atStart => exact ⟨0, 0, [], by omega, rfl, rfl, M, Lib.hid (spI_start s)⟩
  case round =>
    clear M
    obtain ⟨j, fr, ts, hj, rfl, rfl, M, HT⟩ := hrel
    by_cases hle : j ≤ s.size
    · obtain ⟨hfr, htl⟩ : fr ≤ j ∧ ts.length ≤ j := by
        rcases HT.out with h | h
        · exact ⟨h.2.1, h.2.2.1⟩
        · omega
      have HLN : Hid (ts.length ≤ 100000) := by show _ ≤ _; omega
      by_cases hlt : j < s.size
      · by_cases hb : s[j] = 32
        · obtain ⟨c1, c2⟩ := spI_cut HT.out hlt hb
          have hq : ((s[j].toNat : Int) != 32) = false := by rw [hb]; rfl
          clear hb HT
          by_cases hf : fr < j
          · have HN := Lib.hid (c1 hf)
            have hw := low_cut hf hle
            have hc : ((s[fr]'(by omega)).toNat : Int) < 256 := by have := (s[fr]'(by omega)).toNat_lt; omega
            clear c1 c2
            by_cases hl : inB ((s[fr]'(by omega)).toNat : Int) 97 122 = true
            · have hl := hl
              have HL : Hid (∀ wx, Calls Tryd.prog 27 #[.int .u8 ((s[fr]'(by omega)).toNat : Int)] wx fun e w' => e = .returned (.bool true) ∧ w' = wx) := fun wx => by rw [← hl]; exact small_any _ (by omega) (by omega) _
              rw [hl, if_pos rfl] at hw
              rw [hw] at HN
              clear hl hw
              go_wp2_with (first | (first | (with_reducible (first | refine wq M ?_ | (refine wS M ?_; clear M; intro w M) | (refine wV M ?_; clear M; intro z w M) | (refine wR M ?_; clear M; intro q w M))) | (refine w_ (q_app (R := tknF) tknF_firm M 1 rfl ⟨1, s.extract fr j, 0⟩ rfl (by rfl) (by rfl) HLN.out ?_); clear M; intro ra2 rc2 w M; (try simp only [List.set_cons_zero, List.set_cons_succ, laid, opdC, List.take_succ_cons, List.take_zero, List.drop_succ_cons, List.drop_zero, List.length_cons, List.length_nil, List.cons_append, List.nil_append, Nat.reduceAdd, Nat.zero_add] at M))) | (go_at_call 27; refine (HL.out _).mono ?_; rintro e w' ⟨rfl, rfl⟩))
              go_roundg (s.size + 1 - (j + 1))
              case measure => omega
              case rel => exact ⟨j + 1, j + 1, _, by omega, by go_num, by go_num, M.drop, HN⟩
            · have hl : inB ((s[fr]'(by omega)).toNat : Int) 97 122 = false := by simpa using hl
              have HL : Hid (∀ wx, Calls Tryd.prog 27 #[.int .u8 ((s[fr]'(by omega)).toNat : Int)] wx fun e w' => e = .returned (.bool false) ∧ w' = wx) := fun wx => by rw [← hl]; exact small_any _ (by omega) (by omega) _
              rw [hl, if_neg (by decide)] at hw
              rw [hw] at HN
              clear hl hw
              go_wp2_with (first | (first | (with_reducible (first | refine wq M ?_ | (refine wS M ?_; clear M; intro w M) | (refine wV M ?_; clear M; intro z w M) | (refine wR M ?_; clear M; intro q w M))) | (refine w_ (q_app (R := tknF) tknF_firm M 1 rfl ⟨4, s.extract fr j, 0⟩ rfl (by rfl) (by rfl) HLN.out ?_); clear M; intro ra2 rc2 w M; (try simp only [List.set_cons_zero, List.set_cons_succ, laid, opdC, List.take_succ_cons, List.take_zero, List.drop_succ_cons, List.drop_zero, List.length_cons, List.length_nil, List.cons_append, List.nil_append, Nat.reduceAdd, Nat.zero_add] at M))) | (go_at_call 27; refine (HL.out _).mono ?_; rintro e w' ⟨rfl, rfl⟩))
              go_roundg (s.size + 1 - (j + 1))
              case measure => omega
              case rel => exact ⟨j + 1, j + 1, _, by omega, by go_num, by go_num, M.drop, HN⟩
          · have HN := Lib.hid (c2 (by omega))
            clear c1 c2
            go_wp2_with (first | (with_reducible (first | refine wq M ?_ | (refine wS M ?_; clear M; intro w M) | (refine wV M ?_; clear M; intro z w M) | (refine wR M ?_; clear M; intro q w M))))
            go_roundg (s.size + 1 - (j + 1))
            case measure => omega
            case rel => exact ⟨j + 1, j + 1, ts, by omega, by go_num, by go_num, M, HN⟩
        · have HN := Lib.hid (spI_on HT.out hlt hb)
          have hq : ((s[j].toNat : Int) != 32) = true := by
            rw [bne_iff_ne]
            intro e
            exact hb (UInt8.toNat_inj.1 (by rw [show (32 : UInt8).toNat = 32 from rfl]; omega))
          clear hb HT
          go_wp2_with (first | (with_reducible (first | refine wq M ?_ | (refine wS M ?_; clear M; intro w M) | (refine wV M ?_; clear M; intro z w M) | (refine wR M ?_; clear M; intro q w M))))
          go_roundg (s.size + 1 - (j + 1))
          case measure => omega
          case rel => exact ⟨j + 1, fr, ts, by omega, rfl, by go_num, M, HN⟩
      · obtain ⟨c1, c2⟩ := spI_end HT.out (by omega)
        clear HT
        by_cases hf : fr < j
        · have HN := Lib.hid (c1 hf)
          have hw := low_cut hf hle
          have hc : ((s[fr]'(by omega)).toNat : Int) < 256 := by have := (s[fr]'(by omega)).toNat_lt; omega
          clear c1 c2
          by_cases hl : inB ((s[fr]'(by omega)).toNat : Int) 97 122 = true
          · have hl := hl
            have HL : Hid (∀ wx, Calls Tryd.prog 27 #[.int .u8 ((s[fr]'(by omega)).toNat : Int)] wx fun e w' => e = .returned (.bool true) ∧ w' = wx) := fun wx => by rw [← hl]; exact small_any _ (by omega) (by omega) _
            rw [hl, if_pos rfl] at hw
            rw [hw] at HN
            clear hl hw
            go_wp2_with (first | (first | (with_reducible (first | refine wq M ?_ | (refine wS M ?_; clear M; intro w M) | (refine wV M ?_; clear M; intro z w M) | (refine wR M ?_; clear M; intro q w M))) | (refine w_ (q_app (R := tknF) tknF_firm M 1 rfl ⟨1, s.extract fr j, 0⟩ rfl (by rfl) (by rfl) HLN.out ?_); clear M; intro ra2 rc2 w M; (try simp only [List.set_cons_zero, List.set_cons_succ, laid, opdC, List.take_succ_cons, List.take_zero, List.drop_succ_cons, List.drop_zero, List.length_cons, List.length_nil, List.cons_append, List.nil_append, Nat.reduceAdd, Nat.zero_add] at M))) | (go_at_call 27; refine (HL.out _).mono ?_; rintro e w' ⟨rfl, rfl⟩))
            go_roundg (s.size + 1 - (j + 1))
            case measure => omega
            case rel => exact ⟨j + 1, j + 1, _, by omega, by go_num, by go_num, M.drop, HN⟩
          · have hl : inB ((s[fr]'(by omega)).toNat : Int) 97 122 = false := by simpa using hl
            have HL : Hid (∀ wx, Calls Tryd.prog 27 #[.int .u8 ((s[fr]'(by omega)).toNat : Int)] wx fun e w' => e = .returned (.bool false) ∧ w' = wx) := fun wx => by rw [← hl]; exact small_any _ (by omega) (by omega) _
            rw [hl, if_neg (by decide)] at hw
            rw [hw] at HN
            clear hl hw
            go_wp2_with (first | (first | (with_reducible (first | refine wq M ?_ | (refine wS M ?_; clear M; intro w M) | (refine wV M ?_; clear M; intro z w M) | (refine wR M ?_; clear M; intro q w M))) | (refine w_ (q_app (R := tknF) tknF_firm M 1 rfl ⟨4, s.extract fr j, 0⟩ rfl (by rfl) (by rfl) HLN.out ?_); clear M; intro ra2 rc2 w M; (try simp only [List.set_cons_zero, List.set_cons_succ, laid, opdC, List.take_succ_cons, List.take_zero, List.drop_succ_cons, List.drop_zero, List.length_cons, List.length_nil, List.cons_append, List.nil_append, Nat.reduceAdd, Nat.zero_add] at M))) | (go_at_call 27; refine (HL.out _).mono ?_; rintro e w' ⟨rfl, rfl⟩))
            go_roundg (s.size + 1 - (j + 1))
            case measure => omega
            case rel => exact ⟨j + 1, j + 1, _, by omega, by go_num, by go_num, M.drop, HN⟩
        · have HN := Lib.hid (c2 (by omega))
          clear c1 c2
          go_wp2_with (first | (with_reducible (first | refine wq M ?_ | (refine wS M ?_; clear M; intro w M) | (refine wV M ?_; clear M; intro z w M) | (refine wR M ?_; clear M; intro q w M))))
          go_roundg (s.size + 1 - (j + 1))
          case measure => omega
          case rel => exact ⟨j + 1, j + 1, ts, by omega, by go_num, by go_num, M, HN⟩
    · have e : ts = spokL s := by
        rcases HT.out with h | h
        · omega
        · exact h.2
      subst e
      clear HT
      go_wp2_with (first | (with_reducible (first | refine wq M ?_ | (refine wS M ?_; clear M; intro w M) | (refine wV M ?_; clear M; intro z w M) | (refine wR M ?_; clear M; intro q w M))))
      go_ret
      exact M.tke (i := 0) rfl
/-- A text's words, known. -/
theorem spk {s : ByteArray} {ts : List Tkn} (h : spokL s = ts) (hs : s.size ≤ 1000) (hg : g < w0.heap.size) : Calls Tryd.prog 12 #[.string s] w0 (TkP w0 ts) := h ▸ spoken_any hg s hs
theorem TkP.len {w w' : World} {ts : List Tkn} {e : Ending} (h : TkP w ts e w') : True := trivial
set_option maxRecDepth 8000 in
set_option maxHeartbeats 8000000 in
theorem numeral_pos (hg : g < w0.heap.size) (n : Int) (hn : 0 ≤ n) : Calls Tryd.prog 29 #[.int .i64 n] w0 (TkP w0 [⟨2, ByteArray.empty, n⟩]) := by
  have M := Mem.begin hg ⟨0, 0⟩
  have hc : decide (n < 0) = false := by simpa using hn
  clear hg
  go_enter Tryd.func29, Tryd.ntmps29
  go_wp2_with (first | (with_reducible (first | refine wq M ?_ | (refine wS M ?_; clear M; intro w M) | (refine wV M ?_; clear M; intro z w M) | (refine wR M ?_; clear M; intro q w M))))
  go_ret
  have M2 := M.one (R := tknF) tknF_firm (k := 3) (by omega) (by omega) (⟨2, ByteArray.empty, n⟩ : Tkn) rfl rfl
  exact M2.tke (i := 0) rfl
set_option maxRecDepth 8000 in
set_option maxHeartbeats 8000000 in
theorem numeral_any (hg : g < w0.heap.size) (n : Int) (hn : -4611686018427387904 ≤ n ∧ n ≤ 4611686018427387904) : Calls Tryd.prog 29 #[.int .i64 n] w0 (TkP w0 (shNum n)) := by
  unfold shNum
  by_cases h : n < 0
  · rw [if_pos h]
    have M := Mem.begin hg ⟨0, 0⟩
    have HS : Hid (∀ wx, g < wx.heap.size → Calls Tryd.prog 12 #[.string ⟨#[45]⟩] wx (TkP wx [wordT ⟨#[45]⟩])) := fun wx h => spk rfl (by decide) h
    have HN : Hid (∀ wx, g < wx.heap.size → Calls Tryd.prog 29 #[.int .i64 (-n)] wx (TkP wx [⟨2, ByteArray.empty, -n⟩])) := fun wx h => numeral_pos h _ (by omega)
    have hwn : IntKind.i64.wrap (-n) = -n := IntWalk.i64_in _ (by omega)
    have hcb : decide (n < 0) = true := by simpa using h
    have hb2 : Hid (([wordT ⟨#[45]⟩] ++ [⟨2, ByteArray.empty, -n⟩] : List Tkn).length ≤ 100000) := Lib.hid (by simp)
    clear hg hn h
    go_enter Tryd.func29, Tryd.ntmps29
    go_wp2_with (first | (go_at_call 12; with_reducible refine (HS.out _ M.gt).mono ?_; rintro e w5 h5; obtain ⟨a1, n1, c1, rfl, M⟩ := M.tkq h5; clear h5) | (go_at_call 29; with_reducible refine (HN.out _ M.gt).mono ?_; rintro e w6 h6; obtain ⟨a2, n2, c2, rfl, M⟩ := M.tkq h6; clear h6) | (go_at_call 11; with_reducible refine (tk2 hb2.out M).mono ?_; rintro e w7 ⟨a, n, c, rfl, M⟩) | (with_reducible (first | (refine w_ (q_rowv2 M ?_); clear M; intro q w M) | refine wq M ?_ | (refine wS M ?_; clear M; intro w M) | (refine wV M ?_; clear M; intro z w M) | (refine wR M ?_; clear M; intro q w M))))
    go_ret
    exact M.tkp
  · rw [if_neg h]
    exact numeral_pos hg n (by omega)
end
end Go.Proofs.YtcebfkdhicbmkaaDoor
