/-
  Pieces of what is shown, as tokens, one behind the other (the reference): steps; operands.
-/
import Derived.Test.YtcebfkdhicbmkaaDoorShA
import Derived.Test.YtcebfkdhicbmkaaDoorShX
import Derived.Test.YtcebfkdhicbmkaaDoorMmR
import Derived.Test.YtcebfkdhicbmkaaDoorShZR
import Derived.Test.YtcebfkdhicbmkaaDoorPgA
namespace Go.Proofs.YtcebfkdhicbmkaaDoor
open Go.RowKit
set_option linter.unusedVariables false
set_option linter.unusedSimpArgs false

/-- Texts whose words are known; numbers that are small. -/
class SpkI (s : ByteArray) (ts : outParam (List Tkn)) : Prop where
  eq : spokL s = ts
  few : s.size ≤ 1000
class NumI (n : Int) : Prop where
  le : -4611686018427387904 ≤ n ∧ n ≤ 4611686018427387904
theorem words_mid (pre n : List UInt8) (post : List UInt8) : wordsB [] (pre ++ 32 :: (n ++ 32 :: post)) = wordsB [] pre ++ (wordsB [] n ++ wordsB [] post) := by rw [words_blank, words_blank]
theorem spokL_mk (l : List UInt8) : spokL ⟨l.toArray⟩ = (wordsB [] l).map wordL := rfl
theorem spk3 (pre post : List UInt8) (n : ByteArray) : spokL (⟨(pre ++ [32]).toArray⟩ ++ n ++ ⟨(32 :: post).toArray⟩) = spokL ⟨pre.toArray⟩ ++ spokL n ++ spokL ⟨post.toArray⟩ := by
  rw [spokL_mk, spokL_mk]
  unfold spokL
  simp only [ByteArray.data_append, Array.toList_append]
  rw [show pre ++ [32] ++ n.data.toList ++ 32 :: post = pre ++ 32 :: (n.data.toList ++ 32 :: post) by simp, words_mid]
  simp
theorem spkl (pre : List UInt8) (n : ByteArray) : spokL (⟨(pre ++ [32]).toArray⟩ ++ n) = spokL ⟨pre.toArray⟩ ++ spokL n := by
  rw [spokL_mk]
  unfold spokL
  simp only [ByteArray.data_append, Array.toList_append]
  rw [show pre ++ [32] ++ n.data.toList = pre ++ 32 :: n.data.toList by simp, words_blank]
  simp
theorem spkr (n : ByteArray) (post : List UInt8) : spokL (n ++ ⟨(32 :: post).toArray⟩) = spokL n ++ spokL ⟨post.toArray⟩ := by
  rw [spokL_mk]
  unfold spokL
  simp only [ByteArray.data_append, Array.toList_append]
  rw [words_blank]
  simp
theorem spkm (a : ByteArray) (mid : List UInt8) (n : ByteArray) : spokL (a ++ ⟨(32 :: (mid ++ [32])).toArray⟩ ++ n) = spokL a ++ spokL ⟨mid.toArray⟩ ++ spokL n := by
  rw [spokL_mk]
  unfold spokL
  simp only [ByteArray.data_append, Array.toList_append]
  rw [show a.data.toList ++ (32 :: (mid ++ [32])) ++ n.data.toList = a.data.toList ++ 32 :: (mid ++ 32 :: n.data.toList) by simp, words_mid]
  simp
theorem spk_nm {s : ByteArray} (h : Nm s) : SpkI s [wordT s] := ⟨spok_one h, by have := h.few; omega⟩
theorem sz_app {a b : ByteArray} {n m : Nat} (h : a.size ≤ n) (k : b.size ≤ m) : (a ++ b).size ≤ n + m := by rw [ByteArray.size_append]; omega
section
variable {g : Nat} {u w : World} {s : PS} {L K : List Ent}
theorem spkI {t : ByteArray} {ts : List Tkn} [h : SpkI t ts] (M : Mem (StaysB g u) g u w s L) : Calls Tryd.prog 12 #[.string t] w (TkQ (StaysB g u) g u s L ts) := (spk h.eq h.few M.gt).mono fun _ _ k => M.tkq k
theorem numI {n : Int} [h : NumI n] (M : Mem (StaysB g u) g u w s L) : Calls Tryd.prog 29 #[.int .i64 n] w (TkQ (StaysB g u) g u s L (shNum n)) := (numeral_any M.gt n h.le).mono fun _ _ k => M.tkq k
/-- The lists of tokens that a list of slices holds. -/
class TksI (vs : List Value) (L : List Ent) (tss : outParam (List (List Tkn))) : Prop where
  len : vs.length = tss.length
  at_ : ∀ (i : Nat) (v : Value) (ts : List Tkn), vs[i]? = some v → tss[i]? = some ts → ∃ a n c, v = Value.slice a n c ∧ tkd a n c ts ∈ L
instance {L : List Ent} : TksI [] L [] := ⟨rfl, fun i v ts h _ => by simp at h⟩
instance {v : Value} {vs : List Value} {L : List Ent} {ts : List Tkn} {tss : List (List Tkn)} [h : TkI v L ts] [k : TksI vs L tss] : TksI (v :: vs) L (ts :: tss) := ⟨by rw [List.length_cons, List.length_cons, k.len], fun i w us a c => by
  cases i with
  | zero => injection a with a; injection c with c; subst a c; exact h.at_
  | succ i => exact k.at_ i w us (by simpa using a) (by simpa using c)⟩
/-- As many entries are left behind as the list of slices is long. -/
class CutV (vs : List Value) (L : List Ent) (K : outParam (List Ent)) : Prop where
  cut : ∃ A, L = A ++ K
instance {L : List Ent} : CutV [] L L := ⟨[], rfl⟩
instance {v : Value} {vs : List Value} {e : Ent} {L K : List Ent} [h : CutV vs L K] : CutV (v :: vs) (e :: L) K := ⟨h.cut.elim fun A h => ⟨e :: A, by rw [h]; rfl⟩⟩
theorem tkn {q t n : Nat} {vs : List Value} {tss : List (List Tkn)} [h : TksI vs L tss] [c : CutV vs L K] [hn : LenI vs n] (hb : tss.flatten.length ≤ 100000 ∧ n ≤ 100) (M : Mem (StaysB g u) g u w s (own q vs t :: L)) : Calls Tryd.prog 11 #[.slice (some ⟨q, 0, none⟩) n n] w (TkQ (StaysB g u) g u s K tss.flatten) := by
  obtain ⟨A, hA⟩ := c.cut
  subst hA
  have := hn.len
  subst this
  exact M.tkc A h.len h.at_ hb.1 hb.2
end
section
variable {P : Program} {dst : Option Tmp} {oty : TypeId} {pos : String} {after : Array Edge} {gu : Option (Nat × Bool)} {l : List Value} {ds : List Deferred} {Q : Exit → Act → World → Prop} {K : Act → World → Prop}
variable {At : PS → World → Prop} {b : Nat} {u w : World} {s : PS} {L : List Ent} {ty e n : Nat}
class SmI (n : Nat) : Prop where
  le : n ≤ 100
instance : SmI 1 := ⟨by decide⟩
instance : SmI 2 := ⟨by decide⟩
instance : SmI 3 := ⟨by decide⟩
instance : SmI 4 := ⟨by decide⟩
instance : SmI 5 := ⟨by decide⟩
instance : SmI 6 := ⟨by decide⟩
instance : SmI 7 := ⟨by decide⟩
instance : SmI 8 := ⟨by decide⟩
class RowsJ (l : List Value) (k : Nat) (xs : List (Nat × Operand)) (vs : outParam (List Value)) : Prop where
  ev : ∃ ys : List Operand, (ys.zipIdx k).map (fun x => (x.2, x.1)) = xs ∧ ∀ ds, ys.map (Act.eval ⟨l.toArray, ds⟩) = vs
  one : ∀ v ∈ vs, v.cells = #[v]
instance {l : List Value} {k : Nat} : RowsJ l k [] [] := ⟨⟨[], rfl, fun _ => rfl⟩, fun v h => by cases h⟩
instance {l : List Value} {k : Nat} {y : Operand} {v : Value} {xs : List (Nat × Operand)} {vs : List Value} [h : EvI l y v] [c : OneC v] [r : RowsJ l (k + 1) xs vs] : RowsJ l k ((k, y) :: xs) (v :: vs) :=
  ⟨r.ev.elim fun ys h' => ⟨y :: ys, by rw [List.zipIdx_cons, List.map_cons, h'.1], fun ds => by rw [List.map_cons, h.ev, h'.2]⟩, fun x hx => by
    rcases List.mem_cons.1 hx with rfl | hx
    · exact cells_one1 c.one
    · exact r.one x hx⟩
theorem q_rows {x : Nat × Operand} {xs : List (Nat × Operand)} {v : Value} {vs : List Value} (M : Mem At b u w s L) [r : RowsJ l 0 (x :: xs) (v :: vs)] [hn : LenI (v :: vs) n] [hT : RowI P ty e 1] {F : Nat → List Value} [hd : ∀ q, PutI l dst (.slice (some ⟨q, 0, none⟩) n n) (F q)] [hs : SmI n] (h : ∀ q w', Mem At b u w' s (own q (v :: vs) e :: L) → K ⟨(F q).toArray, ds⟩ w') : OWP P ⟨dst, .buildSlice ty n (x :: xs).toArray, oty, pos, after, gu⟩ ⟨l.toArray, ds⟩ w K Q := by
  obtain ⟨ys, h1, h2⟩ := r.ev
  have hl := hn.len
  have hy := h2 ds
  have hyl : ys.length = n := by rw [← hl, ← hy, List.length_map]
  refine owp_of (op_buildK M hT.row ys (by rw [h1, hyl]) (v :: vs) hy r.one (by simp) (by rw [hl]; exact hs.le) (fun q w' M' => ?_))
  rw [hl, (hd q).put]
  exact h q w' M'
end
end Go.Proofs.YtcebfkdhicbmkaaDoor
/-
  Operands as tokens (the reference). Printed by shc.py.
-/
namespace Go.Proofs.YtcebfkdhicbmkaaDoor
open Go.RowKit
set_option linter.unusedVariables false
set_option linter.unusedSimpArgs false

theorem spk_mid {a b : ByteArray} (ha : Nm a) (hb : Nm b) (m : List UInt8) (hm : m.length ≤ 100) : SpkI (a ++ ⟨(32 :: (m ++ [32])).toArray⟩ ++ b) ([wordT a] ++ spokL ⟨m.toArray⟩ ++ [wordT b]) :=
  ⟨by rw [spkm, spok_one ha, spok_one hb], Nat.le_trans (sz_app (sz_app ha.few (m := 102) (by simp [ByteArray.size]; omega)) hb.few) (by omega)⟩
theorem spk_to {a : ByteArray} (ha : Nm a) (m : List UInt8) (hm : m.length ≤ 100) : SpkI (⟨(m ++ [32]).toArray⟩ ++ a) (spokL ⟨m.toArray⟩ ++ [wordT a]) :=
  ⟨by rw [spkl, spok_one ha], Nat.le_trans (sz_app (n := 101) (by simp [ByteArray.size]; omega) ha.few) (by omega)⟩
theorem spk_from {a : ByteArray} (ha : Nm a) (m : List UInt8) (hm : m.length ≤ 100) : SpkI (a ++ ⟨(32 :: m).toArray⟩) ([wordT a] ++ spokL ⟨m.toArray⟩) :=
  ⟨by rw [spkr, spok_one ha], Nat.le_trans (sz_app (m := 101) ha.few (by simp [ByteArray.size]; omega)) (by omega)⟩
theorem spk_in {a : ByteArray} (ha : Nm a) (m k : List UInt8) (hm : m.length ≤ 100) (hk : k.length ≤ 100) : SpkI (⟨(m ++ [32]).toArray⟩ ++ a ++ ⟨(32 :: k).toArray⟩) (spokL ⟨m.toArray⟩ ++ [wordT a] ++ spokL ⟨k.toArray⟩) :=
  ⟨by rw [spk3, spok_one ha], Nat.le_trans (sz_app (sz_app (n := 101) (by simp [ByteArray.size]; omega) ha.few) (m := 101) (by simp [ByteArray.size]; omega)) (by omega)⟩
section
variable {g : Nat} {w0 : World}
set_option maxRecDepth 8000 in
set_option maxHeartbeats 8000000 in
theorem side_ref (hg : g < w0.heap.size) (o : Opd) (hs : OpdSh o) : Calls Tryd.prog 31 #[.agg #[.int .i64 o.kind, .int .i64 o.vkind, .int .i64 o.vint, .string o.vtext, .string o.var, .string o.field]] w0 (TkP w0 (shSide o)) := by
  have M := Mem.begin hg ⟨0, 0⟩
  have : NumI o.vint := ⟨hs.2.2⟩
  unfold shSide
  by_cases h3 : o.kind = 3
  · rw [if_pos h3]
    obtain ⟨hv, hf⟩ := hs.1 h3
    have S : SpkI (o.var ++ ⟨#[32, 46, 32]⟩ ++ o.field) [wordT o.var, wordT ⟨#[46]⟩, wordT o.field] := spk_mid hv hf [46] (by decide)
    have a1 : o.var.size + 3 ≤ 9223372036854775807 := by have := hv.few; omega
    have a2 : (o.var ++ (⟨#[32, 46, 32]⟩ : ByteArray)).size + o.field.size ≤ 9223372036854775807 := by have := hv.few; have := hf.few; rw [ByteArray.size_append, show (⟨#[32, 46, 32]⟩ : ByteArray).size = 3 from rfl]; omega
    rw [h3]
    clear hv hf hs h3 hg
    go_enter Tryd.func31, Tryd.ntmps31
    go_wp2_with (first | (go_at_call 12; with_reducible refine (spkI M).mono ?_; clear M; rintro e w ⟨a, n, c, rfl, M⟩) | (go_at_call 29; with_reducible refine (numI M).mono ?_; clear M; rintro e w ⟨a, n, c, rfl, M⟩) | (with_reducible (first | (refine wB (L := []) M ?_; clear M; intro zb w1 M) | refine wq M ?_ | (refine wS M ?_; clear M; intro w M) | (refine wV M ?_; clear M; intro z w M) | (refine wR M ?_; clear M; intro q w M))))
    go_ret
    exact M.tkp
  · rw [if_neg h3]
    have hq3 : (o.kind == 3) = false := by simpa using h3
    by_cases h2 : o.kind = 2
    · rw [if_pos h2]
      have S : SpkI o.field [wordT o.field] := spk_nm (hs.2.1 h2)
      rw [h2]
      clear hs h2 h3 hq3 hg
      go_enter Tryd.func31, Tryd.ntmps31
      go_wp2_with (first | (go_at_call 12; with_reducible refine (spkI M).mono ?_; clear M; rintro e w ⟨a, n, c, rfl, M⟩) | (go_at_call 29; with_reducible refine (numI M).mono ?_; clear M; rintro e w ⟨a, n, c, rfl, M⟩) | (with_reducible (first | (refine wB (L := []) M ?_; clear M; intro zb w1 M) | refine wq M ?_ | (refine wS M ?_; clear M; intro w M) | (refine wV M ?_; clear M; intro z w M) | (refine wR M ?_; clear M; intro q w M))))
      go_ret
      exact M.tkp
    · rw [if_neg h2]
      have hq2 : (o.kind == 2) = false := by simpa using h2
      by_cases h1 : o.vkind = 1
      · rw [if_pos h1, h1]
        clear hs h1 h2 h3 hg
        go_enter Tryd.func31, Tryd.ntmps31
        go_wp2_with (first | (go_at_call 12; with_reducible refine (spkI M).mono ?_; clear M; rintro e w ⟨a, n, c, rfl, M⟩) | (go_at_call 29; with_reducible refine (numI M).mono ?_; clear M; rintro e w ⟨a, n, c, rfl, M⟩) | (with_reducible (first | (refine wB (L := []) M ?_; clear M; intro zb w1 M) | refine wq M ?_ | (refine wS M ?_; clear M; intro w M) | (refine wV M ?_; clear M; intro z w M) | (refine wR M ?_; clear M; intro q w M))))
        go_ret
        exact M.tkp
      · rw [if_neg h1]
        have hq1 : (o.vkind == 1) = false := by simpa using h1
        clear hs h1 h2 h3 hg
        go_enter Tryd.func31, Tryd.ntmps31
        go_wp2_with (first | (go_at_call 12; with_reducible refine (spkI M).mono ?_; clear M; rintro e w ⟨a, n, c, rfl, M⟩) | (go_at_call 29; with_reducible refine (numI M).mono ?_; clear M; rintro e w ⟨a, n, c, rfl, M⟩) | (with_reducible (first | (refine wB (L := []) M ?_; clear M; intro zb w1 M) | refine wq M ?_ | (refine wS M ?_; clear M; intro w M) | (refine wV M ?_; clear M; intro z w M) | (refine wR M ?_; clear M; intro q w M))))
        go_ret
        exact ((M.one (R := tknF) tknF_firm (k := 3) (by omega) (by omega) (⟨3, o.vtext, 0⟩ : Tkn) rfl rfl).tke (i := 0) rfl)
end
end Go.Proofs.YtcebfkdhicbmkaaDoor
/-
  Conditions and patterns as tokens (the reference). Printed by shd.py.
-/
namespace Go.Proofs.YtcebfkdhicbmkaaDoor
open Go.RowKit
set_option linter.unusedVariables false
set_option linter.unusedSimpArgs false

instance : SpkI ⟨#[61]⟩ [wordT ⟨#[61]⟩] := ⟨rfl, by decide⟩
instance : SpkI ⟨#[47, 61]⟩ [wordT ⟨#[47, 61]⟩] := ⟨rfl, by decide⟩
instance : SpkI ⟨#[60]⟩ [wordT ⟨#[60]⟩] := ⟨rfl, by decide⟩
instance : SpkI ⟨#[60, 61]⟩ [wordT ⟨#[60, 61]⟩] := ⟨rfl, by decide⟩
instance : SpkI ⟨#[40]⟩ [wordT ⟨#[40]⟩] := ⟨rfl, by decide⟩
instance : SpkI ⟨#[41]⟩ [wordT ⟨#[41]⟩] := ⟨rfl, by decide⟩
instance : SpkI ⟨#[110, 111, 116]⟩ [wordT ⟨#[110, 111, 116]⟩] := ⟨rfl, by decide⟩
instance : SpkI ⟨#[97, 110, 100]⟩ [wordT ⟨#[97, 110, 100]⟩] := ⟨rfl, by decide⟩
instance : SpkI ⟨#[111, 114]⟩ [wordT ⟨#[111, 114]⟩] := ⟨rfl, by decide⟩
instance : SpkI ⟨#[91]⟩ [wordT ⟨#[91]⟩] := ⟨rfl, by decide⟩
instance : SpkI ⟨#[93]⟩ [wordT ⟨#[93]⟩] := ⟨rfl, by decide⟩
instance : SpkI ⟨#[119, 104, 101, 110]⟩ [wordT ⟨#[119, 104, 101, 110]⟩] := ⟨rfl, by decide⟩
instance : SpkI ⟨#[59]⟩ [wordT ⟨#[59]⟩] := ⟨rfl, by decide⟩
instance : SpkI ⟨#[109, 97, 110, 121]⟩ [wordT ⟨#[109, 97, 110, 121]⟩] := ⟨rfl, by decide⟩
instance : SpkI ⟨#[119, 105, 116, 104, 105, 110]⟩ [wordT ⟨#[119, 105, 116, 104, 105, 110]⟩] := ⟨rfl, by decide⟩
instance : SpkI ⟨#[44]⟩ [wordT ⟨#[44]⟩] := ⟨rfl, by decide⟩
instance : SpkI ⟨#[123]⟩ [wordT ⟨#[123]⟩] := ⟨rfl, by decide⟩
instance : SpkI ⟨#[125]⟩ [wordT ⟨#[125]⟩] := ⟨rfl, by decide⟩
instance : SpkI ⟨#[111, 118, 101, 114, 32, 116, 105, 109, 101]⟩ [wordT ⟨#[111, 118, 101, 114]⟩, wordT ⟨#[116, 105, 109, 101]⟩] := ⟨rfl, by decide⟩
instance : SpkI ⟨#[111, 118, 101, 114, 32, 108, 97, 115, 116]⟩ [wordT ⟨#[111, 118, 101, 114]⟩, wordT ⟨#[108, 97, 115, 116]⟩] := ⟨rfl, by decide⟩
instance : SpkI ⟨#[44, 32, 97, 110, 121, 32, 41]⟩ [wordT ⟨#[44]⟩, wordT ⟨#[97, 110, 121]⟩, wordT ⟨#[41]⟩] := ⟨rfl, by decide⟩
instance : SpkI ⟨#[41, 32, 59]⟩ [wordT ⟨#[41]⟩, wordT ⟨#[59]⟩] := ⟨rfl, by decide⟩
instance : SpkI ⟨#[]⟩ [] := ⟨rfl, by decide⟩
theorem Mem.tk0 {At : PS → World → Prop} {b : Nat} {u w : World} {s : PS} {L : List Ent} (M : Mem At b u w s L) : Mem At b u w s (tkd none 0 0 [] :: L) := M.plain (fnd tknF_firm) (fun _ => SlF.nil)
theorem TkP.to {w w' : World} {a b : List Tkn} {e : Ending} (h : TkP w a e w') (k : a = b) : TkP w b e w' := k ▸ h
section
variable {F : Nat → Prop} {g f : Nat} {w0 : World} {c : Cond} {ao : Option Addr} {n cap : Nat}
def CondK (F : Nat → Prop) (g f : Nat) : Prop := ∀ (c : Cond) (ao : Option Addr) (n cap : Nat) (w0 : World), g < w0.heap.size → CndSh f c → SlF F w0 14 CondF ao n cap c.subs → (shCond f c).length ≤ 40000 → Calls Tryd.prog 53 #[.agg (cnd14 c.kind ao n cap c.left c.right).toArray] w0 (TkP w0 (shCond f c))
set_option maxRecDepth 8000 in
set_option maxHeartbeats 8000000 in
theorem cleaf_ref (hg : g < w0.heap.size) (hk : c.kind = 4 ∨ c.kind = 5 ∨ c.kind = 6 ∨ c.kind = 7) (h1 : OpdSh c.left) (h2 : OpdSh c.right) : Calls Tryd.prog 53 #[.agg (cnd14 c.kind ao n cap c.left c.right).toArray] w0 (TkP w0 (shSide c.left ++ wordT (cmpT c.kind) :: shSide c.right)) := by
  have M := Mem.begin hg ⟨0, 0⟩
  have H1 : Hid (∀ wx, g < wx.heap.size → Calls Tryd.prog 31 #[.agg #[.int .i64 c.left.kind, .int .i64 c.left.vkind, .int .i64 c.left.vint, .string c.left.vtext, .string c.left.var, .string c.left.field]] wx (TkP wx (shSide c.left))) := fun wx h => side_ref h _ h1
  have H2 : Hid (∀ wx, g < wx.heap.size → Calls Tryd.prog 31 #[.agg #[.int .i64 c.right.kind, .int .i64 c.right.vkind, .int .i64 c.right.vint, .string c.right.vtext, .string c.right.var, .string c.right.field]] wx (TkP wx (shSide c.right))) := fun wx h => side_ref h _ h2
  have l1 := shSide_le c.left
  have l2 := shSide_le c.right
  unfold cnd14
  clear h1 h2 hg
  generalize shSide c.left = t1 at H1 l1 ⊢
  generalize shSide c.right = t2 at H2 l2 ⊢
  generalize c.left = o1 at H1 ⊢
  generalize c.right = o2 at H2 ⊢
  generalize c.kind = k at hk ⊢
  rcases hk with rfl | rfl | rfl | rfl
  all_goals
    go_enter Tryd.func53, Tryd.ntmps53
    go_upto_region 3 with (first | (with_reducible (first | (refine wB (L := []) M ?_; clear M; intro zb w1 M) | (refine w_ (q_rows M ?_); clear M; intro q w M) | refine wq M ?_ | (refine wS M ?_; clear M; intro w M) | (refine wV M ?_; clear M; intro z w M) | (refine wR M ?_; clear M; intro q w M))))
    ((refine wp_region_first [0, 1, 3, 5, 6] [2, 4, 7, 8, 9, 10] (fun _ M => M) M (by kernel_rfl) (by kernel_rfl) (fun _ _ _ _ _ h => h) ?_); clear M; intro w M; (repeat ((with_reducible refine r_list rfl fun K hK => ?_); (first | (refine r_load (l' := ?_) ⟨_, M.kept⟩ (fun w M => ?_) ?_; rotate_left; focus ((first | refine q_get M (by exact rfl) ?_ | refine q_all M (by rfl) ?_ | refine q_prt M (by rfl) ?_); refine ⟨rfl, ?_⟩; with_reducible rfl)) | (refine r_pure (v := ?_) rfl (fun w => ?_) ?_; rotate_left; focus (go_simp; try with_reducible rfl))); (try go_simp); with_reducible refine hK _ ?_; clear hK K)); (with_reducible refine r_nil ?_); (repeat ((with_reducible refine s_step rfl rfl fun K hK => ?_); (first | ((refine owp_of ?_; go_simp; (go_at_call 31; with_reducible refine (H1.out _ M.gt).mono ?_; rintro e w h5; replace M := M.tkq h5; clear h5; obtain ⟨ta, tn, tc, rfl, M⟩ := M))) | ((refine owp_of ?_; go_simp; (go_at_call 31; with_reducible refine (H2.out _ M.gt).mono ?_; rintro e w h5; replace M := M.tkq h5; clear h5; obtain ⟨ta, tn, tc, rfl, M⟩ := M))) | ((refine owp_of ?_; go_simp; (go_at_call 12; with_reducible refine (spkI M).mono ?_; clear M; rintro e w ⟨ta, tn, tc, rfl, M⟩))) | ((refine owp_of ?_; go_simp; (go_at_call 11; (with_reducible refine (tkn ?_ M).mono ?_); (focus (refine ⟨?_, by decide⟩; simp only [List.flatten_cons, List.flatten_nil, List.length_append, List.length_cons, List.length_nil]; omega)); clear M; rintro e w ⟨ta, tn, tc, rfl, M⟩))) | ((refine q_rows M ?_; clear M; intro q w M)) | (refine owp_of ?_; go_simp)); (try go_simp); with_reducible refine hK _ _ M.kept ?_; clear hK K)); (with_reducible refine s_nil ?_))
    go_wp2_with (first | (with_reducible (first | refine wq M ?_ | (refine wS M ?_; clear M; intro w M) | (refine wV M ?_; clear M; intro z w M) | (refine wR M ?_; clear M; intro q w M))))
    go_ret
    exact M.tkp.to (by simp [cmpT])
set_option maxRecDepth 8000 in
set_option maxHeartbeats 8000000 in
theorem cnot_ref (hg : g < w0.heap.size) (IH : CondK F g f) (hk : c.kind = 3) (hl : c.subs.length = 1) (hs : ∀ s ∈ c.subs, CndSh f s) (hS : SlF F w0 14 CondF ao n cap c.subs) (hb : (wordT ⟨#[110, 111, 116]⟩ :: shBrk (decide ((c.subs.headD cond0).kind ≤ 2)) (shCond f (c.subs.headD cond0))).length ≤ 40000) :
    Calls Tryd.prog 53 #[.agg (cnd14 c.kind ao n cap c.left c.right).toArray] w0 (TkP w0 (wordT ⟨#[110, 111, 116]⟩ :: shBrk (decide ((c.subs.headD cond0).kind ≤ 2)) (shCond f (c.subs.headD cond0)))) := by
  have M := Mem.begin hg ⟨0, 0⟩
  have h0 : 0 < c.subs.length := by omega
  have eh : c.subs.headD cond0 = c.subs[0] := by
    rw [List.headD_eq_head?_getD, List.head?_eq_getElem?, List.getElem?_eq_getElem h0]
    rfl
  rw [eh] at hb ⊢
  obtain ⟨cx, ox, rowx, hixx, -, hrrx, hwx⟩ := SlF.rowAt (P := Tryd.prog) hS condF_firm Tryd.underlying61 size_cnd (i := 0) h0
  obtain ⟨a2, n2, c2, ex, hS2⟩ := CondF.open14 hrrx
  subst ex
  have hlb : (shCond f c.subs[0]).length ≤ 40000 := by have := brk_len (b := decide (c.subs[0].kind ≤ 2)) (l := shCond f c.subs[0]); simp only [List.length_cons] at hb; omega
  have HW : Hid (∀ wx, g < wx.heap.size → Below w0.heap.size w0 wx → Calls Tryd.prog 53 #[.agg (cnd14 c.subs[0].kind a2 n2 c2 c.subs[0].left c.subs[0].right).toArray] wx (TkP wx (shCond f c.subs[0]))) := fun wx h hb => IH _ _ _ _ wx h (hs _ (List.getElem_mem h0)) (hS2.below condF_firm hb) hlb
  have HR := Lib.hid (fun wx hb => (hwx wx hb).1)
  have HRK : Hid (∀ wx, Below w0.heap.size w0 wx → wx.cell? ⟨cx, ox, none⟩ = some (.int .i64 c.subs[0].kind)) := fun wx hb => (hwx wx hb).1 0 _ rfl
  rw [show ((0 : Nat) : Int) = 0 from rfl] at hixx
  unfold cnd14 at HW HR ⊢
  rw [hk]
  generalize shCond f c.subs[0] = tl at HW hlb ⊢
  clear hrrx hwx hS2 hb eh IH hs hS hg
  generalize c.subs[0] = x at HW HR HRK ⊢
  clear hk hl h0
  by_cases hx : x.kind ≤ 2
  · have hx3 : x.kind < 3 := by omega
    go_enter Tryd.func53, Tryd.ntmps53
    go_wp2_with (first | (go_at_call 53; with_reducible refine (HW.out _ M.gt M.new).mono ?_; rintro e w h5; replace M := M.tkq h5; clear h5; obtain ⟨ta, tn, tc, rfl, M⟩ := M) | (go_at_call 12; with_reducible refine (spkI M).mono ?_; clear M; rintro e w ⟨ta, tn, tc, rfl, M⟩) | (go_at_call 11; (with_reducible refine (tkn ?_ M).mono ?_); (focus (refine ⟨?_, by decide⟩; simp only [List.flatten_cons, List.flatten_nil, List.length_append, List.length_cons, List.length_nil]; omega)); clear M; rintro e w ⟨ta, tn, tc, rfl, M⟩) | (with_reducible (first | (refine wB (L := []) M ?_; clear M; intro zb w1 M) | (refine w_ (q_rows M ?_); clear M; intro q w M) | refine wA (HR.out _ M.new) ?_ | refine wC (HRK.out _ M.new) ?_ | refine wq M ?_ | (refine wS M ?_; clear M; intro w M) | (refine wV M ?_; clear M; intro z w M) | (refine wR M ?_; clear M; intro q w M))))
    go_ret
    exact M.tkp.to (by simp [shBrk, hx])
  · have hx3 : ¬ x.kind < 3 := by omega
    have hd : decide (x.kind ≤ 2) = false := by simpa using hx
    rw [hd]
    go_enter Tryd.func53, Tryd.ntmps53
    go_wp2_with (first | (go_at_call 53; with_reducible refine (HW.out _ M.gt M.new).mono ?_; rintro e w h5; replace M := M.tkq h5; clear h5; obtain ⟨ta, tn, tc, rfl, M⟩ := M) | (go_at_call 12; with_reducible refine (spkI M).mono ?_; clear M; rintro e w ⟨ta, tn, tc, rfl, M⟩) | (go_at_call 11; (with_reducible refine (tkn ?_ M).mono ?_); (focus (refine ⟨?_, by decide⟩; simp only [List.flatten_cons, List.flatten_nil, List.length_append, List.length_cons, List.length_nil]; omega)); clear M; rintro e w ⟨ta, tn, tc, rfl, M⟩) | (with_reducible (first | (refine wB (L := []) M ?_; clear M; intro zb w1 M) | (refine w_ (q_rows M ?_); clear M; intro q w M) | refine wA (HR.out _ M.new) ?_ | refine wC (HRK.out _ M.new) ?_ | refine wq M ?_ | (refine wS M ?_; clear M; intro w M) | (refine wV M ?_; clear M; intro z w M) | (refine wR M ?_; clear M; intro q w M))))
    go_ret
    exact M.tkp.to (by simp [shBrk])
set_option maxRecDepth 8000 in
set_option maxHeartbeats 32000000 in
theorem cmany_ref (hg : g < w0.heap.size) (IH : CondK F g f) {k : Int} (hk : c.kind = k) (hkk : k = 1 ∨ k = 2) (hs : ∀ s ∈ c.subs, CndSh f s) (hS : SlF F w0 14 CondF ao n cap c.subs) (hb : (shCat (fun i x => (if i = 0 then [] else [wordT (andT k)]) ++ shBrk (x.kind == k || x.kind == 2) (shCond f x)) c.subs).length ≤ 40000) :
    Calls Tryd.prog 53 #[.agg (cnd14 c.kind ao n cap c.left c.right).toArray] w0 (TkP w0 (shCat (fun i x => (if i = 0 then [] else [wordT (andT k)]) ++ shBrk (x.kind == k || x.kind == 2) (shCond f x)) c.subs)) := by
  have M := Mem.begin hg ⟨0, 0⟩
  have HS := Lib.hid hS
  have NS : Hid (n = c.subs.length) := hS.len
  have hle := hS.le
  have HSH := Lib.hid hs
  have HIH : Hid (CondK F g f) := IH
  have HBB : Hid (∀ j (hj : j < c.subs.length), (shCat (fun i x => (if i = 0 then [] else [wordT (andT k)]) ++ shBrk (x.kind == k || x.kind == 2) (shCond f x)) (c.subs.take (j + 1))).length ≤ 40000) := fun j hj => by
    have : (shCat (fun i x => (if i = 0 then [] else [wordT (andT k)]) ++ shBrk (x.kind == k || x.kind == 2) (shCond f x)) (c.subs.take (j + 1))).length ≤ (shCat (fun i x => (if i = 0 then [] else [wordT (andT k)]) ++ shBrk (x.kind == k || x.kind == 2) (shCond f x)) c.subs).length := by
      unfold shCat
      conv => rhs; rw [← List.take_append_drop (j + 1) c.subs, List.zipIdx_append, List.flatMap_append, List.length_append]
      omega
    omega
  unfold cnd14
  rw [hk]
  clear IH hs hb hS hg hk
  generalize c.left = o1
  generalize c.right = o2
  generalize c.subs = cs at HS NS HSH HBB ⊢
  rcases hkk with rfl | rfl
  · go_enter Tryd.func53, Tryd.ntmps53
    go_wp2_with (first | (with_reducible (first | (refine wB (L := []) M ?_; clear M; intro zb w1 M) | refine wq M ?_ | (refine wS M ?_; clear M; intro w M) | (refine wV M ?_; clear M; intro z w M) | (refine wR M ?_; clear M; intro q w M))))
    replace M := M.tk0
    go_loopg [5, 6] n (fun fu v i wr => ∃ (j : Nat) (a : Option Addr) (m c : Nat) (ts : List Tkn), j + fu = n ∧ v = .slice a m c ∧ i = .int .i64 j ∧ Mem (StaysB g w0) g w0 wr ⟨0, 0⟩ (tkd a m c ts :: own zb [.int .i64 1, .slice ao n cap, .int .i64 o1.kind, .int .i64 o1.vkind, .int .i64 o1.vint, .string o1.vtext, .string o1.var, .string o1.field, .int .i64 o2.kind, .int .i64 o2.vkind, .int .i64 o2.vint, .string o2.vtext, .string o2.var, .string o2.field] 67 :: []) ∧ Hid (ts = shCat (fun i x => (if i = 0 then [] else [wordT (andT 1)]) ++ shBrk (x.kind == 1 || x.kind == 2) (shCond f x)) (cs.take j)))
    case atStart => exact ⟨0, _, _, _, [], by omega, rfl, rfl, M, Lib.hid rfl⟩
    case round =>
      clear M
      obtain ⟨j, a5, m5, c5, ts, hj, rfl, rfl, M, HT⟩ := hrel
      by_cases hlt : j < n
      · have hjl : j < cs.length := by have := NS.out; omega
        obtain ⟨cx, ox, rowx, hixx, -, hrrx, hwx⟩ := SlF.rowAt (P := Tryd.prog) HS.out condF_firm Tryd.underlying61 size_cnd (i := j) hjl
        obtain ⟨a2, n2, c2, ex, hS2⟩ := CondF.open14 hrrx
        subst ex
        obtain ⟨TN, hTN⟩ : ∃ TN, TN = shCat (fun i x => (if i = 0 then [] else [wordT (andT 1)]) ++ shBrk (x.kind == 1 || x.kind == 2) (shCond f x)) (cs.take (j + 1)) := ⟨_, rfl⟩
        have HTN := Lib.hid hTN
        have HTS : Hid (TN = ts ++ ((if j = 0 then [] else [wordT (andT 1)]) ++ shBrk (cs[j].kind == 1 || cs[j].kind == 2) (shCond f cs[j]))) := by show _ = _; rw [hTN, shCat_snoc hjl, HT.out]
        have hbb := HBB.out j hjl
        rw [← HTN.out, HTS.out] at hbb
        have hsx := HSH.out _ (List.getElem_mem hjl)
        have hlb : (shCond f cs[j]).length ≤ 40000 ∧ ts.length ≤ 40000 := by
          simp only [List.length_append] at hbb
          constructor
          · exact Nat.le_trans brk_len (Nat.le_trans (Nat.le_trans (Nat.le_add_left _ _) (Nat.le_add_left _ _)) hbb)
          · omega
        have HW : Hid (∀ wx, g < wx.heap.size → Below w0.heap.size w0 wx → Calls Tryd.prog 53 #[.agg (cnd14 cs[j].kind a2 n2 c2 cs[j].left cs[j].right).toArray] wx (TkP wx (shCond f cs[j]))) := fun wx h hb => HIH.out _ _ _ _ wx h hsx (hS2.below condF_firm hb) hlb.1
        have HR := Lib.hid (fun wx hb => (hwx wx hb).1)
        have HRK : Hid (∀ wx, Below w0.heap.size w0 wx → wx.cell? ⟨cx, ox, none⟩ = some (.int .i64 cs[j].kind)) := fun wx hb => (hwx wx hb).1 0 _ rfl
        obtain ⟨hlc, hlt2⟩ := hlb
        clear hrrx hwx hS2 hbb hTN HT hsx
        unfold cnd14 at HW HR
        generalize hsc : shCond f cs[j] = tl at HW HTS hlc
        generalize cs[j] = x at HW HR HRK HTS hsc
        clear hsc hjl
        have hx : ((x.kind == 2) = true ∧ (x.kind == 1) = false) ∨ ((x.kind == 2) = false ∧ (x.kind == 1) = true) ∨ ((x.kind == 2) = false ∧ (x.kind == 1) = false) := by
          simp only [beq_iff_eq, beq_eq_false_iff_ne]
          omega
        have hj0 : (¬ ((0 : Int) < (j : Int)) ∧ Hid (j = 0)) ∨ (0 < j ∧ Hid (¬ j = 0)) := by
          by_cases h : j = 0
          · exact .inl ⟨by omega, Lib.hid h⟩
          · exact .inr ⟨by omega, Lib.hid h⟩
        rcases hx with ⟨hx2, hx1⟩ | ⟨hx2, hx1⟩ | ⟨hx2, hx1⟩ <;> rcases hj0 with ⟨hjp, hj0⟩ | ⟨hjp, hj0⟩
        all_goals
          go_wp2_with (first | (go_at_call 53; with_reducible refine (HW.out _ M.gt M.new).mono ?_; rintro e w h5; replace M := M.tkq h5; clear h5; obtain ⟨ta, tn, tc, rfl, M⟩ := M) | (go_at_call 12; with_reducible refine (spkI M).mono ?_; clear M; rintro e w ⟨ta, tn, tc, rfl, M⟩) | (go_at_call 11; (with_reducible refine (tkn ?_ M).mono ?_); (focus (refine ⟨?_, by decide⟩; simp only [List.flatten_cons, List.flatten_nil, List.length_append, List.length_cons, List.length_nil]; omega)); clear M; rintro e w ⟨ta, tn, tc, rfl, M⟩) | (with_reducible (first | (refine w_ (q_rows M ?_); clear M; intro q w M) | refine wA (HR.out _ M.new) ?_ | refine wC (HRK.out _ M.new) ?_ | refine wq M ?_ | (refine wS M ?_; clear M; intro w M) | (refine wV M ?_; clear M; intro z w M) | (refine wR M ?_; clear M; intro q w M))))
          go_roundg (n - (j + 1))
          case measure => omega
          case rel => exact ⟨j + 1, _, _, _, _, by omega, rfl, by go_num, M, Lib.hid (by rw [← HTN.out, HTS.out]; have hj9 := hj0.out; simp [shBrk, andT, hj9, hx1, hx2])⟩
      · have hte : ts = shCat (fun i x => (if i = 0 then [] else [wordT (andT 1)]) ++ shBrk (x.kind == 1 || x.kind == 2) (shCond f x)) cs := by rw [HT.out, List.take_of_length_le (by have := NS.out; omega)]
        go_wp2_with (first | (with_reducible (first | refine wq M ?_ | (refine wS M ?_; clear M; intro w M) | (refine wV M ?_; clear M; intro z w M) | (refine wR M ?_; clear M; intro q w M))))
        go_ret
        exact M.tkp.to hte
  · go_enter Tryd.func53, Tryd.ntmps53
    go_wp2_with (first | (with_reducible (first | (refine wB (L := []) M ?_; clear M; intro zb w1 M) | refine wq M ?_ | (refine wS M ?_; clear M; intro w M) | (refine wV M ?_; clear M; intro z w M) | (refine wR M ?_; clear M; intro q w M))))
    replace M := M.tk0
    go_loopg [5, 6] n (fun fu v i wr => ∃ (j : Nat) (a : Option Addr) (m c : Nat) (ts : List Tkn), j + fu = n ∧ v = .slice a m c ∧ i = .int .i64 j ∧ Mem (StaysB g w0) g w0 wr ⟨0, 0⟩ (tkd a m c ts :: own zb [.int .i64 2, .slice ao n cap, .int .i64 o1.kind, .int .i64 o1.vkind, .int .i64 o1.vint, .string o1.vtext, .string o1.var, .string o1.field, .int .i64 o2.kind, .int .i64 o2.vkind, .int .i64 o2.vint, .string o2.vtext, .string o2.var, .string o2.field] 67 :: []) ∧ Hid (ts = shCat (fun i x => (if i = 0 then [] else [wordT (andT 2)]) ++ shBrk (x.kind == 2 || x.kind == 2) (shCond f x)) (cs.take j)))
    case atStart => exact ⟨0, _, _, _, [], by omega, rfl, rfl, M, Lib.hid rfl⟩
    case round =>
      clear M
      obtain ⟨j, a5, m5, c5, ts, hj, rfl, rfl, M, HT⟩ := hrel
      by_cases hlt : j < n
      · have hjl : j < cs.length := by have := NS.out; omega
        obtain ⟨cx, ox, rowx, hixx, -, hrrx, hwx⟩ := SlF.rowAt (P := Tryd.prog) HS.out condF_firm Tryd.underlying61 size_cnd (i := j) hjl
        obtain ⟨a2, n2, c2, ex, hS2⟩ := CondF.open14 hrrx
        subst ex
        obtain ⟨TN, hTN⟩ : ∃ TN, TN = shCat (fun i x => (if i = 0 then [] else [wordT (andT 2)]) ++ shBrk (x.kind == 2 || x.kind == 2) (shCond f x)) (cs.take (j + 1)) := ⟨_, rfl⟩
        have HTN := Lib.hid hTN
        have HTS : Hid (TN = ts ++ ((if j = 0 then [] else [wordT (andT 2)]) ++ shBrk (cs[j].kind == 2 || cs[j].kind == 2) (shCond f cs[j]))) := by show _ = _; rw [hTN, shCat_snoc hjl, HT.out]
        have hbb := HBB.out j hjl
        rw [← HTN.out, HTS.out] at hbb
        have hsx := HSH.out _ (List.getElem_mem hjl)
        have hlb : (shCond f cs[j]).length ≤ 40000 ∧ ts.length ≤ 40000 := by
          simp only [List.length_append] at hbb
          constructor
          · exact Nat.le_trans brk_len (Nat.le_trans (Nat.le_trans (Nat.le_add_left _ _) (Nat.le_add_left _ _)) hbb)
          · omega
        have HW : Hid (∀ wx, g < wx.heap.size → Below w0.heap.size w0 wx → Calls Tryd.prog 53 #[.agg (cnd14 cs[j].kind a2 n2 c2 cs[j].left cs[j].right).toArray] wx (TkP wx (shCond f cs[j]))) := fun wx h hb => HIH.out _ _ _ _ wx h hsx (hS2.below condF_firm hb) hlb.1
        have HR := Lib.hid (fun wx hb => (hwx wx hb).1)
        have HRK : Hid (∀ wx, Below w0.heap.size w0 wx → wx.cell? ⟨cx, ox, none⟩ = some (.int .i64 cs[j].kind)) := fun wx hb => (hwx wx hb).1 0 _ rfl
        obtain ⟨hlc, hlt2⟩ := hlb
        clear hrrx hwx hS2 hbb hTN HT hsx
        unfold cnd14 at HW HR
        generalize hsc : shCond f cs[j] = tl at HW HTS hlc
        generalize cs[j] = x at HW HR HRK HTS hsc
        clear hsc hjl
        have hx : ((x.kind == 2) = true ∧ (x.kind == 1) = false) ∨ ((x.kind == 2) = false ∧ (x.kind == 1) = true) ∨ ((x.kind == 2) = false ∧ (x.kind == 1) = false) := by
          simp only [beq_iff_eq, beq_eq_false_iff_ne]
          omega
        have hj0 : (¬ ((0 : Int) < (j : Int)) ∧ Hid (j = 0)) ∨ (0 < j ∧ Hid (¬ j = 0)) := by
          by_cases h : j = 0
          · exact .inl ⟨by omega, Lib.hid h⟩
          · exact .inr ⟨by omega, Lib.hid h⟩
        rcases hx with ⟨hx2, hx1⟩ | ⟨hx2, hx1⟩ | ⟨hx2, hx1⟩ <;> rcases hj0 with ⟨hjp, hj0⟩ | ⟨hjp, hj0⟩
        all_goals
          go_wp2_with (first | (go_at_call 53; with_reducible refine (HW.out _ M.gt M.new).mono ?_; rintro e w h5; replace M := M.tkq h5; clear h5; obtain ⟨ta, tn, tc, rfl, M⟩ := M) | (go_at_call 12; with_reducible refine (spkI M).mono ?_; clear M; rintro e w ⟨ta, tn, tc, rfl, M⟩) | (go_at_call 11; (with_reducible refine (tkn ?_ M).mono ?_); (focus (refine ⟨?_, by decide⟩; simp only [List.flatten_cons, List.flatten_nil, List.length_append, List.length_cons, List.length_nil]; omega)); clear M; rintro e w ⟨ta, tn, tc, rfl, M⟩) | (with_reducible (first | (refine w_ (q_rows M ?_); clear M; intro q w M) | refine wA (HR.out _ M.new) ?_ | refine wC (HRK.out _ M.new) ?_ | refine wq M ?_ | (refine wS M ?_; clear M; intro w M) | (refine wV M ?_; clear M; intro z w M) | (refine wR M ?_; clear M; intro q w M))))
          go_roundg (n - (j + 1))
          case measure => omega
          case rel => exact ⟨j + 1, _, _, _, _, by omega, rfl, by go_num, M, Lib.hid (by rw [← HTN.out, HTS.out]; have hj9 := hj0.out; simp [shBrk, andT, hj9, hx1, hx2])⟩
      · have hte : ts = shCat (fun i x => (if i = 0 then [] else [wordT (andT 2)]) ++ shBrk (x.kind == 2 || x.kind == 2) (shCond f x)) cs := by rw [HT.out, List.take_of_length_le (by have := NS.out; omega)]
        go_wp2_with (first | (with_reducible (first | refine wq M ?_ | (refine wS M ?_; clear M; intro w M) | (refine wV M ?_; clear M; intro z w M) | (refine wR M ?_; clear M; intro q w M))))
        go_ret
        exact M.tkp.to hte
end
end Go.Proofs.YtcebfkdhicbmkaaDoor
/-
  Conditions, patterns as tokens (the reference). Printed by she.py.
-/
namespace Go.Proofs.YtcebfkdhicbmkaaDoor
open Go.RowKit
set_option linter.unusedVariables false
set_option linter.unusedSimpArgs false

section
variable {F : Nat → Prop} {g f : Nat} {w0 : World} {ao : Option Addr} {n cap : Nat}
theorem cond_ref : ∀ f, CondK F g f
  | 0 => fun c ao n cap w0 hg hc => absurd hc (by simp [CndSh])
  | f + 1 => fun c ao n cap w0 hg hc hS hb => by
    have IH := cond_ref f
    have hc2 := hc
    unfold CndSh at hc2
    unfold shCond at hb ⊢
    rcases hc2 with ⟨h1, h2, h3⟩ | ⟨h1, h2⟩ | ⟨h1, h2, h3⟩
    · rw [if_pos h1] at hb ⊢
      exact cnot_ref hg IH h1 h2 h3 hS hb
    · rw [if_neg (by omega), if_pos h1] at hb ⊢
      exact cmany_ref hg IH rfl h1 h2 hS hb
    · rw [if_neg (by omega), if_neg (by omega)]
      exact cleaf_ref hg h1 h2 h3
set_option maxRecDepth 8000 in
set_option maxHeartbeats 8000000 in
theorem pattern_ref (hg : g < w0.heap.size) (p : Pat) (hp : PatSh p) (hS : SlF F w0 14 CondF ao n cap p.wher.subs) (hb : (shPat p).length ≤ 30000) : Calls Tryd.prog 28 #[.agg (pat18 p ao n cap).toArray] w0 (TkP w0 (shPat p)) := by
  have M := Mem.begin hg ⟨0, 0⟩
  have S : SpkI (p.var ++ ⟨#[32, 58, 32]⟩ ++ p.type) [wordT p.var, wordT ⟨#[58]⟩, wordT p.type] := spk_mid hp.1 hp.2.1 [58] (by decide)
  have a1 : p.var.size + 3 ≤ 9223372036854775807 := by have := hp.1.few; omega
  have a2 : (p.var ++ (⟨#[32, 58, 32]⟩ : ByteArray)).size + p.type.size ≤ 9223372036854775807 := by have := hp.1.few; have := hp.2.1.few; rw [ByteArray.size_append, show (⟨#[32, 58, 32]⟩ : ByteArray).size = 3 from rfl]; omega
  unfold pat18
  unfold shPat at hb ⊢
  by_cases hk : p.wher.kind = 0
  · rw [if_pos hk, hk]
    clear hb hS hp hg hk
    go_enter Tryd.func28, Tryd.ntmps28
    go_wp2_with (first | (go_at_call 12; with_reducible refine (spkI M).mono ?_; clear M; rintro e w ⟨ta, tn, tc, rfl, M⟩) | (with_reducible (first | (refine wB (L := []) M ?_; clear M; intro zb w1 M) | refine wq M ?_ | (refine wS M ?_; clear M; intro w M) | (refine wV M ?_; clear M; intro z w M) | (refine wR M ?_; clear M; intro q w M))))
    go_ret
    exact M.tkp
  · rw [if_neg hk] at hb ⊢
    have hkb : (p.wher.kind == 0) = false := by simpa using hk
    have hc : CndSh 9 p.wher := hp.2.2.resolve_left hk
    have hl : (shCond 9 p.wher).length ≤ 30000 := by simp only [List.length_cons, List.length_append] at hb; omega
    have HW : Hid (∀ wx, g < wx.heap.size → Below w0.heap.size w0 wx → Calls Tryd.prog 53 #[.agg (cnd14 p.wher.kind ao n cap p.wher.left p.wher.right).toArray] wx (TkP wx (shCond 9 p.wher))) := fun wx h hb => cond_ref 9 _ _ _ _ wx h hc (hS.below condF_firm hb) (by omega)
    unfold cnd14 at HW
    generalize shCond 9 p.wher = tl at HW hl ⊢
    clear hb hS hp hg hk hc
    go_enter Tryd.func28, Tryd.ntmps28
    go_upto_region 4 with (first | (go_at_call 12; with_reducible refine (spkI M).mono ?_; clear M; rintro e w ⟨ta, tn, tc, rfl, M⟩) | (with_reducible (first | (refine wB (L := []) M ?_; clear M; intro zb w1 M) | refine wq M ?_ | (refine wS M ?_; clear M; intro w M) | (refine wV M ?_; clear M; intro z w M) | (refine wR M ?_; clear M; intro q w M))))
    ((refine wp_region_first [0, 2, 3] [1, 4, 5, 6, 7, 8] (fun _ M => M.drop) M (by kernel_rfl) (by kernel_rfl) (fun _ _ _ _ _ h => h) ?_); clear M; intro w M; (repeat ((with_reducible refine r_list rfl fun K hK => ?_); (first | (refine r_load (l' := ?_) ⟨_, M.kept⟩ (fun w M => ?_) ?_; rotate_left; focus ((first | refine q_get M (by exact rfl) ?_ | refine q_all M (by rfl) ?_ | refine q_prt M (by rfl) ?_); refine ⟨rfl, ?_⟩; with_reducible rfl)) | (refine r_pure (v := ?_) rfl (fun w => ?_) ?_; rotate_left; focus (go_simp; try with_reducible rfl))); (try go_simp); with_reducible refine hK _ ?_; clear hK K)); (with_reducible refine r_nil ?_); (repeat ((with_reducible refine s_step rfl rfl fun K hK => ?_); (first | ((refine owp_of ?_; go_simp; (go_at_call 53; with_reducible refine (HW.out _ M.gt M.new).mono ?_; rintro e w h5; replace M := M.tkq h5; clear h5; obtain ⟨ta, tn, tc, rfl, M⟩ := M))) | ((refine owp_of ?_; go_simp; (go_at_call 12; with_reducible refine (spkI M).mono ?_; clear M; rintro e w ⟨ta, tn, tc, rfl, M⟩))) | ((refine owp_of ?_; go_simp; (go_at_call 11; (with_reducible refine (tkn ?_ M).mono ?_); (focus (refine ⟨?_, by decide⟩; simp only [List.flatten_cons, List.flatten_nil, List.length_append, List.length_cons, List.length_nil]; omega)); clear M; rintro e w ⟨ta, tn, tc, rfl, M⟩))) | ((refine q_rows M ?_; clear M; intro q w M)) | (refine owp_of ?_; go_simp)); (try go_simp); with_reducible refine hK _ _ M.kept ?_; clear hK K)); (with_reducible refine s_nil ?_))
    go_wp2_with (first | (with_reducible (first | refine wq M ?_ | (refine wS M ?_; clear M; intro w M) | (refine wV M ?_; clear M; intro z w M) | (refine wR M ?_; clear M; intro q w M))))
    go_ret
    exact M.tkp.to (by simp)
end
end Go.Proofs.YtcebfkdhicbmkaaDoor
