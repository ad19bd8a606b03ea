/-
  The walks of acts told as bytes: tape.encode and the reference's noteBytes.
-/
import Derived.Test.YtciomaeieggbiaaCatW
import Derived.Test.YtciomaeieggbiaaEncL
import Derived.Test.YtciomaeieggbiaaActW
namespace Go.Proofs.Ytciomaeieggbiaa
open Go.RowKit
set_option linter.unusedVariables false
set_option linter.unusedSimpArgs false

/-- An act's bytes. -/
def noteL (a : Ac) (vs : List Val) : List UInt8 := if a.kind = 4 then [UInt8.ofNat 0] ++ a.source.data.toList else opL a.op vs
theorem noteE_may {a : Ac} {vs : List Val} (h : noteE a vs = 0) : (a.kind = 4 ∧ a.source.size ≤ 3000) ∨ (a.kind = 1 ∧ wireE a.op vs = 0) := by
  unfold noteE at h
  by_cases k1 : a.kind = 1
  · rw [if_pos k1] at h
    by_cases h1 : a.pick = 0 ∧ a.source.size = 0
    · rw [if_pos h1] at h
      exact Or.inr ⟨k1, h⟩
    · rw [if_neg h1] at h; omega
  · rw [if_neg k1] at h
    by_cases k4 : a.kind = 4
    · rw [if_pos k4] at h
      by_cases h1 : a.pick = 0 ∧ noneB a.op vs.length = true
      · rw [if_pos h1] at h
        by_cases h2 : a.source.size ≤ 3000
        · exact Or.inl ⟨k4, h2⟩
        · rw [if_neg h2] at h; omega
      · rw [if_neg h1] at h; omega
    · rw [if_neg k4] at h; omega
theorem vals_len : ∀ (vs : List Val), (∀ v ∈ vs, valMay v) → (vs.flatMap valL).length ≤ 22 * vs.length
  | [], _ => by simp
  | v :: vs, h => by
    rw [List.flatMap_cons, List.length_append, List.length_cons]
    have h1 := valL_len (h v (by simp))
    have h2 := vals_len vs (fun u hu => h u (by simp [hu]))
    omega
theorem opL_len {o : Opn} {vs : List Val} (h : wireE o vs = 0) : 1 ≤ (opL o vs).length ∧ (opL o vs).length ≤ 200 := by
  unfold opL
  rcases wireE_may h with ⟨h1, h2, h3⟩ | ⟨h1, h2⟩ | ⟨h1, h2, ⟨⟨h3, h4⟩, h5, h6⟩, h7, h8⟩
  · rw [if_pos h1]
    have := sevL_len 8 o.delta.toNat (by omega)
    simp only [List.length_append, List.length_cons, List.length_nil]; omega
  · rw [if_neg (by omega), if_pos h1]
    have := textL_len o.type
    simp only [List.length_append, List.length_cons, List.length_nil]; omega
  · rw [if_neg (by omega), if_neg (by omega)]
    have := textL_len o.type
    have := sevL_len 8 o.start.toNat (by omega)
    have := sevL_len 8 o.stop.toNat (by omega)
    have := vals_len vs h8
    simp only [List.length_append, List.length_cons, List.length_nil]; omega
theorem noteL_len {a : Ac} {vs : List Val} (h : noteE a vs = 0) : 1 ≤ (noteL a vs).length ∧ (noteL a vs).length ≤ 3001 := by
  unfold noteL
  rcases noteE_may h with ⟨h1, h2⟩ | ⟨h1, h2⟩
  · rw [if_pos h1]; simp; omega
  · rw [if_neg (by omega)]
    have := opL_len h2
    omega

theorem owned_bytes {B : Nat} {w : World} {e : TypeId} {v : Value} {l : List UInt8} (h : w.ownsRow B e 1 v l.length (Lib.byteCells l)) : OwnF (from_ B) B w e 1 byteF v l := by
  refine ⟨Lib.byteCells l, h, fun i hi => ⟨[byteC l[i]], rfl, fun j hj => ?_, rfl⟩⟩
  obtain rfl : j = 0 := by omega
  simp [Lib.byteCells, byteC, List.getElem?_eq_getElem hi]
theorem own_one_row (w : World) (n : Int) (e : TypeId) : (w.alloc (.cells #[.int .u8 n] e)).ownsRow w.heap.size e 1 (.slice (some ⟨w.heap.size, 0, none⟩) 1 1) 1 [.int .u8 n] :=
  ⟨rfl, Or.inr ⟨w.heap.size, 1, #[.int .u8 n], rfl, Nat.le_refl _, heap_alloc_new w _, Nat.le_refl _, by unfold maxLen; omega, by simp, by simp⟩⟩
set_option maxHeartbeats 1000000 in
set_option maxRecDepth 100000 in
theorem encodeAct_swap (o : Opn) (p : Int) (s : ByteArray) (v : Value) (w : World) (hv : v.oneCell' = true) (hs : s.size ≤ 3000) :
    Calls Try.prog 38 #[Ac.val ⟨4, o, p, s⟩ v] w (BytesPost ([UInt8.ofNat 0] ++ s.data.toList) w) := by
  obtain ⟨i0, hi, hz0, hz1, hz2⟩ := info_parts info_byte
  obtain ⟨ok, ot, o1, o2, od, oc⟩ := o
  unfold Ac.val
  simp only
  have OW : ((w.alloc (.cells #[.int .i64 4, .int .i64 ok, .string ot, .int .i64 o1, .int .i64 o2, v, .int .i64 od, .bool oc, .int .i64 p, .string s] 41)).alloc (.cells #[.int .u8 0] 5)).ownsRow (w.heap.size + 1) 5 1 (.slice (some ⟨w.heap.size + 1, 0, none⟩) 1 1) 1 [.int .u8 0] := by
    have := own_one_row (w.alloc (.cells #[.int .i64 4, .int .i64 ok, .string ot, .int .i64 o1, .int .i64 o2, v, .int .i64 od, .bool oc, .int .i64 p, .string s] 41)) 0 5
    simpa only [World.size_alloc] using this
  have OH := Lib.hid OW
  clear OW
  have HL : Hid (([UInt8.ofNat 0] ++ s.data.toList).length = 1 + s.size) := by show _ = _; simp; omega
  generalize hL : [UInt8.ofNat 0] ++ s.data.toList = L at HL ⊢
  have HC : Hid ([Value.int .u8 0] ++ Lib.strCells s = Lib.byteCells L) := by show _ = _; rw [← hL, Lib.byteCells_append]; rfl
  clear hL
  go_enter Try.func38, Try.ntmps38
  go_wp2_with (first
    | (at_builtin; refine Lib.wpList_append_own_string _ rfl _ _ 34 9 rfl (w.heap.size + 1) 5 i0 Try.underlying34 Try.underlying9 hi hz0 hz1 hz2 _ _ _ rfl OH.out s rfl (by unfold maxLen; omega) (by omega) (by simp) ?_; intro v' w2 hown' hgrow _)
    | fail)
  rw [HC.out, ← HL.out] at hown'
  have hO := owned_bytes hown'
  obtain ⟨ra, rc, rfl⟩ := hO.slice
  have hS := out_sl hO
  have hb : Below w.heap.size w w2 := by
    refine (Below.alloc (Below.alloc (Below.refl _ _) (Nat.le_refl _) _) (by simp) _).trans ((Below.refl _ _).grown hgrow (by simp; omega) (fun g hg => ?_))
    have hg' : (Value.slice (some ⟨w.heap.size + 1, 0, none⟩) 1 1).ownBlock = some g := hg
    simp [Value.ownBlock] at hg'
    omega
  clear hown' hO
  go_wp2
  go_ret
  unfold BytesPost
  exact ⟨ra, rc, rfl, hb, hS.wide byteF_firm (fun b hb _ => by (have : w.heap.size + 1 ≤ b := hb); show w.heap.size ≤ b; omega)⟩

set_option maxHeartbeats 1000000 in
set_option maxRecDepth 100000 in
theorem encodeAct_do (o : Opn) (p : Int) (s : ByteArray) (vo : Option Addr) (m vcap : Nat) (vs : List Val) (w : World) (ht : o.type.size ≤ maxLen) (hV : SlR w 3 valR vo m vcap vs) (h : wireE o vs = 0) :
    Calls Try.prog 38 #[Ac.val ⟨1, o, p, s⟩ (.slice vo m vcap)] w (BytesPost (opL o vs) w) := by
  have HC : Hid (∀ wx, Below w.heap.size w wx → Calls Try.prog 11 #[o.val (.slice vo m vcap)] wx (EncPost o vs wx)) := fun wx hb => encode_any o vo m vcap vs wx ht (hV.mono valR_stays hb)
  have HE : Hid (encL o vs = opL o vs) := by show _ = _; unfold encL; rw [if_pos h]
  unfold EncPost at HC
  rw [HE.out, h] at HC
  clear HE h
  generalize opL o vs = L at HC ⊢
  obtain ⟨ok, ot, o1, o2, od, oc⟩ := o
  unfold Opn.val at HC
  unfold Ac.val
  simp only at HC ⊢
  go_enter Try.func38, Try.ntmps38
  go_wp2_with fail
  refine (HC.out _ (by repeat (first | exact Below.refl _ _ | assumption | refine below_step ?_ (by assumption) | refine below_step ?_ (Joins.below_draws _ _ _) | (refine Below.alloc ?_ (by first | omega | (simp; done) | (simp; omega)) _) | (refine Below.setCell ?_ (by first | omega | (simp; done) | (simp; omega)) _) | refine Below.drew ?_))).mono ?_
  rintro e w1 ⟨ao1, cap1, rfl, hb1, hS1⟩
  go_wp2
  go_ret
  unfold BytesPost
  exact ⟨ao1, cap1, rfl, (by repeat (first | exact Below.refl _ _ | assumption | refine below_step ?_ (by assumption) | refine below_step ?_ (Joins.below_draws _ _ _) | (refine Below.alloc ?_ (by first | omega | (simp; done) | (simp; omega)) _) | (refine Below.setCell ?_ (by first | omega | (simp; done) | (simp; omega)) _) | refine Below.drew ?_)), hS1.wide byteF_firm (fun b hb _ => by (have h2 : (w.alloc _).heap.size ≤ b := hb); (simp only [World.size_alloc] at h2); show w.heap.size ≤ b; omega)⟩
theorem encodeAct_any (a : Ac) (vo : Option Addr) (m vcap : Nat) (vs : List Val) (w : World) (ht : a.op.type.size ≤ maxLen) (hV : SlR w 3 valR vo m vcap vs) (h : noteE a vs = 0) :
    Calls Try.prog 38 #[a.val (.slice vo m vcap)] w (BytesPost (noteL a vs) w) := by
  obtain ⟨kind, op, pick, source⟩ := a
  rcases noteE_may h with ⟨h1, h2⟩ | ⟨h1, h2⟩
  · simp only at h1 h2
    subst h1
    exact encodeAct_swap op pick source _ w rfl h2
  · simp only at h1 h2
    subst h1
    exact encodeAct_do op pick source vo m vcap vs w ht hV h2

set_option maxHeartbeats 1000000 in
set_option maxRecDepth 100000 in
theorem noteBytes_swap (o : Opn) (p : Int) (s : ByteArray) (v : Value) (w : World) (hv : v.oneCell' = true) (hs : s.size ≤ 3000) :
    Calls Try.prog 42 #[Ac.val ⟨4, o, p, s⟩ v] w (BytesPost ([UInt8.ofNat 0] ++ s.data.toList) w) := by
  obtain ⟨ok, ot, o1, o2, od, oc⟩ := o
  unfold Ac.val
  simp only
  have HL : Hid (([UInt8.ofNat 0] ++ s.data.toList).length = 1 + s.size) := by show _ = _; simp; omega
  generalize hL : [UInt8.ofNat 0] ++ s.data.toList = L at HL ⊢
  have HLL := Lib.hid hL
  clear hL
  go_enter Try.func42, Try.ntmps42
  go_wp2_with fail
  obtain ⟨cap1, w1, hrun, hb1, hS1⟩ := bytes_made (P := Try.prog) (src := 9) (dst := 34) Try.underlying9 Try.underlying34 Try.underlying5 ((w.alloc (.cells #[.int .i64 4, .int .i64 ok, .string ot, .int .i64 o1, .int .i64 o2, v, .int .i64 od, .bool oc, .int .i64 p, .string s] 41)).alloc (.cells #[.int .u8 0] 5)) s (by unfold maxLen; omega)
  rw [hrun]
  clear hrun
  simp only [Result.andThen]
  rw [Oper.upon_value]
  have hs1 := hb1.size
  simp only [World.size_alloc] at hS1 hs1
  have hc0 : w1.cell? ⟨w.heap.size + 1, 0, none⟩ = some (.int .u8 ((0 : Nat) : Int)) := by rw [(bcell hb1).1 _ _ (by simp)]; simp
  have hS0 : SlF (from_ w.heap.size) w1 1 byteF (some ⟨w.heap.size + 1, 0, none⟩) 1 1 [UInt8.ofNat 0] := slF_one (by show w.heap.size ≤ w.heap.size + 1; omega) (by omega) rfl hc0
  go_wp2_with fail
  refine (joined_any _ _ _ _ _ _ _ _ _ _ _ hS0 hS1 (by omega)).mono ?_
  rintro e w2 ⟨ao2, cap2, rfl, hb2, hS2⟩
  go_wp2
  go_ret
  unfold BytesPost
  rw [HL.out]
  rw [HLL.out] at hS2
  exact ⟨ao2, cap2, rfl, (by repeat (first | exact Below.refl _ _ | assumption | refine below_step ?_ (by assumption) | refine below_step ?_ (Joins.below_draws _ _ _) | (refine Below.alloc ?_ (by first | omega | (simp; done) | (simp; omega)) _) | (refine Below.setCell ?_ (by first | omega | (simp; done) | (simp; omega)) _) | refine Below.drew ?_)), hS2.same byteF_firm (by refine Same.into ?_ (fun b h _ => (by (first | exact h | exact trivial | (revert h; show _ ≤ b → _ ≤ b; intro h; (try simp only [World.size_alloc, World.size_setCell, World.size_drew] at *); omega)))); repeat (first | exact Same.refl | exact Same.below (by assumption) | (refine Same.trans ?_ (Same.setCell _ (by show ¬ (_ ≤ _); (try simp only [World.size_alloc, World.size_setCell, World.size_drew] at *); omega))) | refine Same.trans ?_ Same.drew | refine Same.trans ?_ (Same.alloc _) | refine Same.trans ?_ (Same.below (by assumption))))⟩
set_option maxHeartbeats 1000000 in
set_option maxRecDepth 100000 in
theorem noteBytes_do (o : Opn) (p : Int) (s : ByteArray) (vo : Option Addr) (m vcap : Nat) (vs : List Val) (w : World) (ht : o.type.size ≤ maxLen) (hV : SlR w 3 valR vo m vcap vs) (h : wireE o vs = 0) :
    Calls Try.prog 42 #[Ac.val ⟨1, o, p, s⟩ (.slice vo m vcap)] w (BytesPost (opL o vs) w) := by
  have HC : Hid (∀ wx, Below w.heap.size w wx → Calls Try.prog 12 #[o.val (.slice vo m vcap)] wx (EncPost o vs wx)) := fun wx hb => opb_any o vo m vcap vs wx ht (hV.mono valR_stays hb)
  have HE : Hid (encL o vs = opL o vs) := by show _ = _; unfold encL; rw [if_pos h]
  unfold EncPost at HC
  rw [HE.out, h] at HC
  clear HE h
  generalize opL o vs = L at HC ⊢
  obtain ⟨ok, ot, o1, o2, od, oc⟩ := o
  unfold Opn.val at HC
  unfold Ac.val
  simp only at HC ⊢
  go_enter Try.func42, Try.ntmps42
  go_wp2_with fail
  refine (HC.out _ (by repeat (first | exact Below.refl _ _ | assumption | refine below_step ?_ (by assumption) | refine below_step ?_ (Joins.below_draws _ _ _) | (refine Below.alloc ?_ (by first | omega | (simp; done) | (simp; omega)) _) | (refine Below.setCell ?_ (by first | omega | (simp; done) | (simp; omega)) _) | refine Below.drew ?_))).mono ?_
  rintro e w1 ⟨ao1, cap1, rfl, hb1, hS1⟩
  go_wp2
  go_ret
  unfold BytesPost
  exact ⟨ao1, cap1, rfl, (by repeat (first | exact Below.refl _ _ | assumption | refine below_step ?_ (by assumption) | refine below_step ?_ (Joins.below_draws _ _ _) | (refine Below.alloc ?_ (by first | omega | (simp; done) | (simp; omega)) _) | (refine Below.setCell ?_ (by first | omega | (simp; done) | (simp; omega)) _) | refine Below.drew ?_)), hS1.wide byteF_firm (fun b hb _ => by (have h2 : (w.alloc _).heap.size ≤ b := hb); (simp only [World.size_alloc] at h2); show w.heap.size ≤ b; omega)⟩
theorem noteBytes_any (a : Ac) (vo : Option Addr) (m vcap : Nat) (vs : List Val) (w : World) (ht : a.op.type.size ≤ maxLen) (hV : SlR w 3 valR vo m vcap vs) (h : noteE a vs = 0) :
    Calls Try.prog 42 #[a.val (.slice vo m vcap)] w (BytesPost (noteL a vs) w) := by
  obtain ⟨kind, op, pick, source⟩ := a
  rcases noteE_may h with ⟨h1, h2⟩ | ⟨h1, h2⟩
  · simp only at h1 h2
    subst h1
    exact noteBytes_swap op pick source _ w rfl h2
  · simp only at h1 h2
    subst h1
    exact noteBytes_do op pick source vo m vcap vs w ht hV h2
end Go.Proofs.Ytciomaeieggbiaa
