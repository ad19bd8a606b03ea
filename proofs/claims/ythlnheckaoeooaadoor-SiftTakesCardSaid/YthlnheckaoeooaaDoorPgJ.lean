/-
  The walks of the program's Check, tenth part: who uses a type. Printed by pgj.py.
-/
import Derived.Test.YthlnheckaoeooaaDoorPgH
namespace Go.Proofs.YthlnheckaoeooaaDoor
open Go.RowKit
set_option linter.unusedVariables false
set_option linter.unusedSimpArgs false

theorem oneF : OneT Tryd.prog 155 := ⟨by kernel_rfl, _, Tryd.underlying155, rfl⟩
instance : OneI Tryd.prog 155 := ⟨oneF⟩
section
variable {P : Program} {dst : Option Tmp} {oty : TypeId} {pos : String} {after : Array Edge} {g : Option (Nat × Bool)} {l : List Value} {ds : List Deferred} {Q : Exit → Act → World → Prop} {K : Act → World → Prop}
variable {At : PS → World → Prop} {b : Nat} {u w : World} {s : PS} {L : List Ent} {ty j : Nat}
theorem Mem.cell0 {i z : Nat} {c : Value} {cs : List Value} {t : TypeId} (M : Mem At b u w s L) (hi : L[i]? = some (own z (c :: cs) t)) : w.cell? ⟨z, 0, none⟩ = some c := by
  rw [(M.own_ (Mem.of_get hi)).cell]; rfl
theorem Mem.lt0 {i z : Nat} {cs : List Value} {t : TypeId} (M : Mem At b u w s L) (hi : L[i]? = some (own z cs t)) : z < w.heap.size := (M.low _ (Mem.of_get hi) _ rfl).2
/-- A variable of one cell that holds a text that came in. -/
theorem q_box1 (M : Mem At b u w s L) {s1 : ByteArray} [hy : Nth l j (.string s1)] {F : Nat → List Value} [hd : ∀ z, PutI l dst (.pointer (some ⟨z, 0, none⟩)) (F z)] (h : ∀ z w', Mem At b u w' s (own z [.string s1] ty :: L) → K ⟨(F z).toArray, ds⟩ w') : OWP P ⟨dst, .box ty (.tmp j), oty, pos, after, g⟩ ⟨l.toArray, ds⟩ w K Q := by
  refine owp_of ?_
  have hy' := eval_tmp (ds := ds) hy.nth
  unfold Oper.wp execOp
  simp only [Instr.box, hy', Sem.run_bind, newVar, newRow, newObj, Value.cells]
  have hlow : ∀ y, (own w.heap.size [.string s1] ty).blk = some y → w.heap.size ≤ y ∧ y < (w.alloc (.cells [.string s1].toArray ty)).heap.size := fun y hy => by
    have e : w.heap.size = y := by injection hy
    subst e
    simp
  have key := h w.heap.size (w.alloc (.cells [Value.string s1].toArray ty)) (M.push (e := own w.heap.size [Value.string s1] ty) (Joins.below_alloc1 w _) (own_firm _ _ _) hlow (fun G _ => heap_alloc_new w (.cells [Value.string s1].toArray ty)))
  rw [← (hd w.heap.size).put] at key
  exact key
theorem q_varf (M : Mem At b u w s L) (hi : (P.info? ty).map (·.zero) = some (some .nilFunc)) {F : Nat → List Value} [hd : ∀ z, PutI l dst (.pointer (some ⟨z, 0, none⟩)) (F z)] (h : ∀ z w', Mem At b u w' s (own z [.nilFunc] ty :: L) → K ⟨(F z).toArray, ds⟩ w') : OWP P ⟨dst, .alloc ty, oty, pos, after, g⟩ ⟨l.toArray, ds⟩ w K Q :=
  owp_of (op_var M ty rfl [.nilFunc] .nilFunc rfl hi (fun z w' M' => by rw [(hd z).put]; exact h z w' M'))
/-- A function value made, with one variable in its reach. -/
theorem q_func (fn : Fn) {j' : Nat} {c : Value} [hc : Nth l j' c] {l' : List Value} [hd : PutI l dst (.func fn #[] #[c]) l'] (h : K ⟨l'.toArray, ds⟩ w) : OWP P ⟨dst, .makeFunc fn #[] #[.tmp j'], oty, pos, after, g⟩ ⟨l.toArray, ds⟩ w K Q := by
  refine owp_of ?_
  have hk : K (Act.put ⟨l.toArray, ds⟩ dst (.func fn #[] #[c])) w := by rw [hd.put]; exact h
  unfold Oper.wp execOp
  simp only [Instr.makeFunc, Sem.run_bind, Sem.run_pure, Result.andThen_ok, List.map_toArray, List.map_nil, List.map_cons, eval_tmp hc.nth]
  exact hk
end
theorem zF : (Tryd.prog.info? 155).map (·.zero) = some (some .nilFunc) := by kernel_rfl
section
variable {g : Nat} {F : Nat → Prop} {ao : Option Addr} {n cap : Nat} {w0 : World}
set_option maxRecDepth 8000 in
set_option maxHeartbeats 4000000 in
theorem uses1_any (hg : g < w0.heap.size) (p : Pat) (so : Option Addr) (sn scap : Nat) (zn : Nat) (nm : ByteArray) (hz : zn < w0.heap.size) (h0 : w0.cell? ⟨zn, 0, none⟩ = some (.string nm)) :
    Calls Tryd.prog 88 #[.agg (pat18 p so sn scap).toArray, .pointer (some ⟨zn, 0, none⟩)] w0 fun e w' => e = .returned (.bool (sameS p.type nm)) ∧ Below w0.heap.size w0 w' := by
  have M := Mem.begin hg ⟨0, 0⟩
  have HN0 : Hid (∀ wx, Below w0.heap.size w0 wx → wx.cell? ⟨zn, 0, none⟩ = some (.string nm)) := fun wx hb => by rw [(bcell hb).1 _ _ hz]; exact h0
  have HV : Hid (sameS p.type nm = (p.type.toList == nm.toList)) := rfl
  unfold pat18
  clear hg hz h0
  go_enter Tryd.func88, Tryd.ntmps88
  go_wp2_with (first | (with_reducible (first | (refine wB (L := []) M ?_; clear M; intro za w1 M) | refine wl M ?_ | refine wlg M ?_ | (refine ws M ?_; clear M; intro w M) | (refine wsc M ?_; clear M; intro w M) | (refine wV M ?_; clear M; intro z w M) | (refine wR M ?_; clear M; intro q w M) | refine o_skipT ?_ | refine o_skipF ?_ | refine wC (HN0.out _ M.new) ?_)))
  go_ret
  rw [HV.out]
  exact ⟨rfl, M.new⟩
set_option maxRecDepth 8000 in
set_option maxHeartbeats 4000000 in
theorem ixPat_any (hg : g < w0.heap.size) {l : List Pat} (hX : SlF F w0 18 patF ao n cap l) (pr : Pat → Bool) (z : Nat) (HC0 : ∀ p ∈ l, ∀ so sn sc wx, Below w0.heap.size w0 wx → Calls Tryd.prog 88 #[.agg (pat18 p so sn sc).toArray, .pointer (some ⟨z, 0, none⟩)] wx fun e w' => e = .returned (.bool (pr p)) ∧ Below wx.heap.size wx w') :
    Calls Tryd.prog 105 #[.slice ao n cap, .func (Fn.func 88) #[] #[.pointer (some ⟨z, 0, none⟩)]] w0 fun e w' => e = .returned (.int .i64 (placeV (l.findIdx pr) l.length)) ∧ Below w0.heap.size w0 w' := by
  have NL := Lib.hid hX.len
  have hle := hX.le
  have M := Mem.begin hg ⟨0, 0⟩
  have HX := Lib.hid hX
  have HC0 := Lib.hid HC0
  clear hX hg
  go_enter Tryd.func105, Tryd.ntmps105
  go_wp2_with (first | (with_reducible (first | refine wl M ?_ | refine wlg M ?_ | (refine ws M ?_; clear M; intro w M) | (refine wsc M ?_; clear M; intro w M) | (refine wV M ?_; clear M; intro z w M) | (refine wR M ?_; clear M; intro q w M) | refine o_skipT ?_ | refine o_skipF ?_)))
  go_loopg [8] n (fun f i wr => ∃ k : Nat, k + f = n ∧ i = .int .i64 k ∧ Mem (StaysB g w0) g w0 wr ⟨0, 0⟩ [] ∧ Hid (NoB l pr k))
  case atStart => exact ⟨0, by omega, rfl, M, noB_zero _ _⟩
  case round =>
    clear M
    obtain ⟨k, hk, rfl, M, HB⟩ := hrel
    by_cases hlt : k < n
    · have hkl : k < l.length := by have := NL.out; omega
      obtain ⟨ca, oa, rowa, hixa, -, hrra, hwa⟩ := SlF.rowAt (P := Tryd.prog) HX.out patF_firm Tryd.underlying53 size_pat (i := k) hkl
      have HC1 := Lib.hid (HC0.out l[k] (List.getElem_mem hkl))
      have HS : Hid (pr l[k] = true → placeV (l.findIdx pr) l.length = k) := fun h => place_at HB.out hkl h
      have HT : Hid (pr l[k] = false → NoB l pr (k + 1)) := fun h => noB_succ HB.out hkl h
      obtain ⟨p1, q1, s1, ea, u1⟩ := patF.open18 hrra
      subst ea
      have HC := Lib.hid (HC1.out p1 q1 s1)
      clear HC1
      have HR := Lib.hid (fun wx hb => (hwa wx hb).1)
      clear hwa u1 HB
      unfold pat18 at HR HC
      generalize l[k] = p at HR HC HS HT
      cases hsm : pr p with
      | true =>
        have HV := Lib.hid (HS.out hsm)
        rw [hsm] at HC
        clear HS HT hsm
        go_wp2_with (first | (with_reducible (first | refine wl M ?_ | refine wlg M ?_ | (refine ws M ?_; clear M; intro w M) | (refine wsc M ?_; clear M; intro w M) | (refine wV M ?_; clear M; intro z w M) | (refine wR M ?_; clear M; intro q w M) | refine o_skipT ?_ | refine o_skipF ?_ | refine wA (HR.out _ M.new) ?_)) | (go_at_call 88; with_reducible refine (HC.out _ M.new).mono ?_; rintro e w5 ⟨rfl, hb5⟩; replace M := M.below hb5; clear hb5))
        go_ret
        rw [HV.out]
        exact ⟨rfl, M.new⟩
      | false =>
        have HV := Lib.hid (HT.out hsm)
        rw [hsm] at HC
        clear HS HT hsm
        go_wp2_with (first | (with_reducible (first | refine wl M ?_ | refine wlg M ?_ | (refine ws M ?_; clear M; intro w M) | (refine wsc M ?_; clear M; intro w M) | (refine wV M ?_; clear M; intro z w M) | (refine wR M ?_; clear M; intro q w M) | refine o_skipT ?_ | refine o_skipF ?_ | refine wA (HR.out _ M.new) ?_)) | (go_at_call 88; with_reducible refine (HC.out _ M.new).mono ?_; rintro e w5 ⟨rfl, hb5⟩; replace M := M.below hb5; clear hb5))
        go_roundg (n - (k + 1))
        case measure => omega
        case rel => exact ⟨k + 1, by omega, by go_num, M, HV⟩
    · have HV : Hid (placeV (l.findIdx pr) l.length = -1) := by
        have e : k = l.length := by have := NL.out; omega
        exact place_none (e ▸ HB.out)
      go_wp2_with (first | (with_reducible (first | refine wl M ?_ | refine wlg M ?_ | (refine ws M ?_; clear M; intro w M) | (refine wsc M ?_; clear M; intro w M) | (refine wV M ?_; clear M; intro z w M) | (refine wR M ?_; clear M; intro q w M) | refine o_skipT ?_ | refine o_skipF ?_)))
      go_ret
      rw [HV.out]
      exact ⟨rfl, M.new⟩
set_option maxRecDepth 8000 in
set_option maxHeartbeats 4000000 in
theorem conPat_any (hg : g < w0.heap.size) {l : List Pat} (hX : SlF F w0 18 patF ao n cap l) (pr : Pat → Bool) (z : Nat) (HC0 : ∀ p ∈ l, ∀ so sn sc wx, Below w0.heap.size w0 wx → Calls Tryd.prog 88 #[.agg (pat18 p so sn sc).toArray, .pointer (some ⟨z, 0, none⟩)] wx fun e w' => e = .returned (.bool (pr p)) ∧ Below wx.heap.size wx w') :
    Calls Tryd.prog 89 #[.slice ao n cap, .func (Fn.func 88) #[] #[.pointer (some ⟨z, 0, none⟩)]] w0 fun e w' => e = .returned (.bool (l.any pr)) ∧ Below w0.heap.size w0 w' := by
  have M := Mem.begin hg ⟨0, 0⟩
  have HI : Hid (∀ wx, Below w0.heap.size w0 wx → Calls Tryd.prog 105 #[.slice ao n cap, .func (Fn.func 88) #[] #[.pointer (some ⟨z, 0, none⟩)]] wx fun e w' => e = .returned (.int .i64 (placeV (l.findIdx pr) l.length)) ∧ Below wx.heap.size wx w') := fun wx hb =>
    ixPat_any (Nat.lt_of_lt_of_le hg hb.size) (hX.below patF_firm hb) pr z (fun p hp so sn sc wy hby => HC0 p hp so sn sc wy (hb.trans (hby.mono hb.size)))
  have hge : decide ((0 : Int) ≤ placeV (l.findIdx pr) l.length) = decide (l.findIdx pr < l.length) := by
    unfold placeV
    by_cases h : l.findIdx pr < l.length
    · rw [if_pos h]; simp [h]
    · rw [if_neg h]; simp [h]
  have hany : l.any pr = decide (l.findIdx pr < l.length) := by rw [Bool.eq_iff_iff, decide_eq_true_iff, List.findIdx_lt_length, List.any_eq_true]
  rw [hany, ← hge]
  generalize placeV (l.findIdx pr) l.length = v at HI ⊢
  clear hg hX HC0 hge hany
  go_enter Tryd.func89, Tryd.ntmps89
  go_wp2_with (first | (with_reducible (first | refine wl M ?_ | refine wlg M ?_ | (refine ws M ?_; clear M; intro w M) | (refine wsc M ?_; clear M; intro w M) | (refine wV M ?_; clear M; intro z w M) | (refine wR M ?_; clear M; intro q w M) | refine o_skipT ?_ | refine o_skipF ?_)) | (go_at_call 105; with_reducible refine (HI.out _ M.new).mono ?_; rintro e w5 ⟨rfl, hb5⟩; replace M := M.below hb5; clear hb5))
  go_ret
  exact ⟨rfl, M.new⟩
set_option maxRecDepth 8000 in
set_option maxHeartbeats 4000000 in
theorem ixMan_any (hg : g < w0.heap.size) {l : List Many} (hX : SlF F w0 20 manF ao n cap l) (pr : Many → Bool) (z : Nat) (HC0 : ∀ p ∈ l, ∀ so sn sc wx, Below w0.heap.size w0 wx → Calls Tryd.prog 91 #[.agg (man20 p so sn sc).toArray, .pointer (some ⟨z, 0, none⟩)] wx fun e w' => e = .returned (.bool (pr p)) ∧ Below wx.heap.size wx w') :
    Calls Tryd.prog 106 #[.slice ao n cap, .func (Fn.func 91) #[] #[.pointer (some ⟨z, 0, none⟩)]] w0 fun e w' => e = .returned (.int .i64 (placeV (l.findIdx pr) l.length)) ∧ Below w0.heap.size w0 w' := by
  have NL := Lib.hid hX.len
  have hle := hX.le
  have M := Mem.begin hg ⟨0, 0⟩
  have HX := Lib.hid hX
  have HC0 := Lib.hid HC0
  clear hX hg
  go_enter Tryd.func106, Tryd.ntmps106
  go_wp2_with (first | (with_reducible (first | refine wl M ?_ | refine wlg M ?_ | (refine ws M ?_; clear M; intro w M) | (refine wsc M ?_; clear M; intro w M) | (refine wV M ?_; clear M; intro z w M) | (refine wR M ?_; clear M; intro q w M) | refine o_skipT ?_ | refine o_skipF ?_)))
  go_loopg [8] n (fun f i wr => ∃ k : Nat, k + f = n ∧ i = .int .i64 k ∧ Mem (StaysB g w0) g w0 wr ⟨0, 0⟩ [] ∧ Hid (NoB l pr k))
  case atStart => exact ⟨0, by omega, rfl, M, noB_zero _ _⟩
  case round =>
    clear M
    obtain ⟨k, hk, rfl, M, HB⟩ := hrel
    by_cases hlt : k < n
    · have hkl : k < l.length := by have := NL.out; omega
      obtain ⟨ca, oa, rowa, hixa, -, hrra, hwa⟩ := SlF.rowAt (P := Tryd.prog) HX.out manF_firm Tryd.underlying54 size_man (i := k) hkl
      have HC1 := Lib.hid (HC0.out l[k] (List.getElem_mem hkl))
      have HS : Hid (pr l[k] = true → placeV (l.findIdx pr) l.length = k) := fun h => place_at HB.out hkl h
      have HT : Hid (pr l[k] = false → NoB l pr (k + 1)) := fun h => noB_succ HB.out hkl h
      obtain ⟨p1, q1, s1, ea, u1⟩ := manF.open20 hrra
      subst ea
      have HC := Lib.hid (HC1.out p1 q1 s1)
      clear HC1
      have HR := Lib.hid (fun wx hb => (hwa wx hb).1)
      clear hwa u1 HB
      unfold man20 pat18 at HR HC
      generalize l[k] = p at HR HC HS HT
      cases hsm : pr p with
      | true =>
        have HV := Lib.hid (HS.out hsm)
        rw [hsm] at HC
        clear HS HT hsm
        go_wp2_with (first | (with_reducible (first | refine wl M ?_ | refine wlg M ?_ | (refine ws M ?_; clear M; intro w M) | (refine wsc M ?_; clear M; intro w M) | (refine wV M ?_; clear M; intro z w M) | (refine wR M ?_; clear M; intro q w M) | refine o_skipT ?_ | refine o_skipF ?_ | refine wA (HR.out _ M.new) ?_)) | (go_at_call 91; with_reducible refine (HC.out _ M.new).mono ?_; rintro e w5 ⟨rfl, hb5⟩; replace M := M.below hb5; clear hb5))
        go_ret
        rw [HV.out]
        exact ⟨rfl, M.new⟩
      | false =>
        have HV := Lib.hid (HT.out hsm)
        rw [hsm] at HC
        clear HS HT hsm
        go_wp2_with (first | (with_reducible (first | refine wl M ?_ | refine wlg M ?_ | (refine ws M ?_; clear M; intro w M) | (refine wsc M ?_; clear M; intro w M) | (refine wV M ?_; clear M; intro z w M) | (refine wR M ?_; clear M; intro q w M) | refine o_skipT ?_ | refine o_skipF ?_ | refine wA (HR.out _ M.new) ?_)) | (go_at_call 91; with_reducible refine (HC.out _ M.new).mono ?_; rintro e w5 ⟨rfl, hb5⟩; replace M := M.below hb5; clear hb5))
        go_roundg (n - (k + 1))
        case measure => omega
        case rel => exact ⟨k + 1, by omega, by go_num, M, HV⟩
    · have HV : Hid (placeV (l.findIdx pr) l.length = -1) := by
        have e : k = l.length := by have := NL.out; omega
        exact place_none (e ▸ HB.out)
      go_wp2_with (first | (with_reducible (first | refine wl M ?_ | refine wlg M ?_ | (refine ws M ?_; clear M; intro w M) | (refine wsc M ?_; clear M; intro w M) | (refine wV M ?_; clear M; intro z w M) | (refine wR M ?_; clear M; intro q w M) | refine o_skipT ?_ | refine o_skipF ?_)))
      go_ret
      rw [HV.out]
      exact ⟨rfl, M.new⟩
set_option maxRecDepth 8000 in
set_option maxHeartbeats 4000000 in
theorem conMan_any (hg : g < w0.heap.size) {l : List Many} (hX : SlF F w0 20 manF ao n cap l) (pr : Many → Bool) (z : Nat) (HC0 : ∀ p ∈ l, ∀ so sn sc wx, Below w0.heap.size w0 wx → Calls Tryd.prog 91 #[.agg (man20 p so sn sc).toArray, .pointer (some ⟨z, 0, none⟩)] wx fun e w' => e = .returned (.bool (pr p)) ∧ Below wx.heap.size wx w') :
    Calls Tryd.prog 90 #[.slice ao n cap, .func (Fn.func 91) #[] #[.pointer (some ⟨z, 0, none⟩)]] w0 fun e w' => e = .returned (.bool (l.any pr)) ∧ Below w0.heap.size w0 w' := by
  have M := Mem.begin hg ⟨0, 0⟩
  have HI : Hid (∀ wx, Below w0.heap.size w0 wx → Calls Tryd.prog 106 #[.slice ao n cap, .func (Fn.func 91) #[] #[.pointer (some ⟨z, 0, none⟩)]] wx fun e w' => e = .returned (.int .i64 (placeV (l.findIdx pr) l.length)) ∧ Below wx.heap.size wx w') := fun wx hb =>
    ixMan_any (Nat.lt_of_lt_of_le hg hb.size) (hX.below manF_firm hb) pr z (fun p hp so sn sc wy hby => HC0 p hp so sn sc wy (hb.trans (hby.mono hb.size)))
  have hge : decide ((0 : Int) ≤ placeV (l.findIdx pr) l.length) = decide (l.findIdx pr < l.length) := by
    unfold placeV
    by_cases h : l.findIdx pr < l.length
    · rw [if_pos h]; simp [h]
    · rw [if_neg h]; simp [h]
  have hany : l.any pr = decide (l.findIdx pr < l.length) := by rw [Bool.eq_iff_iff, decide_eq_true_iff, List.findIdx_lt_length, List.any_eq_true]
  rw [hany, ← hge]
  generalize placeV (l.findIdx pr) l.length = v at HI ⊢
  clear hg hX HC0 hge hany
  go_enter Tryd.func90, Tryd.ntmps90
  go_wp2_with (first | (with_reducible (first | refine wl M ?_ | refine wlg M ?_ | (refine ws M ?_; clear M; intro w M) | (refine wsc M ?_; clear M; intro w M) | (refine wV M ?_; clear M; intro z w M) | (refine wR M ?_; clear M; intro q w M) | refine o_skipT ?_ | refine o_skipF ?_)) | (go_at_call 106; with_reducible refine (HI.out _ M.new).mono ?_; rintro e w5 ⟨rfl, hb5⟩; replace M := M.below hb5; clear hb5))
  go_ret
  exact ⟨rfl, M.new⟩
set_option maxRecDepth 8000 in
set_option maxHeartbeats 4000000 in
theorem uses2_any (hg : g < w0.heap.size) (m : Many) (so : Option Addr) (sn scap : Nat) (zf zn : Nat) (nm : ByteArray) (hzf : zf < w0.heap.size) (hz : zn < w0.heap.size) (h1 : w0.cell? ⟨zf, 0, none⟩ = some (.func (Fn.func 88) #[] #[.pointer (some ⟨zn, 0, none⟩)])) (h0 : w0.cell? ⟨zn, 0, none⟩ = some (.string nm)) :
    Calls Tryd.prog 91 #[.agg (man20 m so sn scap).toArray, .pointer (some ⟨zf, 0, none⟩)] w0 fun e w' => e = .returned (.bool (sameS m.pat.type nm)) ∧ Below w0.heap.size w0 w' := by
  have M := Mem.begin hg ⟨0, 0⟩
  have HF0 : Hid (∀ wx, Below w0.heap.size w0 wx → wx.cell? ⟨zf, 0, none⟩ = some (.func (Fn.func 88) #[] #[.pointer (some ⟨zn, 0, none⟩)])) := fun wx hb => by rw [(bcell hb).1 _ _ hzf]; exact h1
  have HC : Hid (∀ wx, Below w0.heap.size w0 wx → Calls Tryd.prog 88 #[.agg (pat18 m.pat so sn scap).toArray, .pointer (some ⟨zn, 0, none⟩)] wx fun e w' => e = .returned (.bool (sameS m.pat.type nm)) ∧ Below wx.heap.size wx w') := fun wx hb =>
    uses1_any (Nat.lt_of_lt_of_le hg hb.size) m.pat so sn scap zn nm (Nat.lt_of_lt_of_le hz hb.size) (by rw [(bcell hb).1 _ _ hz]; exact h0)
  unfold man20 pat18
  unfold pat18 at HC
  clear hg hz hzf h0 h1
  go_enter Tryd.func91, Tryd.ntmps91
  go_wp2_with (first | (with_reducible (first | (refine wB (L := []) M ?_; clear M; intro za w1 M) | refine wl M ?_ | refine wlg M ?_ | (refine ws M ?_; clear M; intro w M) | (refine wsc M ?_; clear M; intro w M) | (refine wV M ?_; clear M; intro z w M) | (refine wR M ?_; clear M; intro q w M) | refine o_skipT ?_ | refine o_skipF ?_ | refine wC (HF0.out _ M.new) ?_)) | (go_at_call 88; with_reducible refine (HC.out _ M.new).mono ?_; rintro e w5 ⟨rfl, hb5⟩; replace M := M.below hb5; clear hb5))
  go_ret
  exact ⟨rfl, M.new⟩
set_option maxRecDepth 8000 in
set_option maxHeartbeats 8000000 in
theorem uses_any (hg : g < w0.heap.size) (x : Rul) (row : List Value) (h : rulF F w0 row x) (nm : ByteArray) :
    Calls Tryd.prog 56 #[.agg row.toArray, .string nm] w0 fun e w' => e = .returned (.bool (speaks x nm)) ∧ Below w0.heap.size w0 w' := by
  obtain ⟨a1, n1, c1, a2, n2, c2, a3, n3, c3, a4, n4, c4, a6, n6, c6, rfl, X1, X2, X3, X4, X6⟩ := h
  have M := Mem.begin hg ⟨0, 0⟩
  have HW : Hid (∀ (zn : Nat) wx, Below w0.heap.size w0 wx → zn < wx.heap.size → wx.cell? ⟨zn, 0, none⟩ = some (.string nm) → Calls Tryd.prog 89 #[.slice a1 n1 c1, .func (Fn.func 88) #[] #[.pointer (some ⟨zn, 0, none⟩)]] wx fun e w' => e = .returned (.bool (x.whens.any (fun p => sameS p.type nm))) ∧ Below wx.heap.size wx w') := fun zn wx hb hz h0 =>
    conPat_any (Nat.lt_of_lt_of_le hg hb.size) (X1.below patF_firm hb) (fun p => sameS p.type nm) zn (fun p _ so sn sc wy hby => uses1_any (Nat.lt_of_lt_of_le hg (Nat.le_trans hb.size hby.size)) p so sn sc zn nm (Nat.lt_of_lt_of_le hz hby.size) (by rw [(bcell hby).1 _ _ hz]; exact h0))
  have HO : Hid (∀ (zn : Nat) wx, Below w0.heap.size w0 wx → zn < wx.heap.size → wx.cell? ⟨zn, 0, none⟩ = some (.string nm) → Calls Tryd.prog 89 #[.slice a2 n2 c2, .func (Fn.func 88) #[] #[.pointer (some ⟨zn, 0, none⟩)]] wx fun e w' => e = .returned (.bool (x.nots.any (fun p => sameS p.type nm))) ∧ Below wx.heap.size wx w') := fun zn wx hb hz h0 =>
    conPat_any (Nat.lt_of_lt_of_le hg hb.size) (X2.below patF_firm hb) (fun p => sameS p.type nm) zn (fun p _ so sn sc wy hby => uses1_any (Nat.lt_of_lt_of_le hg (Nat.le_trans hb.size hby.size)) p so sn sc zn nm (Nat.lt_of_lt_of_le hz hby.size) (by rw [(bcell hby).1 _ _ hz]; exact h0))
  have HM : Hid (∀ (zf zn : Nat) wx, Below w0.heap.size w0 wx → zf < wx.heap.size → zn < wx.heap.size → wx.cell? ⟨zf, 0, none⟩ = some (.func (Fn.func 88) #[] #[.pointer (some ⟨zn, 0, none⟩)]) → wx.cell? ⟨zn, 0, none⟩ = some (.string nm) → Calls Tryd.prog 90 #[.slice a3 n3 c3, .func (Fn.func 91) #[] #[.pointer (some ⟨zf, 0, none⟩)]] wx fun e w' => e = .returned (.bool (x.manies.any (fun m => sameS m.pat.type nm))) ∧ Below wx.heap.size wx w') := fun zf zn wx hb hzf hz h1 h0 =>
    conMan_any (Nat.lt_of_lt_of_le hg hb.size) (X3.below manF_firm hb) (fun m => sameS m.pat.type nm) zf (fun m _ so sn sc wy hby => uses2_any (Nat.lt_of_lt_of_le hg (Nat.le_trans hb.size hby.size)) m so sn sc zf zn nm (Nat.lt_of_lt_of_le hzf hby.size) (Nat.lt_of_lt_of_le hz hby.size) (by rw [(bcell hby).1 _ _ hzf]; exact h1) (by rw [(bcell hby).1 _ _ hz]; exact h0))
  have HV : Hid (speaks x nm = (x.whens.any (fun p => sameS p.type nm) || x.nots.any (fun p => sameS p.type nm) || x.manies.any (fun m => sameS m.pat.type nm))) := rfl
  rw [HV.out]
  generalize x.whens.any (fun p => sameS p.type nm) = A1 at HW ⊢
  generalize x.nots.any (fun p => sameS p.type nm) = B at HO ⊢
  generalize x.manies.any (fun m => sameS m.pat.type nm) = C at HM ⊢
  unfold rulC
  clear hg X1 X2 X3 X4 X6 HV
  cases A1 <;> cases B
  all_goals
    go_enter Tryd.func56, Tryd.ntmps56
    go_wp2_with (first | (first | ((with_reducible refine o_list rfl fun K hK => ?_); refine q_func _ ?_; refine hK _ _ ?_; clear hK K) | ((with_reducible refine o_listg fun K hK => ?_); refine q_func _ ?_; refine hK _ _ ?_; clear hK K)) | (with_reducible (first | (refine wB (L := []) M ?_; clear M; intro za w1 M) | (refine w_ (q_box1 M ?_); clear M; intro zn w M) | (refine w_ (q_varf M zF ?_); clear M; intro zf w M) | refine wl M ?_ | refine wlg M ?_ | (refine ws M ?_; clear M; intro w M) | (refine wsc M ?_; clear M; intro w M) | (refine wV M ?_; clear M; intro z w M) | (refine wR M ?_; clear M; intro q w M) | refine o_skipT ?_ | refine o_skipF ?_)) | (go_at_call 89; with_reducible refine (HW.out zn _ M.new (M.lt0 (i := 1) rfl) (M.cell0 (i := 1) rfl)).mono ?_; rintro e w5 ⟨rfl, hb5⟩; replace M := M.below hb5; clear hb5) | (go_at_call 89; with_reducible refine (HO.out zn _ M.new (M.lt0 (i := 1) rfl) (M.cell0 (i := 1) rfl)).mono ?_; rintro e w5 ⟨rfl, hb5⟩; replace M := M.below hb5; clear hb5) | (go_at_call 90; with_reducible refine (HM.out zf zn _ M.new (M.lt0 (i := 0) rfl) (M.lt0 (i := 1) rfl) (M.cell0 (i := 0) rfl) (M.cell0 (i := 1) rfl)).mono ?_; rintro e w5 ⟨rfl, hb5⟩; replace M := M.below hb5; clear hb5))
    go_ret
    exact ⟨rfl, M.new⟩
end
end Go.Proofs.YthlnheckaoeooaaDoor
