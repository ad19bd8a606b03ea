/-
  A slice of timers appended to another, both of one's own.
-/
import Derived.Test.YtpnhkkjjdcjmgaaWiC
namespace Go.Proofs.Ytpnhkkjjdcjmgaa
open Go.RowKit
set_option linter.unusedVariables false
set_option linter.unusedSimpArgs false

theorem run_append_none {P : Program} {t e : TypeId} {i : TypeInfo} (ht : P.underlying t = some (.slice e)) (hi : P.info? e = some i) (w : World) (vo ao : Option Addr) (n cap vc : Nat) (hle : n ≤ vc) :
    (Builtin.append_ #[t, t] t #[.slice vo n vc, .slice ao 0 cap]).run P w = .ok (.slice vo n vc) w := by
  cases ao <;> cases vo <;> simp [Builtin.append_, run_underlying ht, sizeOf, typeInfo, hi, Builtin.lenOf, Builtin.firstCells, storeCells, loadCells, loadCellsFrom, hle]
section
variable {dst : Option Tmp} {oty : TypeId} {pos : String} {after : Array Edge} {g : Option (Nat × Bool)} {l : List Value} {ds : List Deferred} {Q : Exit → Act → World → Prop} {K : Act → World → Prop}
variable {At : PS → World → Prop} {b : Nat} {u w : World} {s : PS} {L : List Ent} {j j' iq jq n rc m mc : Nat} {ra ma : Option Addr}
/-- Timers of one's own appended to others of one's own. -/
theorem q_apps {xs ys : List Tm} (M : Mem At b u w s L) [hs : Nth l j (.slice ma m mc)] [hx : Nth l j' (.slice ra n rc)] (hi : L[iq]? = some (slc u.heap.size 60 3 tmF (.slice ma m mc) xs)) (hj : L[jq]? = some (slc u.heap.size 60 3 tmF (.slice ra n rc) ys)) (hl : xs.length + ys.length ≤ 1000000) {F : Option Addr → Nat → List Value}
    [hd : ∀ a c, PutI l dst (.slice a (xs.length + ys.length) c) (F a c)] (h : ∀ a c w', Mem At b u w' s (L.set iq (slc u.heap.size 60 3 tmF (.slice a (xs.length + ys.length) c) (xs ++ ys))) → K ⟨(F a c).toArray, ds⟩ w') :
    OWP Try.prog ⟨dst, .call { callee := .builtin .append, args := #[.tmp j, .tmp j'], argTypes := #[32, 32] }, 32, pos, after, g⟩ ⟨l.toArray, ds⟩ w K Q := by
  have hT : RowT Try.prog 32 60 3 := (inferInstance : RowI Try.prog 32 60 3).row
  obtain ⟨g1, ti, z, g2, g3, g4, g5, g6, g7, g8, g9⟩ := hT.open
  have hown : OwnF (free_ u w L) u.heap.size w 60 3 tmF (.slice ma m mc) xs := M.say _ (Mem.of_get hi)
  have hX := M.slf (plainF_firm tmC) hi (by decide)
  have hY := M.slf (plainF_firm tmC) hj (by decide)
  have hm : m = xs.length := hX.len
  have hn : n = ys.length := hY.len
  have key : ∃ a c w', (Builtin.append_ #[32, 32] 32 #[.slice ma m mc, .slice ra n rc]).run Try.prog w = .ok (.slice a (xs.length + ys.length) c) w' ∧ Mem At b u w' s (L.set iq (slc u.heap.size 60 3 tmF (.slice a (xs.length + ys.length) c) (xs ++ ys))) := by
    by_cases hy0 : ys = []
    · subst hy0
      have hn0 : n = 0 := hn
      subst hn0
      refine ⟨ma, mc, w, ?_, ?_⟩
      · rw [run_append_none g1 g2 w ma ra m rc mc hX.2.1, hm]
        rfl
      · rw [List.append_nil, List.length_nil, Nat.add_zero, ← hm, set_same hi]
        exact M
    · have hpos : 0 < n := by rw [hn]; exact List.length_pos_iff.2 hy0
      have hbytes : (xs.length + n) * ti.bytes ≤ 140737488355328 := Nat.le_trans (Nat.mul_le_mul_left _ g9) (by omega)
      obtain ⟨v', w', hrun, ho2, hbel, hg, hob⟩ := run_append_rows (P := Try.prog) (t := 32) (e := 60) g1 g2 g3 g4 rfl g5 g6 (plainF_firm tmC) (fun F wx row x hx q hq => by
        have e : row = tmC x := hx
        rw [e] at hq
        exact one_cons rfl (one_cons rfl (one_cons rfl one_nil)) q hq) hown hY hpos hbytes g8 M.size (fun row x hx => hx)
      obtain ⟨a, c, hv⟩ := ho2.slice
      rw [List.length_append] at hv
      subst hv
      have hbase := hown.base
      have hbl : b < w.heap.size := Nat.lt_of_lt_of_le M.lt M.size
      have hne : (Value.slice ma m mc).ownBlock ≠ some b := fun e => by have := hbase b e; have := M.lt; omega
      have hb2 : But b u w' := ⟨(M.but.below).trans (hbel.mono (Nat.le_of_lt M.lt)), fun k hk hkb => by
        rw [hg.block k (Nat.lt_of_lt_of_le hk M.size) (fun e => by have := hbase k e.symm; omega)]
        exact M.but.rest k hk hkb⟩
      refine ⟨a, c, w', hrun, M.setAt hi (M.stay s w w' (hg.block b hbl (fun e => hne e.symm)) M.at_) hb2 hg.size (fun k hk _ hk' => hg.block k hk (fun e => hk' e.symm)) (slc_firm (plainF_firm _) _ _) (fun y hy => ?_) (fun y hy => ?_) (fun G hG _ => ?_)⟩
      · obtain ⟨rs, ho', _⟩ := ho2
        rcases ho'.2 with ⟨e0, _⟩ | ⟨g0, cap, cur, e0, hge, hh, _⟩
        · have : (Value.slice a (xs.length + ys.length) c).ownBlock = some y := hy
          rw [e0] at this; cases this
        · have hy' : (Value.slice a (xs.length + ys.length) c).ownBlock = some y := hy
          rw [e0] at hy'
          have e1 : g0 = y := by injection hy'
          subst e1
          exact ⟨hge, (Array.getElem?_eq_some_iff.1 hh).1⟩
      · rcases hob with h | h
        · exact .inr (h.symm.trans hy)
        · have e1 : some w.heap.size = some y := h.symm.trans hy
          injection e1 with e1
          exact .inl (by omega)
      · obtain ⟨rs2, k1, k2⟩ := ho2
        exact ⟨rs2, k1, fun i hi => by
          obtain ⟨r, k3, k4, k5⟩ := k2 i hi
          exact ⟨r, k3, k4, k5⟩⟩
  obtain ⟨a, c, w', hrun, M'⟩ := key
  exact owp_of (wp_append_run _ _ 32 rfl rfl (eval_tmp hs.nth) (eval_tmp hx.nth) hrun (by rw [(hd a c).put]; exact h a c w' M'))
end
end Go.Proofs.Ytpnhkkjjdcjmgaa
