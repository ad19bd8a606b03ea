/-
  The clock of wheels in memory: its cells, its slots' addresses; what is stored there.
-/
import Derived.Test.YtpnhkkjjdcjmgaaMmR
import Derived.Test.YtpnhkkjjdcjmgaaMmQ
import Derived.Test.YtpnhkkjjdcjmgaaRow
import Derived.Test.YtpnhkkjjdcjmgaaWhM
import Derived.Test.YtpnhkkjjdcjmgaaWhO
import Derived.Test.YtpnhkkjjdcjmgaaWhI
import Derived.Test.YtpnhkkjjdcjmgaaPlJ
namespace Go.Proofs.Ytpnhkkjjdcjmgaa
open Go.RowKit
set_option linter.unusedVariables false
set_option linter.unusedSimpArgs false

instance : StI Try.prog 60 3 := ⟨⟨by kernel_rfl, _, Try.underlying60, rfl⟩⟩
instance : StI Try.prog 56 2 := ⟨⟨by kernel_rfl, _, Try.underlying56, rfl⟩⟩
instance : StI Try.prog 40 3 := ⟨⟨by kernel_rfl, _, Try.underlying40, rfl⟩⟩
instance : StI Try.prog 51 2 := ⟨⟨by kernel_rfl, _, Try.underlying51, rfl⟩⟩
instance : ZeI Try.prog 60 [.int .i64 0, .int .i64 0, .int .i64 0] := ⟨⟨by kernel_rfl⟩⟩
instance : ZeI Try.prog 56 [.int .i64 0, .int .i64 0] := ⟨⟨by kernel_rfl⟩⟩
instance : ZeI Try.prog 40 [.int .i64 0, .int .i64 0, .int .i64 0] := ⟨⟨by kernel_rfl⟩⟩
instance : OneI Try.prog 32 := ⟨⟨by kernel_rfl, _, Try.underlying32, rfl⟩⟩
instance : OneI Try.prog 41 := ⟨⟨by kernel_rfl, _, Try.underlying41, rfl⟩⟩
instance : OneI Try.prog 36 := ⟨⟨by kernel_rfl, _, Try.underlying36, rfl⟩⟩
instance : RowI Try.prog 32 60 3 := ⟨⟨Try.underlying32, ⟨.agg ([.int .i64 0, .int .i64 0, .int .i64 0] : List Value).toArray, by kernel_rfl, rfl⟩, by kernel_rfl, by kernel_rfl, by omega, by omega⟩⟩
instance : RowI Try.prog 41 3 1 := ⟨⟨Try.underlying41, ⟨.int .i64 0, by kernel_rfl, rfl⟩, by kernel_rfl, by kernel_rfl, by omega, by omega⟩⟩
instance : RowI Try.prog 23 25 1 := ⟨⟨Try.underlying23, ⟨.int .i64 0, by kernel_rfl, rfl⟩, by kernel_rfl, by kernel_rfl, by omega, by omega⟩⟩
instance : RowI Try.prog 24 41 1 := ⟨⟨Try.underlying24, ⟨.slice none 0 0, by kernel_rfl, rfl⟩, by kernel_rfl, by kernel_rfl, by omega, by omega⟩⟩
instance : RowI Try.prog 47 51 2 := ⟨⟨Try.underlying47, ⟨.agg ([.int .i64 0, .int .i64 0] : List Value).toArray, by kernel_rfl, rfl⟩, by kernel_rfl, by kernel_rfl, by omega, by omega⟩⟩
theorem size_tm : SizeIs Try.prog 60 3 := fun w => by kernel_rfl
theorem size_ded : SizeIs Try.prog 40 3 := fun w => by kernel_rfl
theorem size_alm : SizeIs Try.prog 51 2 := fun w => by kernel_rfl

/-- A timer's cells; a place's; the clock's. -/
abbrev tmC (t : Tm) : List Value := [.int .i64 t.id, .int .i64 t.at_, .int .i64 t.ord]
abbrev plcV (p : Nat × Nat) : Value := .agg ([.int .i64 p.1, .int .i64 p.2] : List Value).toArray
def slotC (v : Nat → Value) (mv : Value) : List Value := (List.range 288).map v ++ [mv]
abbrev clkC (now next : Nat) (v : Nat → Value) (mv : Value) : List Value := .int .i64 now :: .int .i64 next :: slotC v mv
theorem slotC_len (v : Nat → Value) (mv : Value) : (slotC v mv).length = 289 := by simp [slotC]
theorem slotC_get (v : Nat → Value) (mv : Value) {i : Nat} (hi : i < 288) : (slotC v mv)[i]? = some (v i) := by
  unfold slotC
  rw [List.getElem?_append_left (by simpa using hi)]
  simp [hi]
theorem slotC_map (v : Nat → Value) (mv : Value) : (slotC v mv)[288]? = some mv := by
  unfold slotC
  rw [List.getElem?_append_right (by simp)]
  simp
theorem slotC_set (v : Nat → Value) (mv x : Value) {i : Nat} (hi : i < 288) : (slotC v mv).set i x = slotC (updV v i x) mv := by
  unfold slotC
  rw [List.set_append_left _ _ (by simpa using hi)]
  congr 1
  apply List.ext_getElem
  · simp
  · intro j h1 h2
    simp only [List.getElem_set, List.getElem_map, List.getElem_range, updV]
    by_cases e : i = j
    · rw [if_pos e, if_pos e.symm]
    · rw [if_neg e, if_neg (fun q => e q.symm)]
theorem slotC_setm (v : Nat → Value) (mv x : Value) : (slotC v mv).set 288 x = slotC v x := by
  unfold slotC
  rw [List.set_append_right _ _ (by simp)]
  simp
theorem wheel_ix {z k : Nat} (hk : k < 9) (wx : World) : (Instr.indexAt 35 (.pointer (some ⟨z, 2, none⟩)) (.int .i64 k)).run Try.prog wx = .ok (.pointer (some ⟨z, 2 + k * 32, none⟩)) wx := by
  have hs : ∀ w, (sizeOf 34).run Try.prog w = .ok 32 w := fun w => by kernel_rfl
  simp [Instr.indexAt, run_underlying Try.underlying35, asIntOf, Go.Instr.sureAddr, hs]
  rw [if_pos (by assumption), Go.WideShapes.add_plain]
theorem slot_ix {z k i : Nat} (hi : i < 32) (wx : World) : (Instr.indexAt 34 (.pointer (some ⟨z, 2 + k * 32, none⟩)) (.int .i64 i)).run Try.prog wx = .ok (.pointer (some ⟨z, 2 + k * 32 + i, none⟩)) wx := by
  have hs : ∀ w, (sizeOf 32).run Try.prog w = .ok 1 w := fun w => by kernel_rfl
  simp [Instr.indexAt, run_underlying Try.underlying34, asIntOf, Go.Instr.sureAddr, hs]
  rw [if_pos (by assumption), Go.WideShapes.add_plain]
theorem clkC_get {now next : Nat} {v : Nat → Value} {mv : Value} {k i : Nat} (hk : k < 9) (hi : i < 32) : (clkC now next v mv)[2 + k * 32 + i]? = some (v (k * 32 + i)) := by
  rw [show 2 + k * 32 + i = (k * 32 + i) + 1 + 1 by omega, List.getElem?_cons_succ, List.getElem?_cons_succ]
  exact slotC_get v mv (by omega)
theorem clkC_map {now next : Nat} {v : Nat → Value} {mv : Value} : (clkC now next v mv)[290]? = some mv := slotC_map v mv
/-- A map of one's own by numbers, or none yet. -/
def mpV (P : Program) (k : TypeId) (mz : Option Nat) (n : Nat) (f : MapI64) : Ent := ⟨fun y => mz = some y, fun _ w => match mz with | none => n = 0 ∧ ∀ i, f i = none | some z => MapJ P k w z n f⟩
theorem mpV_firm (P : Program) (k : TypeId) (mz : Option Nat) (n : Nat) (f : MapI64) : (mpV P k mz n f).firm := fun F G w w' _ _ hz hlt h => by
  cases mz with
  | none => exact h
  | some z => exact MapJ.same h (hz z rfl (hlt z rfl))
section
variable {P : Program} {At : PS → World → Prop} {b : Nat} {u w w' : World} {s : PS} {L : List Ent} {k : TypeId} {z n m i : Nat} {f f' : MapI64}
theorem Mem.mapV (M : Mem At b u w s L) (hi : L[i]? = some (mpV P k (some z) n f)) : MapJ P k w z n f := M.say _ (Mem.of_get hi)
theorem Mem.mapN (M : Mem At b u w s L) (hi : L[i]? = some (mpV P k none n f)) : n = 0 ∧ ∀ i, f i = none := M.say _ (Mem.of_get hi)
theorem Mem.mapEmpty (M : Mem At b u w s L) (P : Program) (k : TypeId) : Mem At b u w s (mpV P k none 0 (fun _ => none) :: L) :=
  M.push (Below.refl _ _) (mpV_firm _ _ _ _ _) (fun z hz => by cases hz) (fun G _ => ⟨rfl, fun _ => rfl⟩)
theorem set_same {e : Ent} (h : L[i]? = some e) : L.set i e = L := by
  obtain ⟨h1, h2⟩ := List.getElem?_eq_some_iff.1 h
  rw [← h2]
  exact List.set_getElem_self h1
theorem mpV_of (P : Program) (k : TypeId) (z n : Nat) (f : MapI64) : mpJ P k z n f = mpV P k (some z) n f := rfl
end
section
variable {P : Program} {dst : Option Tmp} {oty : TypeId} {pos : String} {after : Array Edge} {g : Option (Nat × Bool)} {l l' : List Value} {ds : List Deferred} {Q : Exit → Act → World → Prop} {K : Act → World → Prop}
variable {At : PS → World → Prop} {b : Nat} {u w : World} {s : PS} {L : List Ent} {t j j' z n i : Nat}
/-- A number looked up, with whether it is there, in a map or none. -/
theorem q_looksV {k : TypeId} {v0 : Value} {f : MapI64} {x : Int} {mz : Option Nat} (M : Mem At b u w s L) [hm : Nth l j (.map mz)] [hx : Nth l j' (.int .i64 x)] [hT : MapN P t k v0] (hi : L[i]? = some (mpV P k mz n f)) (hw : wfI x) [hd : PutI l dst (.tuple #[(f x).getD v0, .bool (f x).isSome]) l'] (h : K ⟨l'.toArray, ds⟩ w) : OWP P ⟨dst, .lookup t (.tmp j) (.tmp j') true, oty, pos, after, g⟩ ⟨l.toArray, ds⟩ w K Q := by
  obtain ⟨e, h1, h2⟩ := hT.map_
  have hrun : (Instr.lookup t (.map mz) (.int .i64 x) true).run P w = .ok (.tuple #[(f x).getD v0, .bool (f x).isSome]) w := by
    cases mz with
    | none =>
      rw [(M.mapN hi).2 x]
      exact Maps.look_nil true (Go.Maps.int_keyed hT.key) h1 (zero_run h2 w) (Go.Maps.keyOf_int_mk hT.key hw)
    | some z => exact (M.mapV hi).look hT.key h1 true (zero_run h2 w) x hw
  refine owp_of ?_
  unfold Oper.wp execOp
  have hk : K (Act.put ⟨l.toArray, ds⟩ dst (.tuple #[(f x).getD v0, .bool (f x).isSome])) w := by rw [hd.put]; exact h
  simp only [eval_tmp hm.nth, eval_tmp hx.nth, Sem.run_bind, Sem.run_pure, hrun, Result.andThen_ok]
  exact hk
theorem run_looksV {k : TypeId} {v0 : Value} {f : MapI64} {x : Int} {mz : Option Nat} (M : Mem At b u w s L) [hT : MapN P t k v0] (hi : L[i]? = some (mpV P k mz n f)) (hw : wfI x) : (Instr.lookup t (.map mz) (.int .i64 x) true).run P w = .ok (.tuple #[(f x).getD v0, .bool (f x).isSome]) w := by
  obtain ⟨e, h1, h2⟩ := hT.map_
  cases mz with
  | none =>
    rw [(M.mapN hi).2 x]
    exact Maps.look_nil true (Go.Maps.int_keyed hT.key) h1 (zero_run h2 w) (Go.Maps.keyOf_int_mk hT.key hw)
  | some z => exact (M.mapV hi).look hT.key h1 true (zero_run h2 w) x hw
/-- .. in a region that draws: what is read first. -/
theorem r_lookV {ops : Array Oper} {C : World → Prop} {Kp : Act → Prop} {k : TypeId} {v0 : Value} {f : MapI64} {x : Int} {mz : Option Nat} {V : Value} [hm : Nth l j (.map mz)] [hx : Nth l j' (.int .i64 x)] [hT : MapN P t k v0] (hM : ∀ w, C w → Mem At b u w s L) (hi : L[i]? = some (mpV P k mz n f)) (hw : wfI x) (hV : Value.tuple #[(f x).getD v0, .bool (f x).isSome] = V) [hd : PutI l dst V l'] (hk : Kp ⟨l'.toArray, ds⟩) : RSP P ops ⟨dst, .lookup t (.tmp j) (.tmp j') true, oty, pos, after, none⟩ ⟨l.toArray, ds⟩ C Kp :=
  rsp_of ⟨V, ⟨wanted_none rfl, fun wx hC => by
    have hrun := run_looksV (t := t) (v0 := v0) (hM wx hC) hi hw
    rw [hV] at hrun
    unfold execOp
    simp only [eval_tmp hm.nth, eval_tmp hx.nth, Sem.run_bind, Sem.run_pure, hrun, Result.andThen_ok]⟩, by rw [hd.put]; exact hk⟩
/-- How many there are. -/
theorem q_lenV {k : TypeId} {v0 : Value} {f : MapI64} {mz : Option Nat} (M : Mem At b u w s L) [hm : Nth l j (.map mz)] [hT : MapN P t k v0] (hi : L[i]? = some (mpV P k mz n f)) [hd : PutI l dst (.int .i64 n) l'] (h : K ⟨l'.toArray, ds⟩ w) : OWP P ⟨dst, .call { callee := .builtin .len, args := #[.tmp j], argTypes := #[t] }, oty, pos, after, g⟩ ⟨l.toArray, ds⟩ w K Q := by
  obtain ⟨e, h1, h2⟩ := hT.map_
  have hrun : (Builtin.len_ #[t] oty #[.map mz]).run P w = .ok (.int .i64 n) w := by
    cases mz with
    | none => rw [(M.mapN hi).1]; exact Maps.len_nil h1 oty
    | some z => exact (M.mapV hi).len h1 oty
  refine owp_of ?_
  have hk : K (Act.put ⟨l.toArray, ds⟩ dst (.int .i64 n)) w := by rw [hd.put]; exact h
  unfold Oper.wp
  simp only [execOp, resolve, invoke, builtin, List.map_toArray, List.map_cons, List.map_nil, eval_tmp hm.nth, Sem.run_bind, Sem.run_pure, hrun, Result.andThen_ok]
  exact hk
/-- A world in which an own map, or none yet, is another one. -/
theorem Mem.remapV {k : TypeId} {m : Nat} {f f' : MapI64} {w' : World} (M : Mem At b u w s L) (hi : L[i]? = some (mpV P k (some z) n f)) (hb : But z w w') (ho : MapJ P k w' z m f') : Mem At b u w' s (L.set i (mpV P k (some z) m f')) :=
  Mem.remapJ M hi hb ho
/-- A number's element laid. -/
theorem q_msetV {k : TypeId} {v0 v : Value} {f : MapI64} {x : Int} (M : Mem At b u w s L) [hm : Nth l j (.map (some z))] [hx : Nth l j' (.int .i64 x)] [hT : MapN P t k v0] {y : Operand} [hy : EvI l y v] (hi : L[i]? = some (mpV P k (some z) n f)) (hn : n < maxLen) (hw : wfI x) [hd : PutI l dst undef l']
    (h : ∀ w', Mem At b u w' s (L.set i (mpV P k (some z) (if (f x).isSome = true then n else n + 1) (putJ f x v))) → K ⟨l'.toArray, ds⟩ w') : OWP P ⟨dst, .mapUpdate t (.tmp j) (.tmp j') y, oty, pos, after, g⟩ ⟨l.toArray, ds⟩ w K Q :=
  q_msetJ M hi hn hw h
/-- A number's element taken away. -/
theorem q_delV {k : TypeId} {v0 : Value} {f : MapI64} {x : Int} {mz : Option Nat} (M : Mem At b u w s L) [hm : Nth l j (.map mz)] [hx : Nth l j' (.int .i64 x)] [hT : MapN P t k v0] (hi : L[i]? = some (mpV P k mz n f)) (hw : wfI x) {F : List Value} [hd : PutI l dst (.tuple #[]) F]
    (h : ∀ w', Mem At b u w' s (L.set i (mpV P k mz (if (f x).isSome = true then n - 1 else n) (delJ f x))) → K ⟨F.toArray, ds⟩ w') : OWP P ⟨dst, .call { callee := .builtin .delete, args := #[.tmp j, .tmp j'], argTypes := #[t, k] }, oty, pos, after, g⟩ ⟨l.toArray, ds⟩ w K Q := by
  obtain ⟨e, h1, h2⟩ := hT.map_
  have key : ∃ w', (Builtin.delete_ #[t, k] oty #[.map mz, .int .i64 x]).run P w = .ok (.tuple #[]) w' ∧ Mem At b u w' s (L.set i (mpV P k mz (if (f x).isSome = true then n - 1 else n) (delJ f x))) := by
    cases mz with
    | none =>
      obtain ⟨e0, ef⟩ := M.mapN hi
      refine ⟨w, Maps.drop_nil (Go.Maps.int_keyed hT.key) h1 (Go.Maps.keyOf_int_mk hT.key hw) oty, ?_⟩
      have e1 : delJ f x = f := by
        funext y
        unfold delJ
        split
        · exact (ef y).symm
        · rfl
      rw [e1, ef x, if_neg (by simp), set_same hi]
      exact M
    | some z =>
      have hmj := M.mapV hi
      obtain ⟨w', hrun, ho, hg⟩ := hmj.del hT.key h1 x hw oty
      exact ⟨w', hrun, M.remapV hi (But.of_grown hg.grown hmj.lt) ho⟩
  obtain ⟨w', hrun, M'⟩ := key
  have hk : K (Act.put ⟨l.toArray, ds⟩ dst (.tuple #[])) w' := by rw [hd.put]; exact h w' M'
  refine owp_of ?_
  unfold Oper.wp
  simp only [execOp, resolve, invoke, builtin, List.map_toArray, List.map_cons, List.map_nil, eval_tmp hm.nth, eval_tmp hx.nth, Sem.run_bind, Sem.run_pure, hrun, Result.andThen_ok]
  exact hk
end

abbrev tmF : (Nat → Prop) → World → List Value → Tm → Prop := plainF tmC
/-- The wheels' slots one behind the other. -/
def flatW (W : Whl) : Nat → List Tm := fun i => W (i / 32) (i % 32)
theorem flatW_at (W : Whl) {k i : Nat} (hi : i < 32) : flatW W (k * 32 + i) = W k i := by
  unfold flatW
  rw [show (k * 32 + i) / 32 = k by omega, show (k * 32 + i) % 32 = i by omega]
theorem flatW_upd (W : Whl) {k i : Nat} (hi : i < 32) (x : List Tm) : updV (flatW W) (k * 32 + i) x = flatW (updW W (k, i) x) := by
  funext j
  unfold updV flatW updW
  by_cases e : j = k * 32 + i
  · rw [if_pos e, if_pos ⟨by omega, by omega⟩]
  · rw [if_neg e, if_neg (fun h => e (by have := h.1; have := h.2; simp only at *; omega))]
abbrev slotsW (u : World) (v : Nat → Value) (W : Whl) : Ent := slotsE u.heap.size 60 3 tmF 288 (fun _ => True) v (flatW W)
abbrev slotsX (u : World) (i : Nat) (v : Nat → Value) (W : Whl) : Ent := slotsE u.heap.size 60 3 tmF 288 (fun j => True ∧ j ≠ i) v (flatW W)
def placF (f : WFn) : MapI64 := fun i => (f i).map plcV
instance : MapN Try.prog 36 3 (.agg ([.int .i64 0, .int .i64 0] : List Value).toArray) := ⟨Try.underlying3, _, Try.underlying36, by kernel_rfl⟩
/-- The clock: its block, its slots' slices, its map; what else is owned. -/
abbrev ClkL (u : World) (zc now next : Nat) (v : Nat → Value) (mz : Option Nat) (W : Whl) (n : Nat) (f : WFn) (L : List Ent) : List Ent := own zc (clkC now next v (.map mz)) 38 :: slotsW u v W :: mpV Try.prog 3 mz n (placF f) :: L
section
variable {dst : Option Tmp} {oty : TypeId} {pos : String} {after : Array Edge} {g : Option (Nat × Bool)} {l l' : List Value} {ds : List Deferred} {Q : Exit → Act → World → Prop} {K : Act → World → Prop} {P : Program}
variable {At : PS → World → Prop} {b : Nat} {u w : World} {s : PS} {L : List Ent} {t ty j i z k p now next : Nat} {v : Nat → Value} {mv x : Value} {y : Operand}
/-- A slot's slice stored. -/
theorem q_slotput (M : Mem At b u w s L) (hi : L[i]? = some (own z (clkC now next v mv) t)) (hk : k < 9) (hp : p < 32) [hx : Nth l j (.pointer (some ⟨z, 2 + k * 32 + p, none⟩))] [hy : EvI l y x] [hT : OneI P ty] (h1 : x.oneCell' = true) [hd : PutI l dst undef l']
    (h : ∀ w', Mem At b u w' s (L.set i (own z (clkC now next (updV v (k * 32 + p) x) mv) t)) → K ⟨l'.toArray, ds⟩ w') : OWP P ⟨dst, .store ty (.tmp j) y, oty, pos, after, g⟩ ⟨l.toArray, ds⟩ w K Q :=
  owp_of (op_setT M ty _ _ rfl z (2 + k * 32 + p) x (eval_tmp hx.nth) (hy.ev ds) hi hT.one (by simp [slotC_len]; omega) h1 (fun w' M' => by
    rw [hd.put]
    refine h w' ?_
    rw [show 2 + k * 32 + p = (k * 32 + p) + 1 + 1 by omega, List.set_cons_succ, List.set_cons_succ, slotC_set v mv x (by omega)] at M'
    exact M'))
/-- The map stored. -/
theorem q_mapput (M : Mem At b u w s L) (hi : L[i]? = some (own z (clkC now next v mv) t)) [hx : Nth l j (.pointer (some ⟨z, 290, none⟩))] [hy : EvI l y x] [hT : OneI P ty] (h1 : x.oneCell' = true) [hd : PutI l dst undef l']
    (h : ∀ w', Mem At b u w' s (L.set i (own z (clkC now next v x) t)) → K ⟨l'.toArray, ds⟩ w') : OWP P ⟨dst, .store ty (.tmp j) y, oty, pos, after, g⟩ ⟨l.toArray, ds⟩ w K Q :=
  owp_of (op_setT M ty _ _ rfl z 290 x (eval_tmp hx.nth) (hy.ev ds) hi hT.one (by simp [slotC_len]) h1 (fun w' M' => by
    rw [hd.put]
    refine h w' ?_
    rw [show (290 : Nat) = 288 + 1 + 1 by omega, List.set_cons_succ, List.set_cons_succ, slotC_setm v mv x] at M'
    exact M'))
end
end Go.Proofs.Ytpnhkkjjdcjmgaa
