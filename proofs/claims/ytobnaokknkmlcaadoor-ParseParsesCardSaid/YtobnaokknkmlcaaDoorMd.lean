/-
  The parser's types, and what the reader's small functions do, over a function's own memory.
-/
import Derived.Test.YtobnaokknkmlcaaDoorMb
import Derived.Test.YtobnaokknkmlcaaDoorMc
namespace Go.Proofs.YtobnaokknkmlcaaDoor
open Go.RowKit
set_option linter.unusedVariables false
set_option linter.unusedSimpArgs false

structure ZeroT (P : Program) (t : TypeId) (cs : List Value) : Prop where
  zero : (P.info? t).map (·.zero) = some (some (.agg cs.toArray))
theorem stTok : StT Tryd.prog 34 3 := ⟨by kernel_rfl, _, Tryd.underlying34, rfl⟩
def zTok_ : List Value := [.int .i64 0, .string ByteArray.empty, .int .i64 0]
theorem zeTok : ZeroT Tryd.prog 34 [.int .i64 0, .string ByteArray.empty, .int .i64 0] := ⟨by kernel_rfl⟩
theorem stOpd : StT Tryd.prog 79 6 := ⟨by kernel_rfl, _, Tryd.underlying79, rfl⟩
def zOpd_ : List Value := [.int .i64 0, .int .i64 0, .int .i64 0, .string ByteArray.empty, .string ByteArray.empty, .string ByteArray.empty]
theorem zeOpd : ZeroT Tryd.prog 79 [.int .i64 0, .int .i64 0, .int .i64 0, .string ByteArray.empty, .string ByteArray.empty, .string ByteArray.empty] := ⟨by kernel_rfl⟩
theorem stCnd : StT Tryd.prog 81 14 := ⟨by kernel_rfl, _, Tryd.underlying81, rfl⟩
def zCnd_ : List Value := [.int .i64 0, .slice none 0 0, .int .i64 0, .int .i64 0, .int .i64 0, .string ByteArray.empty, .string ByteArray.empty, .string ByteArray.empty, .int .i64 0, .int .i64 0, .int .i64 0, .string ByteArray.empty, .string ByteArray.empty, .string ByteArray.empty]
theorem zeCnd : ZeroT Tryd.prog 81 [.int .i64 0, .slice none 0 0, .int .i64 0, .int .i64 0, .int .i64 0, .string ByteArray.empty, .string ByteArray.empty, .string ByteArray.empty, .int .i64 0, .int .i64 0, .int .i64 0, .string ByteArray.empty, .string ByteArray.empty, .string ByteArray.empty] := ⟨by kernel_rfl⟩
theorem stPat : StT Tryd.prog 83 18 := ⟨by kernel_rfl, _, Tryd.underlying83, rfl⟩
def zPat_ : List Value := [.string ByteArray.empty, .string ByteArray.empty, .int .i64 0, .slice none 0 0, .int .i64 0, .int .i64 0, .int .i64 0, .string ByteArray.empty, .string ByteArray.empty, .string ByteArray.empty, .int .i64 0, .int .i64 0, .int .i64 0, .string ByteArray.empty, .string ByteArray.empty, .string ByteArray.empty, .int .i64 0, .int .i64 0]
theorem zePat : ZeroT Tryd.prog 83 [.string ByteArray.empty, .string ByteArray.empty, .int .i64 0, .slice none 0 0, .int .i64 0, .int .i64 0, .int .i64 0, .string ByteArray.empty, .string ByteArray.empty, .string ByteArray.empty, .int .i64 0, .int .i64 0, .int .i64 0, .string ByteArray.empty, .string ByteArray.empty, .string ByteArray.empty, .int .i64 0, .int .i64 0] := ⟨by kernel_rfl⟩
theorem stMan : StT Tryd.prog 87 20 := ⟨by kernel_rfl, _, Tryd.underlying87, rfl⟩
def zMan_ : List Value := [.int .i64 0, .string ByteArray.empty, .string ByteArray.empty, .string ByteArray.empty, .int .i64 0, .slice none 0 0, .int .i64 0, .int .i64 0, .int .i64 0, .string ByteArray.empty, .string ByteArray.empty, .string ByteArray.empty, .int .i64 0, .int .i64 0, .int .i64 0, .string ByteArray.empty, .string ByteArray.empty, .string ByteArray.empty, .int .i64 0, .int .i64 0]
theorem zeMan : ZeroT Tryd.prog 87 [.int .i64 0, .string ByteArray.empty, .string ByteArray.empty, .string ByteArray.empty, .int .i64 0, .slice none 0 0, .int .i64 0, .int .i64 0, .int .i64 0, .string ByteArray.empty, .string ByteArray.empty, .string ByteArray.empty, .int .i64 0, .int .i64 0, .int .i64 0, .string ByteArray.empty, .string ByteArray.empty, .string ByteArray.empty, .int .i64 0, .int .i64 0] := ⟨by kernel_rfl⟩
theorem stLnk : StT Tryd.prog 90 3 := ⟨by kernel_rfl, _, Tryd.underlying90, rfl⟩
def zLnk_ : List Value := [.string ByteArray.empty, .slice none 0 0, .string ByteArray.empty]
theorem zeLnk : ZeroT Tryd.prog 90 [.string ByteArray.empty, .slice none 0 0, .string ByteArray.empty] := ⟨by kernel_rfl⟩
theorem stOpt : StT Tryd.prog 92 3 := ⟨by kernel_rfl, _, Tryd.underlying92, rfl⟩
def zOpt_ : List Value := [.int .i64 0, .int .i64 0, .int .i64 0]
theorem zeOpt : ZeroT Tryd.prog 92 [.int .i64 0, .int .i64 0, .int .i64 0] := ⟨by kernel_rfl⟩
theorem stEmi : StT Tryd.prog 56 2 := ⟨by kernel_rfl, _, Tryd.underlying56, rfl⟩
def zEmi_ : List Value := [.string ByteArray.empty, .slice none 0 0]
theorem zeEmi : ZeroT Tryd.prog 56 [.string ByteArray.empty, .slice none 0 0] := ⟨by kernel_rfl⟩
theorem stRul : StT Tryd.prog 58 7 := ⟨by kernel_rfl, _, Tryd.underlying58, rfl⟩
def zRul_ : List Value := [.string ByteArray.empty, .slice none 0 0, .slice none 0 0, .slice none 0 0, .slice none 0 0, .string ByteArray.empty, .slice none 0 0]
theorem zeRul : ZeroT Tryd.prog 58 [.string ByteArray.empty, .slice none 0 0, .slice none 0 0, .slice none 0 0, .slice none 0 0, .string ByteArray.empty, .slice none 0 0] := ⟨by kernel_rfl⟩
theorem stTyp : StT Tryd.prog 46 2 := ⟨by kernel_rfl, _, Tryd.underlying46, rfl⟩
def zTyp_ : List Value := [.string ByteArray.empty, .slice none 0 0]
theorem zeTyp : ZeroT Tryd.prog 46 [.string ByteArray.empty, .slice none 0 0] := ⟨by kernel_rfl⟩
theorem stFld : StT Tryd.prog 50 2 := ⟨by kernel_rfl, _, Tryd.underlying50, rfl⟩
def zFld_ : List Value := [.string ByteArray.empty, .int .i64 0]
theorem zeFld : ZeroT Tryd.prog 50 [.string ByteArray.empty, .int .i64 0] := ⟨by kernel_rfl⟩
theorem stBok : StT Tryd.prog 26 2 := ⟨by kernel_rfl, _, Tryd.underlying26, rfl⟩
def zBok_ : List Value := [.slice none 0 0, .slice none 0 0]
theorem zeBok : ZeroT Tryd.prog 26 [.slice none 0 0, .slice none 0 0] := ⟨by kernel_rfl⟩
theorem oneInt : OneT Tryd.prog 3 := ⟨by kernel_rfl, _, Tryd.underlying3, rfl⟩
theorem oneStr : OneT Tryd.prog 9 := ⟨by kernel_rfl, _, Tryd.underlying9, rfl⟩
theorem oneErr : OneT Tryd.prog 27 := ⟨by kernel_rfl, _, Tryd.underlying27, rfl⟩
theorem oneToks : OneT Tryd.prog 22 := ⟨by kernel_rfl, _, Tryd.underlying22, rfl⟩
theorem oneOpds : OneT Tryd.prog 54 := ⟨by kernel_rfl, _, Tryd.underlying54, rfl⟩
theorem rowOpd : RowT Tryd.prog 54 79 6 := ⟨Tryd.underlying54, ⟨.agg ([.int .i64 0, .int .i64 0, .int .i64 0, .string ByteArray.empty, .string ByteArray.empty, .string ByteArray.empty] : List Value).toArray, by kernel_rfl, rfl⟩, by kernel_rfl, by kernel_rfl, by omega, by omega⟩
theorem oneCnds : OneT Tryd.prog 75 := ⟨by kernel_rfl, _, Tryd.underlying75, rfl⟩
theorem rowCnd : RowT Tryd.prog 75 81 14 := ⟨Tryd.underlying75, ⟨.agg ([.int .i64 0, .slice none 0 0, .int .i64 0, .int .i64 0, .int .i64 0, .string ByteArray.empty, .string ByteArray.empty, .string ByteArray.empty, .int .i64 0, .int .i64 0, .int .i64 0, .string ByteArray.empty, .string ByteArray.empty, .string ByteArray.empty] : List Value).toArray, by kernel_rfl, rfl⟩, by kernel_rfl, by kernel_rfl, by omega, by omega⟩
theorem onePats : OneT Tryd.prog 51 := ⟨by kernel_rfl, _, Tryd.underlying51, rfl⟩
theorem rowPat : RowT Tryd.prog 51 83 18 := ⟨Tryd.underlying51, ⟨.agg ([.string ByteArray.empty, .string ByteArray.empty, .int .i64 0, .slice none 0 0, .int .i64 0, .int .i64 0, .int .i64 0, .string ByteArray.empty, .string ByteArray.empty, .string ByteArray.empty, .int .i64 0, .int .i64 0, .int .i64 0, .string ByteArray.empty, .string ByteArray.empty, .string ByteArray.empty, .int .i64 0, .int .i64 0] : List Value).toArray, by kernel_rfl, rfl⟩, by kernel_rfl, by kernel_rfl, by omega, by omega⟩
theorem oneMans : OneT Tryd.prog 52 := ⟨by kernel_rfl, _, Tryd.underlying52, rfl⟩
theorem rowMan : RowT Tryd.prog 52 87 20 := ⟨Tryd.underlying52, ⟨.agg ([.int .i64 0, .string ByteArray.empty, .string ByteArray.empty, .string ByteArray.empty, .int .i64 0, .slice none 0 0, .int .i64 0, .int .i64 0, .int .i64 0, .string ByteArray.empty, .string ByteArray.empty, .string ByteArray.empty, .int .i64 0, .int .i64 0, .int .i64 0, .string ByteArray.empty, .string ByteArray.empty, .string ByteArray.empty, .int .i64 0, .int .i64 0] : List Value).toArray, by kernel_rfl, rfl⟩, by kernel_rfl, by kernel_rfl, by omega, by omega⟩
theorem oneLnks : OneT Tryd.prog 53 := ⟨by kernel_rfl, _, Tryd.underlying53, rfl⟩
theorem rowLnk : RowT Tryd.prog 53 90 3 := ⟨Tryd.underlying53, ⟨.agg ([.string ByteArray.empty, .slice none 0 0, .string ByteArray.empty] : List Value).toArray, by kernel_rfl, rfl⟩, by kernel_rfl, by kernel_rfl, by omega, by omega⟩
theorem oneOpts : OneT Tryd.prog 88 := ⟨by kernel_rfl, _, Tryd.underlying88, rfl⟩
theorem rowOpt : RowT Tryd.prog 88 92 3 := ⟨Tryd.underlying88, ⟨.agg ([.int .i64 0, .int .i64 0, .int .i64 0] : List Value).toArray, by kernel_rfl, rfl⟩, by kernel_rfl, by kernel_rfl, by omega, by omega⟩
theorem oneRuls : OneT Tryd.prog 24 := ⟨by kernel_rfl, _, Tryd.underlying24, rfl⟩
theorem rowRul : RowT Tryd.prog 24 58 7 := ⟨Tryd.underlying24, ⟨.agg ([.string ByteArray.empty, .slice none 0 0, .slice none 0 0, .slice none 0 0, .slice none 0 0, .string ByteArray.empty, .slice none 0 0] : List Value).toArray, by kernel_rfl, rfl⟩, by kernel_rfl, by kernel_rfl, by omega, by omega⟩
theorem oneTyps : OneT Tryd.prog 23 := ⟨by kernel_rfl, _, Tryd.underlying23, rfl⟩
theorem rowTyp : RowT Tryd.prog 23 46 2 := ⟨Tryd.underlying23, ⟨.agg ([.string ByteArray.empty, .slice none 0 0] : List Value).toArray, by kernel_rfl, rfl⟩, by kernel_rfl, by kernel_rfl, by omega, by omega⟩
theorem oneFlds : OneT Tryd.prog 44 := ⟨by kernel_rfl, _, Tryd.underlying44, rfl⟩
theorem rowFld : RowT Tryd.prog 44 50 2 := ⟨Tryd.underlying44, ⟨.agg ([.string ByteArray.empty, .int .i64 0] : List Value).toArray, by kernel_rfl, rfl⟩, by kernel_rfl, by kernel_rfl, by omega, by omega⟩
end Go.Proofs.YtobnaokknkmlcaaDoor
/-
  The steps of a walk over a function's own memory; the reader's small functions over it; an operand.
-/
namespace Go.Proofs.YtobnaokknkmlcaaDoor
open Go.RowKit
set_option linter.unusedVariables false
set_option linter.unusedSimpArgs false

theorem one_nil : ∀ v ∈ ([] : List Value), v.oneCell' = true := fun v hv => by cases hv
theorem one_cons {v : Value} {l : List Value} (h : v.oneCell' = true) (hl : ∀ v ∈ l, v.oneCell' = true) : ∀ x ∈ v :: l, x.oneCell' = true := fun x hx => by
  rcases List.mem_cons.1 hx with rfl | hx
  · exact h
  · exact hl x hx
theorem one_app {l r : List Value} (hl : ∀ v ∈ l, v.oneCell' = true) (hr : ∀ v ∈ r, v.oneCell' = true) : ∀ x ∈ l ++ r, x.oneCell' = true := fun x hx => by
  rcases List.mem_append.1 hx with hx | hx
  · exact hl x hx
  · exact hr x hx
theorem opdC_one (x : Opd) : ∀ v ∈ opdC x, v.oneCell' = true := one_cons rfl (one_cons rfl (one_cons rfl (one_cons rfl (one_cons rfl (one_cons rfl one_nil)))))
/-- A fact that no step of the walk looks at. -/
def Dec (p : Prop) : Prop := p
theorem Dec.out {p : Prop} (h : Dec p) : p := h

section
variable {P : Program} {o : Oper} {a : Act} {Q : Exit → Act → World → Prop} {K : Act → World → Prop}
variable {At : PS → World → Prop} {b : Nat} {u w : World} {s : PS} {L : List Ent}
theorem oper_id (h : o.wp P a w K Q) : o.wp P a w K Q := h
theorem list_id {ops : Array Oper} {rest : List Oper} (h : wpList P ops Q (o :: rest) a w) : wpList P ops Q (o :: rest) a w := h
theorem l_load {ops : Array Oper} {rest : List Oper} {ty : TypeId} {x : Operand} (hg : o.guard = none) (ho : o.op = .load ty x) (h : ∀ K : Act → World → Prop, (∀ a w, wpList P ops Q rest a w → K a w) → o.wp P a w K Q) : wpList P ops Q (o :: rest) a w := wpList_plain hg h
theorem l_store {ops : Array Oper} {rest : List Oper} {ty : TypeId} {x y : Operand} (hg : o.guard = none) (ho : o.op = .store ty x y) (h : ∀ K : Act → World → Prop, (∀ a w, wpList P ops Q rest a w → K a w) → o.wp P a w K Q) : wpList P ops Q (o :: rest) a w := wpList_plain hg h
theorem l_alloc {ops : Array Oper} {rest : List Oper} {ty : TypeId} (hg : o.guard = none) (ho : o.op = .alloc ty) (h : ∀ K : Act → World → Prop, (∀ a w, wpList P ops Q rest a w → K a w) → o.wp P a w K Q) : wpList P ops Q (o :: rest) a w := wpList_plain hg h
theorem l_row {ops : Array Oper} {rest : List Oper} {ty n : Nat} {ps : Array (Nat × Operand)} (hg : o.guard = none) (ho : o.op = .buildSlice ty n ps) (h : ∀ K : Act → World → Prop, (∀ a w, wpList P ops Q rest a w → K a w) → o.wp P a w K Q) : wpList P ops Q (o :: rest) a w := wpList_plain hg h
theorem l_app {ops : Array Oper} {rest : List Oper} {sl x : Operand} {ts : Array TypeId} (hg : o.guard = none) (ho : o.op = .call { callee := .builtin .append, args := #[sl, x], argTypes := ts }) (h : ∀ K : Act → World → Prop, (∀ a w, wpList P ops Q rest a w → K a w) → o.wp P a w K Q) : wpList P ops Q (o :: rest) a w := wpList_plain hg h
theorem op_varZ (M : Mem At b u w s L) (t : TypeId) (ho : o.op = .alloc t) {cs : List Value} (hT : ZeroT P t cs) (h : ∀ z w', Mem At b u w' s (own z cs t :: L) → K (a.put o.dst (.pointer (some ⟨z, 0, none⟩))) w') : o.wp P a w K Q :=
  op_var M t ho cs (.agg cs.toArray) rfl hT.zero h
theorem op_allT (M : Mem At b u w s L) (ty : TypeId) (x : Operand) (ho : o.op = .load ty x) (z : Nat) (hx : a.eval x = .pointer (some ⟨z, 0, none⟩)) {cs : List Value} {t : TypeId} {i : Nat} (hz : L[i]? = some (own z cs t))
    {m : Nat} (hT : StT P ty m) (hl : cs.length = m) (h : K (a.put o.dst (.agg cs.toArray)) w) : o.wp P a w K Q := by
  obtain ⟨hi, d, hu, hd⟩ := hT
  exact op_all M ty x ho z hx hz d hu hd hi hl h
theorem op_partT (M : Mem At b u w s L) (ty : TypeId) (x : Operand) (ho : o.op = .load ty x) (z p : Nat) (hx : a.eval x = .pointer (some ⟨z, p, none⟩)) {cs : List Value} {t : TypeId} {i : Nat} (hz : L[i]? = some (own z cs t))
    {m : Nat} (hT : StT P ty m) (vs : List Value) (hl : vs.length = m) (hvs : (cs.drop p).take m = vs) (h : K (a.put o.dst (.agg vs.toArray)) w) : o.wp P a w K Q := by
  obtain ⟨hi, d, hu, hd⟩ := hT
  exact op_part M ty x ho z p hx hz d hu hd hi vs hl hvs h
theorem op_getT (M : Mem At b u w s L) (ty : TypeId) (x : Operand) (ho : o.op = .load ty x) (z p : Nat) (hx : a.eval x = .pointer (some ⟨z, p, none⟩)) {cs : List Value} {t : TypeId} {i : Nat} (hz : L[i]? = some (own z cs t))
    (hT : OneT P ty) (v : Value) (hv : cs[p]? = some v) (h : K (a.put o.dst v) w) : o.wp P a w K Q := by
  obtain ⟨hi, d, hu, hd⟩ := hT
  exact op_get M ty x ho z p hx hz d hu hd v hv h
theorem op_putT (M : Mem At b u w s L) (ty : TypeId) (x y : Operand) (ho : o.op = .store ty x y) (z : Nat) (vs : List Value) (hx : a.eval x = .pointer (some ⟨z, 0, none⟩)) (hy : a.eval y = .agg vs.toArray) {cs : List Value} {t : TypeId} {i : Nat} (hz : L[i]? = some (own z cs t))
    {m : Nat} (hT : StT P ty m) (hm : vs.length = m) (hl : cs.length = m) (h1 : ∀ v ∈ vs, v.oneCell' = true) (h : ∀ w', Mem At b u w' s (L.set i (own z vs t)) → K (a.put o.dst undef) w') : o.wp P a w K Q :=
  op_put M ty x y ho z vs hx hy hz hT.1 hm hl h1 h
theorem op_inT (M : Mem At b u w s L) (ty : TypeId) (x y : Operand) (ho : o.op = .store ty x y) (z p : Nat) (vs : List Value) (hx : a.eval x = .pointer (some ⟨z, p, none⟩)) (hy : a.eval y = .agg vs.toArray) {cs : List Value} {t : TypeId} {i : Nat} (hz : L[i]? = some (own z cs t))
    {m : Nat} (hT : StT P ty m) (hm : vs.length = m) (hl : p + m ≤ cs.length) (h1 : ∀ v ∈ vs, v.oneCell' = true) (cs' : List Value) (hcs : laid cs p vs = cs') (h : ∀ w', Mem At b u w' s (L.set i (own z cs' t)) → K (a.put o.dst undef) w') : o.wp P a w K Q :=
  op_in M ty x y ho z p vs hx hy hz hT.1 hm hl h1 (fun w' M' => h w' (hcs ▸ M'))
theorem op_setT (M : Mem At b u w s L) (ty : TypeId) (x y : Operand) (ho : o.op = .store ty x y) (z p : Nat) (v : Value) (hx : a.eval x = .pointer (some ⟨z, p, none⟩)) (hy : a.eval y = v) {cs : List Value} {t : TypeId} {i : Nat} (hz : L[i]? = some (own z cs t))
    (hT : OneT P ty) (hl : p < cs.length) (h1 : v.oneCell' = true) (h : ∀ w', Mem At b u w' s (L.set i (own z (cs.set p v) t)) → K (a.put o.dst undef) w') : o.wp P a w K Q :=
  op_set M ty x y ho z p v hx hy hz hT.1 hl h1 h
end

section
variable {P : Program} {o : Oper} {a : Act} {Q : Exit → Act → World → Prop} {K : Act → World → Prop}
variable {T : List Tok} {b : Nat} {ao : Option Addr} {n cap : Nat} {s : PS} {u w : World} {L : List Ent}
/-- The reader's place read; set on. -/
theorem op_cell {ty : TypeId} {x : Operand} {p : Addr} {v : Value} (ho : o.op = .load ty x) (hx : a.eval x = .pointer (some p)) (hT : OneT P ty) (hc : w.cell? p = some v) (h : K (a.put o.dst v) w) : o.wp P a w K Q := by
  obtain ⟨hi, d, hu, hd⟩ := hT
  unfold Oper.wp execOp
  simp only [ho, hx, Instr.loadAt, Instr.sureAddr, Sem.run_bind, Sem.run_pure, Result.andThen_ok, run_load_one hu hd hc]
  exact h
theorem op_pos (M : Mem (RdAt b ao n cap) b u w s L) (ty : TypeId) (x : Operand) (ho : o.op = .load ty x) (hx : a.eval x = .pointer (some ⟨b, 1, none⟩)) (hT : OneT P ty) (h : K (a.put o.dst (.int .i64 s.pos)) w) : o.wp P a w K Q :=
  op_cell ho hx hT M.at_.open.2.1 h
theorem Mem.adv (M : Mem (RdAt b ao n cap) b u w s L) (he : s.e = 0) : Mem (RdAt b ao n cap) b u (w.setCell ⟨b, 1, none⟩ (.int .i64 (s.pos + 1))) (adv s) L :=
  M.step (M.at_.adv he) ((But.refl b w).set 1 _)
theorem op_adv (M : Mem (RdAt b ao n cap) b u w s L) (he : s.e = 0) (ty : TypeId) (x y : Operand) (ho : o.op = .store ty x y) (hx : a.eval x = .pointer (some ⟨b, 1, none⟩)) (hy : a.eval y = .int .i64 (s.pos + 1)) (hT : OneT P ty)
    (h : ∀ w', Mem (RdAt b ao n cap) b u w' (Go.Proofs.YtobnaokknkmlcaaDoor.adv s) L → K (a.put o.dst undef) w') : o.wp P a w K Q := by
  have hc : (storeVar ty ⟨b, 1, none⟩ (.int .i64 (s.pos + 1))).run P w = .ok () (w.setCells b 1 [.int .i64 (s.pos + 1)]) := by
    have hO := M.at_.open
    have hh := run_storeCells_cells (P := P) b 1 [.int .i64 (s.pos + 1)] 0 w (fun j hj => by
      have e0 : j = 0 := by simpa using hj
      subst e0
      simp [hO.2.1]) (fun j hj => hO.2.2.2.2 _) (fun u hu => by rw [List.mem_singleton.1 hu]; rfl)
    obtain ⟨hT1, _⟩ := hT
    cases hq : P.info? ty with
    | none => simp [hq] at hT1
    | some i =>
      have hs : i.size = 1 := by simpa [hq] using hT1
      simp only [Nat.add_zero] at hh
      simp [storeVar, sizeOf, typeInfo, hq, Value.cells, hs, hh]
  unfold Oper.wp execOp
  simp only [ho, hx, hy, Instr.storeAt, Instr.sureAddr, Sem.run_bind, Sem.run_pure, Result.andThen_ok, hc]
  exact h _ (M.adv he)

theorem Mem.mark (M : Mem (RdAt b ao n cap) b u w s L) (hE : Env T b ao n cap u) (x : ByteArray) :
    Calls Tryd.prog 24 #[.pointer (some ⟨b, 0, none⟩), .string x] w fun e w' => e = .returned (.tuple #[]) ∧ Mem (RdAt b ao n cap) b u w' (mustS T 4 x s) L :=
  (mark_any M.at_ (hE.but M.but) x).mono fun e w' h => ⟨h.1, M.step h.2.1 h.2.2⟩
theorem Mem.word (M : Mem (RdAt b ao n cap) b u w s L) (hE : Env T b ao n cap u) (x : ByteArray) :
    Calls Tryd.prog 44 #[.pointer (some ⟨b, 0, none⟩), .string x] w fun e w' => e = .returned (.tuple #[]) ∧ Mem (RdAt b ao n cap) b u w' (mustS T 1 x s) L :=
  (word_any M.at_ (hE.but M.but) x).mono fun e w' h => ⟨h.1, M.step h.2.1 h.2.2⟩
theorem Mem.miss (M : Mem (RdAt b ao n cap) b u w s L) (hE : Env T b ao n cap u) :
    Calls Tryd.prog 26 #[.pointer (some ⟨b, 0, none⟩)] w fun e w' => e = .returned (.tuple #[]) ∧ Mem (RdAt b ao n cap) b u w' (missS T s) L :=
  (miss_any M.at_ (hE.but M.but)).mono fun e w' h => ⟨h.1, M.step h.2.1 h.2.2⟩
theorem Mem.name (M : Mem (RdAt b ao n cap) b u w s L) (hE : Env T b ao n cap u) :
    Calls Tryd.prog 22 #[.pointer (some ⟨b, 0, none⟩)] w fun e w' => e = .returned (.string (nameS T s).1) ∧ Mem (RdAt b ao n cap) b u w' (nameS T s).2 L :=
  (rname_any M.at_ (hE.but M.but)).mono fun e w' h => ⟨h.1, M.step h.2.1 h.2.2⟩
theorem Mem.number (M : Mem (RdAt b ao n cap) b u w s L) (hE : Env T b ao n cap u) :
    Calls Tryd.prog 45 #[.pointer (some ⟨b, 0, none⟩)] w fun e w' => e = .returned (.int .i64 (numS T s).1) ∧ Mem (RdAt b ao n cap) b u w' (numS T s).2 L :=
  (rnumber_any M.at_ (hE.but M.but)).mono fun e w' h => ⟨h.1, M.step h.2.1 h.2.2⟩
theorem Mem.eat (M : Mem (RdAt b ao n cap) b u w s L) (hE : Env T b ao n cap u) (k : Int) (x : ByteArray) {Q : Ending → World → Prop}
    (hy : ∀ w', Dec (seesB T k x s = true) → Mem (RdAt b ao n cap) b u w' (Go.Proofs.YtobnaokknkmlcaaDoor.adv s) L → Q (.returned (.bool true)) w') (hn : ∀ w', Dec (seesB T k x s = false) → Mem (RdAt b ao n cap) b u w' s L → Q (.returned (.bool false)) w') :
    Calls Tryd.prog 21 #[.pointer (some ⟨b, 0, none⟩), .int .i64 k, .string x] w Q :=
  (eat_any M.at_ (hE.but M.but) k x).mono fun e w' h => by
    obtain ⟨rfl, h1, h2⟩ := h
    cases hs : seesB T k x s with
    | true => rw [eat_yes hs] at h1; exact hy w' hs (M.step h1 h2)
    | false => rw [eat_no hs] at h1; exact hn w' hs (M.step h1 h2)
theorem Mem.sees (M : Mem (RdAt b ao n cap) b u w s L) (hE : Env T b ao n cap u) (k : Int) (x : ByteArray) {Q : Ending → World → Prop}
    (hy : ∀ w', Dec (seesB T k x s = true) → Mem (RdAt b ao n cap) b u w' s L → Q (.returned (.bool true)) w') (hn : ∀ w', Dec (seesB T k x s = false) → Mem (RdAt b ao n cap) b u w' s L → Q (.returned (.bool false)) w') :
    Calls Tryd.prog 41 #[.pointer (some ⟨b, 0, none⟩), .int .i64 k, .string x] w Q :=
  (sees_any M.at_ (hE.but M.but) k x).mono fun e w' h => by
    obtain ⟨rfl, m, rfl⟩ := h
    cases hs : seesB T k x s with
    | true => exact hy _ hs (M.draws m)
    | false => exact hn _ hs (M.draws m)
theorem Mem.fail (M : Mem (RdAt b ao n cap) b u w s L) (k : Int) (hk : k ≠ 0) :
    Calls Tryd.prog 48 #[.pointer (some ⟨b, 0, none⟩), .int .i64 k] w fun e w' => e = .returned (.tuple #[]) ∧ Mem (RdAt b ao n cap) b u w' (failS s k) L :=
  (fail_any M.at_ k hk).mono fun e w' h => ⟨h.1, M.step h.2.1 h.2.2⟩
theorem Mem.alloc {At : PS → World → Prop} (M : Mem At b u w s L) (cs : List Value) (t : TypeId) : Mem At b u (w.alloc (.cells cs.toArray t)) s (own w.heap.size cs t :: L) :=
  M.push (Joins.below_alloc1 w _) (own_firm _ _ _) (fun y hy => by
    have e : w.heap.size = y := by injection hy
    subst e
    simp) (fun G _ => heap_alloc_new w _)
theorem Mem.start (h : RdAt b ao n cap s u) : Mem (RdAt b ao n cap) b u u s [] := Mem.empty h (fun s w w' hb h => hb.trans h) h.lt
end
end Go.Proofs.YtobnaokknkmlcaaDoor
