/-
  The law SiftTakes, proved: for every argument it answers true; its card, tied to the tables of the program's text. No condition but the tie.
-/
import Derived.ProofKit
import Derived.SizedLaws
import Derived.Lib.SmallJoins
import Derived.Test.YthlnheckaoeooaaDoorFoot
import Derived.Deep.DeepHandedRow
import Derived.Lib.LaidTab
import Derived.Stop.LaidErr
import Derived.MakeChecks
import Derived.Test.YthlnheckaoeooaaDoorRows
import Derived.Test.YthlnheckaoeooaaDoorOpen
import Derived.Test.YthlnheckaoeooaaDoorSfQa
import Derived.Test.YthlnheckaoeooaaDoorSfQb
import Derived.Deep.CutBlock
import Derived.Deep.DeepCutAuto
import Derived.Test.YthlnheckaoeooaaDoorCards
import Derived.Test.YthlnheckaoeooaaDoorTie
namespace Go.Proofs.YthlnheckaoeooaaDoor
open Go.ChangeShapes Go.WideShapes Go.ChangeAt Go.RowKit

/-- All arguments read behind the call as they did, where below the heap's old size nothing has turned. -/
theorem trodAll_below {H : Type} {enc : TypeId × Value → H} {P : Program} (hl : laidOutB P = true) {W W' : World} (hb : Below W.heap.size W W') :
    ∀ {ts : List TypeId} {vs : List Value} {ds : List (DataW H)} {ps : List MemPlace}, ts.all (fun t => P.readableRec t && decide (t < P.types.size)) = true →
      DataW.TrodAll enc P W 0 (fun _ => true) true ts vs ds ps → (∀ x ∈ ps, x.block < W.heap.size) →
      ∀ sp : Nat → Bool, (∀ p ∈ ps, sp p.block = true) → DataW.TrodAll enc P W' 0 sp true ts vs ds ps
  | [], [], [], ps, _, h, _, _, _ => h
  | t :: ts, v :: vs, d :: ds, ps, hr, h, hlt, sp, hsp => by
    obtain ⟨p, q, h1, h2, rfl⟩ := h
    simp only [List.all_cons, Bool.and_eq_true, decide_eq_true_eq] at hr
    refine ⟨p, q, ?_, trodAll_below hl hb hr.2 h2 (fun x hx => hlt x (by simp [hx])) sp (fun x hx => hsp x (by simp [hx])), rfl⟩
    exact WideElems.Trod_stays hl hr.1.1 hr.1.2 h1 (fun x hx => hb.same (hlt x (by simp [hx]))) (fun x hx => by simpa using hsp x (by simp [hx]))
  | [], [], _ :: _, _, _, h, _, _, _ => h.elim
  | [], _ :: _, _, _, _, h, _, _, _ => h.elim
  | _ :: _, [], _, _, _, h, _, _, _ => h.elim
  | _ :: _, _ :: _, [], _, _, h, _, _, _ => h.elim

end Go.Proofs.YthlnheckaoeooaaDoor
/-
  A law's row out of its walk, where the row lists package-level variables; and what a listed table of strings gives. For every program. No condition but the row's own.
-/
namespace Go.Proofs.YthlnheckaoeooaaDoor
open Go.ChangeShapes Go.WideShapes Go.ChangeAt Go.RowKit
set_option linter.unusedVariables false

/-- What a list of strings reads as. -/
def wordsData {H : Type} (xs : List ByteArray) : DataW H := .agg (xs.map fun s => .lit (.string s.data.toList))
theorem cells_of_words {H : Type} {enc : TypeId × Value → H} {P : Program} {w : World} {base : Nat} {sp : Nat → Bool} {held : Bool} {fuel : Nat} {t e : TypeId} {n : Nat} {cs : List Value} {zs : List ByteArray} {p : List MemPlace}
    (ht : P.underlying t = some (.array n e)) (he : P.underlying e = some .string) (hce : P.cellsOf e = 1) (hct : P.cellsOf t = n)
    (h : DataW.trod enc P w base sp held fuel t cs = some (wordsData zs, p)) : cs = zs.map Value.string := by
  cases fuel with
  | zero => simp [DataW.trod] at h
  | succ fuel =>
    simp only [DataW.trod, ht, hce, hct, Nat.mul_one] at h
    split at h
    · rename_i hl
      obtain ⟨xs, hm, hx⟩ := Option.map_eq_some_iff.1 h
      have hxs : xs.map (·.1) = zs.map fun z => (DataW.lit (.string z.data.toList) : DataW H) := by
        have := congrArg Prod.fst hx
        simpa [wordsData] using this
      have hxl : xs.length = n := by simpa using Lib.mapM_length hm
      have hzl : zs.length = n := by
        have := congrArg List.length hxs
        simp at this
        omega
      apply List.ext_getElem?
      intro i
      by_cases hi : i < n
      · obtain ⟨b, hb, hf⟩ := Lib.mapM_at hm i i (by simp [hi])
        obtain ⟨z, hc, rfl, _⟩ := DataW.trod_string he hf
        have h1 : cs[i]? = some (.string z) := by
          have := congrArg (·[0]?) hc
          simpa [List.getElem?_take, List.getElem?_drop] using this
        have h2 : (xs.map (·.1))[i]? = some (DataW.lit (.string z.data.toList) : DataW H) := by simp [hb]
        rw [hxs] at h2
        simp only [List.getElem?_map, Option.map_eq_some_iff, DataW.lit.injEq, Lit.string.injEq] at h2
        obtain ⟨z', hz', hzz⟩ := h2
        have : z' = z := by
          apply ByteArray.ext
          apply Array.toList_inj.1
          exact hzz
        subst this
        simp [h1, hz']
      · rw [List.getElem?_eq_none (by omega), List.getElem?_eq_none (by simp; omega)]
    · cases h
theorem words_of_head {P : Program} {W : World} {name : String} {zs : List ByteArray} {rest : List (String × DataW Unit)} {g : Nat} {t e : TypeId} {n : Nat}
    (hg : P.globalNamed name = some g) (hty : (P.globals[g]?).map (·.type) = some t) (ht : P.underlying t = some (.array n e)) (he : P.underlying e = some .string) (hce : P.cellsOf e = 1) (hct : P.cellsOf t = n)
    (h : laidMet P ((name, wordsData zs) :: rest) W) : ∀ i (hi : i < zs.length), W.cell? ⟨g, i, none⟩ = some (.string zs[i]) := by
  obtain ⟨ps, ⟨g', t', cs, fuel, p, q, hg', ht', hvar, hd, _, _⟩, _⟩ := h
  obtain rfl := Option.some.inj (hg.symm.trans hg')
  obtain rfl := Option.some.inj (hty.symm.trans ht')
  have hc := cells_of_words ht he hce hct hd
  intro i hi
  have := World.var?_cell hg hvar i
  rw [this, ← Array.getElem?_toList, hc]
  simp [hi]

/-- A variable's block with these cells. -/
def layCells (h : Array Obj) (b : Nat) (cs : Array Value) : Array Obj := h.modify b fun
  | .cells _ t frozen => .cells cs t frozen
  | o => o
/-- The row's step of a law, under a list of variables. -/
theorem lawrow_lift {C : Checked} {os : Os} {f : FuncId} {fn : Func} {s : ChangeSpec} {tb : TypeId} {H : Type} {enc : TypeId × Value → H} {F : Stop.Interp} {laid : List (String × DataW Unit)}
    (own : ownKnob C.prog.godebug = none) (started : os.Started) (noInit : C.prog.inits.idxOf? f = none) (hfn : C.prog.funcs[f]? = some fn)
    (hl : laidOutB C.prog = true) (hread : fn.params.toList.all (fun t => C.prog.readableRec t && decide (t < C.prog.types.size)) = true)
    (hvars : s.vars = []) (hrt : fn.resultTypes = #[tb]) (hub : C.prog.underlying tb = some .bool)
    (hspec : ∀ ds : List (DataW H), ds.length = fn.params.toList.length → s.fn H ds = { results := [.lit (.bool true)], args := ds })
    (witness : ∃ (w : World) (tape : Tape) (i : Input), w.os = os ∧ (w.forCall tape i).Shaped C.prog ∧ i.vars = [] ∧ Input.okWide C.prog (w.forCall tape i) .any w.heap.size f i ∧
      (OpenSpec.ofChange s).preRow enc C.prog fn [] false laid (w.forCall tape i).memory i.args ∧ ({} : Assume).holds C.prog (lone (Frame.enter C.prog f i.args .normal) [] (w.forCall tape i)))
    (walk : ∀ (W : World) (base : Nat) (args : Array Value) (ds : List (DataW H)) (ps : List MemPlace),
      (∀ (j : Nat) t v, fn.params[j]? = some t → args[j]? = some v → Value.okWide C.prog W .any base t v) →
      DataW.TrodAll enc C.prog W 0 (fun _ => true) true fn.params.toList args.toList ds ps →
      (∀ x ∈ ps, x.block < W.heap.size) →
      (DataW.weightsEach C.prog fn.params.toList ds).all (· ≤ reachBytes) = true → laidMetH C.prog laid W →
      Calls C.prog f args W fun e W' => e = .returned (.bool true) ∧ Below W.heap.size W W') :
    ReturnsInHanded {} C os f .any ((OpenSpec.ofChange s).preRow enc C.prog fn [] false laid) (((OpenSpec.ofChange s).at F).post enc C.prog fn false true false false) := by
  refine returnsInHanded_of_row (C := C) (s := OpenSpec.ofChange s) own started noInit hfn witness ?_
  intro W base args ds gs before hval hW _ _ hsz hL _ _
  have hW' := hW
  obtain ⟨p, q, hA, hV, rfl, _, _⟩ := hW
  have hvars' : (OpenSpec.ofChange s).vars = [] := hvars
  rw [hvars'] at hV
  obtain ⟨rfl, rfl⟩ := trodVars_none hV
  have hlt : ∀ x ∈ p, x.block < W.heap.size := fun x hx => by simpa using hW'.lt x (by simp [hx])
  have hlen : ∀ (ts : List TypeId) (vs : List Value) (ds : List (DataW H)) (p : List MemPlace), DataW.TrodAll enc C.prog W 0 (fun _ => true) true ts vs ds p → ds.length = ts.length := by
    intro ts
    induction ts with
    | nil => intro vs ds p h; cases vs <;> cases ds <;> first | rfl | exact h.elim
    | cons t ts ih =>
      intro vs ds p h
      cases vs with
      | nil => exact h.elim
      | cons v vs =>
        cases ds with
        | nil => exact h.elim
        | cons d ds =>
          obtain ⟨_, _, _, h2, _⟩ := h
          simp [ih _ _ _ h2]
  have hsz' : (DataW.weightsEach C.prog fn.params.toList ds).all (· ≤ reachBytes) = true := by
    have e : (OpenSpec.ofChange s).bare.plain.varTypes C.prog = [] := by
      show DataSpec.varTypes _ _ = []
      simp [DataSpec.varTypes, ChangeSpec.plain, OpenSpec.bare, OpenSpec.ofChange, hvars]
    rw [e] at hsz
    simpa using hsz
  refine (walk W base args ds p (fun j t v h1 h2 => hval j t v h1 h2) hA hlt hsz' hL).mono fun e W' ⟨he, hb⟩ => ?_
  have hs := hspec ds (hlen _ _ _ _ hA)
  refine ⟨_, he, ?_⟩
  show s.post enc C.prog fn false true false false W args _ W'
  refine ⟨ds, [], p ++ [], [], p, [], hW', ?_, ?_, ?_, hb.frame _, fun h => by cases h⟩
  · rw [List.append_nil, hs, hrt]
    exact trodAll_mk1 (shut_bool hub true)
  · rw [List.append_nil, hs]
    exact trodAll_below hl hb hread hA hlt _ (fun x hx => by simpa using hlt x hx)
  · rw [hvars, List.append_nil, hs]
    rfl
end Go.Proofs.YthlnheckaoeooaaDoor
/-
  What every law of this seat wants of the program at its lifting. No condition.
-/
namespace Go.Proofs.YthlnheckaoeooaaDoor
open Go.ChangeShapes Go.WideShapes Go.ChangeAt Go.RowKit Go.Joins Go.Deep
set_option linter.unusedVariables false

theorem own_knob : ownKnob Tryd.prog.godebug = none := by kernel_rfl
theorem laid_out : laidOutB Tryd.prog = true := by kernel_rfl
end Go.Proofs.YthlnheckaoeooaaDoor
/-
  The walk of sift.Takes. Printed by sfe.py.
-/
namespace Go.Proofs.YthlnheckaoeooaaDoor
open Go.RowKit
set_option linter.unusedVariables false
set_option linter.unusedSimpArgs false

section
variable {b : Bok} {R : Rul} {ts : List Typ} {rule part k : Int} {x : Eve} {known : List Eve}
theorem takes_e1 (h : bookE b ≠ 0) : takesE b rule part k x known = (false, bookE b) := by unfold takesE; rw [if_pos h]
theorem takes_e2 (h0 : bookE b = 0) (h : ¬ (0 ≤ rule ∧ rule < b.rules.length)) : takesE b rule part k x known = (false, 2) := by unfold takesE; rw [if_neg (by rw [h0]; simp), if_pos h]
theorem takes_e3 (h0 : bookE b = 0) (h : 0 ≤ rule ∧ rule < b.rules.length) (hr : rule.toNat < b.rules.length) : takesE b rule part k x known = takesR b.types b.rules[rule.toNat] part k x known := by
  unfold takesE
  rw [if_neg (by rw [h0]; simp), if_neg (fun hn => hn h), show b.rules.getD rule.toNat rul00 = b.rules[rule.toNat] by simp [List.getD, List.getElem?_eq_getElem hr]]
theorem part_in (h : 0 ≤ k ∧ k < (partL R part).length) : 0 ≤ part ∧ part ≤ 2 := by
  unfold partL at h
  by_cases h0 : part = 0
  · omega
  by_cases h1 : part = 1
  · omega
  by_cases h2 : part = 2
  · omega
  rw [if_neg h0, if_neg h1, if_neg h2] at h
  simp at h
  omega
theorem takesR_bad (h : ¬ (0 ≤ k ∧ k < (partL R part).length)) : takesR ts R part k x known = (false, 2) := by unfold takesR; rw [if_pos (.inr h)]
theorem takesR_ev (h : 0 ≤ k ∧ k < (partL R part).length) {j : Nat} (hz : AllZ (evE ts (x :: known)) j) (hj : j < known.length + 1) {e : Int} (he : evE ts (x :: known) j = e) (hn : e ≠ 0) : takesR ts R part k x known = (false, e) := by
  have hf := firstN_at hz hj (by rw [he]; exact hn)
  unfold takesR
  rw [if_neg (fun hh => hh.elim (fun g => g (part_in h)) (fun g => g h)), if_pos (by rw [hf, he]; exact hn), hf, he]
theorem takesR_form (h : 0 ≤ k ∧ k < (partL R part).length) (hz : AllZ (evE ts (x :: known)) (known.length + 1)) (hf : (known.length : Int) ≠ (if part = 0 then k else R.whens.length)) : takesR ts R part k x known = (false, 4) := by
  unfold takesR
  rw [if_neg (fun hh => hh.elim (fun g => g (part_in h)) (fun g => g h)), if_neg (by rw [firstN_zero hz]; simp), if_pos hf]
theorem takesR_mis (h : 0 ≤ k ∧ k < (partL R part).length) (hz : AllZ (evE ts (x :: known)) (known.length + 1)) (hf : (known.length : Int) = (if part = 0 then k else R.whens.length)) {j : Nat} (hm : AllZ (misE ts R.whens known) j) (hj : j < known.length) (he : misE ts R.whens known j = 13) : takesR ts R part k x known = (false, 13) := by
  have hg := firstN_at hm hj (by rw [he]; decide)
  unfold takesR
  rw [if_neg (fun hh => hh.elim (fun g => g (part_in h)) (fun g => g h)), if_neg (by rw [firstN_zero hz]; simp), if_neg (fun hn => hn hf), if_pos (by rw [hg, he]; decide)]
theorem takesR_end (h : 0 ≤ k ∧ k < (partL R part).length) (hz : AllZ (evE ts (x :: known)) (known.length + 1)) (hf : (known.length : Int) = (if part = 0 then k else R.whens.length)) (hm : AllZ (misE ts R.whens known) known.length) :
    takesR ts R part k x known = (sameS (evT ts x).name ((partL R part).getD k.toNat pat0).type && holdR ts R.whens known x 8 ((partL R part).getD k.toNat pat0).wher, 0) := by
  unfold takesR
  rw [if_neg (fun hh => hh.elim (fun g => g (part_in h)) (fun g => g h)), if_neg (by rw [firstN_zero hz]; simp), if_neg (fun hn => hn hf), if_neg (by rw [firstN_zero hm]; simp)]
theorem evE_at {l : List Eve} {j : Nat} (h : j < l.length) : evE ts l j = eventE ts l[j].e l[j].vals := by unfold evE; rw [show l.getD j default = l[j] by simp [List.getD, List.getElem?_eq_getElem h]]
theorem misE_at {wh : List Pat} {l : List Eve} {j : Nat} (h : j < l.length) (hw : j < wh.length) : misE ts wh l j = if sameS (evT ts l[j]).name wh[j].type = true then 0 else 13 := by
  unfold misE
  rw [show l.getD j default = l[j] by simp [List.getD, List.getElem?_eq_getElem h], show wh.getD j pat0 = wh[j] by simp [List.getD, List.getElem?_eq_getElem hw]]
theorem vars_snoc {wh : List Pat} {j : Nat} (hw : j < wh.length) : vars (wh.take j) ++ [wh[j].var] = vars (wh.take (j + 1)) := by
  unfold vars
  rw [List.take_add_one, List.getElem?_eq_getElem hw, List.map_append]
  rfl
end
section
variable {g : Nat} {F F3 : Nat → Prop} {w0 : World}
set_option maxRecDepth 8000 in
set_option maxHeartbeats 16000000 in
theorem takes_book (hg : g < w0.heap.size) (E : Env F w0) (hF : ∀ b, F b → b < w0.heap.size) (b : Bok) (a1 : Option Addr) (n1 c1 : Nat) (a2 : Option Addr) (n2 c2 : Nat) (X1 : SlF F w0 2 typF a1 n1 c1 b.types) (X2 : SlF F w0 7 rulF a2 n2 c2 b.rules) (hts : ∀ t ∈ b.types, typOk t) (hrs : ∀ x ∈ b.rules, RulFit x) (hes : ∀ x ∈ b.rules, x.etype.size ≤ maxLen) (x : Eve) (px : Option Addr) (qx rx : Nat) (hxv : SlF F3 w0 3 (plainF valC) px qx rx x.vals) (hxo : eveOk x) (a3 : Option Addr) (n3 c3 : Nat) (known : List Eve) (X3 : SlF F3 w0 5 eveF a3 n3 c3 known) (hko : ∀ y ∈ known, eveOk y) (hn3 : n3 * 56 ≤ 140737488351232) (rule part k : Int) (h0 : bookE b ≠ 0) : Calls Tryd.prog 5 #[.agg #[.slice a1 n1 c1, .slice a2 n2 c2], .int .i64 rule, .int .i64 part, .int .i64 k, .agg #[.int .i64 x.e.number, .int .i64 x.e.type, .int .i64 x.e.start, .int .i64 x.e.stop, .slice px qx rx], .slice a3 n3 c3] w0 fun e w' => e = .returned (.tuple #[.bool (takesE b rule part k x known).1, .int .i64 (takesE b rule part k x known).2]) ∧ Below w0.heap.size w0 w' := by
  have M := Mem.begin hg ⟨0, 0⟩
  have HC : Hid (∀ wx, Below w0.heap.size w0 wx → Calls Tryd.prog 10 #[.agg #[.slice a1 n1 c1, .slice a2 n2 c2]] wx fun e w' => e = .returned (.int .i64 (bookE b)) ∧ Below wx.heap.size wx w') := fun wx hb => check_any (E.below hb).lt (E.below hb) (fun k hk => Nat.lt_of_lt_of_le (hF k hk) hb.size) b a1 n1 c1 a2 n2 c2 (X1.below typF_firm hb) (X2.below rulF_firm hb) hts hrs hes
  have HV : Hid (takesE b rule part k x known = (false, bookE b)) := takes_e1 h0
  have hqb : (bookE b != 0) = true := by simpa using h0
  generalize takesE b rule part k x known = T at HV ⊢
  generalize bookE b = q at HC HV hqb
  clear h0 X1 X2 X3 hts hrs hes hxv hxo hko hg hF E
  go_enter Tryd.func5, Tryd.ntmps5
  go_wp2_with (first | (with_reducible (first | (refine wB (L := []) M ?_; clear M; intro za w1 M) | (refine wB M ?_; clear M; intro zx w1 M) | refine wl M ?_ | refine wlg M ?_ | (refine ws M ?_; clear M; intro w M) | (refine wsc M ?_; clear M; intro w M) | (refine wV M ?_; clear M; intro z w M) | (refine wR M ?_; clear M; intro q w M) | refine o_skipT ?_ | refine o_skipF ?_)) | (go_at_call 10; with_reducible refine (HC.out _ M.new).mono ?_; rintro e w5 ⟨rfl, hb5⟩; replace M := M.below hb5; clear hb5))
  go_ret2
  rw [HV.out]
  exact ⟨rfl, M.new⟩
set_option maxRecDepth 8000 in
set_option maxHeartbeats 16000000 in
theorem takes_norule (hg : g < w0.heap.size) (E : Env F w0) (hF : ∀ b, F b → b < w0.heap.size) (b : Bok) (a1 : Option Addr) (n1 c1 : Nat) (a2 : Option Addr) (n2 c2 : Nat) (X1 : SlF F w0 2 typF a1 n1 c1 b.types) (X2 : SlF F w0 7 rulF a2 n2 c2 b.rules) (hts : ∀ t ∈ b.types, typOk t) (hrs : ∀ x ∈ b.rules, RulFit x) (hes : ∀ x ∈ b.rules, x.etype.size ≤ maxLen) (x : Eve) (px : Option Addr) (qx rx : Nat) (hxv : SlF F3 w0 3 (plainF valC) px qx rx x.vals) (hxo : eveOk x) (a3 : Option Addr) (n3 c3 : Nat) (known : List Eve) (X3 : SlF F3 w0 5 eveF a3 n3 c3 known) (hko : ∀ y ∈ known, eveOk y) (hn3 : n3 * 56 ≤ 140737488351232) (rule part k : Int) (h0 : bookE b = 0) (hr : ¬ (0 ≤ rule ∧ rule < b.rules.length)) : Calls Tryd.prog 5 #[.agg #[.slice a1 n1 c1, .slice a2 n2 c2], .int .i64 rule, .int .i64 part, .int .i64 k, .agg #[.int .i64 x.e.number, .int .i64 x.e.type, .int .i64 x.e.start, .int .i64 x.e.stop, .slice px qx rx], .slice a3 n3 c3] w0 fun e w' => e = .returned (.tuple #[.bool (takesE b rule part k x known).1, .int .i64 (takesE b rule part k x known).2]) ∧ Below w0.heap.size w0 w' := by
  have M := Mem.begin hg ⟨0, 0⟩
  have HC : Hid (∀ wx, Below w0.heap.size w0 wx → Calls Tryd.prog 10 #[.agg #[.slice a1 n1 c1, .slice a2 n2 c2]] wx fun e w' => e = .returned (.int .i64 (bookE b)) ∧ Below wx.heap.size wx w') := fun wx hb => check_any (E.below hb).lt (E.below hb) (fun k hk => Nat.lt_of_lt_of_le (hF k hk) hb.size) b a1 n1 c1 a2 n2 c2 (X1.below typF_firm hb) (X2.below rulF_firm hb) hts hrs hes
  have HV : Hid (takesE b rule part k x known = (false, 2)) := takes_e2 h0 hr
  have N2 := X2.len
  rw [h0] at HC
  have hd : rule < 0 ∨ (¬ rule < 0 ∧ (n2 : Int) ≤ rule) := by omega
  generalize takesE b rule part k x known = T at HV ⊢
  clear h0 hr N2 X1 X2 X3 hts hrs hes hxv hxo hko hg hF E
  obtain ⟨u1, hu1⟩ : ∃ u1, decide (rule < 0) = u1 := ⟨_, rfl⟩
  obtain ⟨u2, hu2⟩ : ∃ u2, decide ((n2 : Int) ≤ rule) = u2 := ⟨_, rfl⟩
  have hu : Hid (u1 = true ∨ u2 = true) := by
    rcases hd with hd | ⟨hd1, hd⟩
    · exact .inl (by rw [← hu1]; simpa using hd)
    · exact .inr (by rw [← hu2]; simpa using hd)
  clear hd
  cases u1 <;> cases u2
  · exact absurd hu.out (by simp)
  all_goals
    clear hu
    go_enter Tryd.func5, Tryd.ntmps5
    go_wp2_with (first | (with_reducible (first | (refine wB (L := []) M ?_; clear M; intro za w1 M) | (refine wB M ?_; clear M; intro zx w1 M) | refine wl M ?_ | refine wlg M ?_ | (refine ws M ?_; clear M; intro w M) | (refine wsc M ?_; clear M; intro w M) | (refine wV M ?_; clear M; intro z w M) | (refine wR M ?_; clear M; intro q w M) | refine o_skipT ?_ | refine o_skipF ?_)) | (go_at_call 10; with_reducible refine (HC.out _ M.new).mono ?_; rintro e w5 ⟨rfl, hb5⟩; replace M := M.below hb5; clear hb5))
    go_ret2
    rw [HV.out]
    exact ⟨rfl, M.new⟩
set_option maxRecDepth 8000 in
set_option maxHeartbeats 16000000 in
theorem takes_nopat (hg : g < w0.heap.size) (E : Env F w0) (hF : ∀ b, F b → b < w0.heap.size) (b : Bok) (a1 : Option Addr) (n1 c1 : Nat) (a2 : Option Addr) (n2 c2 : Nat) (X1 : SlF F w0 2 typF a1 n1 c1 b.types) (X2 : SlF F w0 7 rulF a2 n2 c2 b.rules) (hts : ∀ t ∈ b.types, typOk t) (hrs : ∀ x ∈ b.rules, RulFit x) (hes : ∀ x ∈ b.rules, x.etype.size ≤ maxLen) (x : Eve) (px : Option Addr) (qx rx : Nat) (hxv : SlF F3 w0 3 (plainF valC) px qx rx x.vals) (hxo : eveOk x) (a3 : Option Addr) (n3 c3 : Nat) (known : List Eve) (X3 : SlF F3 w0 5 eveF a3 n3 c3 known) (hko : ∀ y ∈ known, eveOk y) (hn3 : n3 * 56 ≤ 140737488351232) (rule part k : Int) (h0 : bookE b = 0) (hr : 0 ≤ rule ∧ rule < b.rules.length) (hk : ∀ (h : rule.toNat < b.rules.length), ¬ (0 ≤ k ∧ k < (partL b.rules[rule.toNat] part).length)) : Calls Tryd.prog 5 #[.agg #[.slice a1 n1 c1, .slice a2 n2 c2], .int .i64 rule, .int .i64 part, .int .i64 k, .agg #[.int .i64 x.e.number, .int .i64 x.e.type, .int .i64 x.e.start, .int .i64 x.e.stop, .slice px qx rx], .slice a3 n3 c3] w0 fun e w' => e = .returned (.tuple #[.bool (takesE b rule part k x known).1, .int .i64 (takesE b rule part k x known).2]) ∧ Below w0.heap.size w0 w' := by
  have M := Mem.begin hg ⟨0, 0⟩
  have HC : Hid (∀ wx, Below w0.heap.size w0 wx → Calls Tryd.prog 10 #[.agg #[.slice a1 n1 c1, .slice a2 n2 c2]] wx fun e w' => e = .returned (.int .i64 (bookE b)) ∧ Below wx.heap.size wx w') := fun wx hb => check_any (E.below hb).lt (E.below hb) (fun k hk => Nat.lt_of_lt_of_le (hF k hk) hb.size) b a1 n1 c1 a2 n2 c2 (X1.below typF_firm hb) (X2.below rulF_firm hb) hts hrs hes
  have hrl : rule.toNat < b.rules.length := by omega
  have HTE := takes_e3 (part := part) (k := k) (x := x) (known := known) h0 hr hrl
  have N2 := X2.len
  have hd1 : decide (rule < 0) = false := by simp; omega
  have hd2 : decide ((n2 : Int) ≤ rule) = false := by simp; omega
  have hrz := rule_zero h0 hrl
  have hro := hrs _ (List.getElem_mem hrl)
  obtain ⟨cr, or, rowr, hixr, -, hrrr, hwr⟩ := SlF.rowAt (P := Tryd.prog) X2 rulF_firm Tryd.underlying23 size_rul (i := rule.toNat) hrl
  rw [show ((rule.toNat : Nat) : Int) = rule from Int.toNat_of_nonneg hr.1] at hixr
  obtain ⟨b1, m1, e1, b2, m2, e2, b3, m3, e3, b4, m4, e4, b6, m6, e6, er, Y1, Y2, Y3, -, -⟩ := hrrr
  subst er
  have HR : Hid (∀ wx, Below w0.heap.size w0 wx → wx.rangeAt cr or [.string b.rules[rule.toNat].name, .slice b1 m1 e1, .slice b2 m2 e2, .slice b3 m3 e3, .slice b4 m4 e4, .string b.rules[rule.toNat].etype, .slice b6 m6 e6]) := fun wx hb => (hwr wx hb).1
  have hsm : b.rules[rule.toNat].manies.length ≤ 100000 := man_few hrz
  have hwf : b.rules[rule.toNat].whens.length ≤ 100000 := when_few hrz
  have HPA : Hid (∀ wx, Below w0.heap.size w0 wx → Calls Tryd.prog 11 #[.agg #[.string b.rules[rule.toNat].name, .slice b1 m1 e1, .slice b2 m2 e2, .slice b3 m3 e3, .slice b4 m4 e4, .string b.rules[rule.toNat].etype, .slice b6 m6 e6], .int .i64 part, .int .i64 k] wx (PatPost F w0 wx (partL b.rules[rule.toNat] part) k)) := fun wx hb => takePat_any (Nat.lt_of_lt_of_le hg hb.size) hb Y1 Y2 Y3 hsm part k
  rw [h0] at HC
  have HV : Hid (takesE b rule part k x known = (false, 2)) := by show _ = _; rw [HTE]; exact takesR_bad (hk hrl)
  have HPB : Hid (∀ wx, Below w0.heap.size w0 wx → Calls Tryd.prog 11 #[.agg #[.string b.rules[rule.toNat].name, .slice b1 m1 e1, .slice b2 m2 e2, .slice b3 m3 e3, .slice b4 m4 e4, .string b.rules[rule.toNat].etype, .slice b6 m6 e6], .int .i64 part, .int .i64 k] wx fun e w' => e = .returned (.tuple #[.agg pat18z.toArray, .bool false]) ∧ Below wx.heap.size wx w') := fun wx hb => (HPA.out wx hb).mono (fun e w' h => ⟨h.2.2 (hk hrl), h.1⟩)
  unfold pat18z at HPB
  generalize takesE b rule part k x known = T at HV ⊢
  generalize b.rules[rule.toNat] = R at HR HPB
  clear HPA HTE h0 hr hk N2 hrz hro hwr Y1 Y2 Y3 hsm hwf hrl X1 X2 X3 hts hrs hes hxv hxo hko hg hF E
  go_enter Tryd.func5, Tryd.ntmps5
  go_wp2_with (first | (with_reducible (first | (refine wB (L := []) M ?_; clear M; intro za w1 M) | (refine wB M ?_; clear M; intro zx w1 M) | (refine wV M ?_; clear M; intro zp w M) | refine wl M ?_ | refine wlg M ?_ | (refine ws M ?_; clear M; intro w M) | (refine wsc M ?_; clear M; intro w M) | (refine wV M ?_; clear M; intro z w M) | (refine wR M ?_; clear M; intro q w M) | refine o_skipT ?_ | refine o_skipF ?_ | refine wA (HR.out _ M.new) ?_)) | ((with_reducible refine o_list rfl fun K hK => ?_); refine q_in M (by rfl) (by rfl) (by rfl) ?_; clear M; intro w M; (try simp only [List.set_cons_zero, List.set_cons_succ, laid, opdC, List.take_succ_cons, List.take_zero, List.drop_succ_cons, List.drop_zero, List.length_cons, List.length_nil, List.cons_append, List.nil_append, Nat.reduceAdd, Nat.zero_add] at M); refine hK _ _ ?_; clear hK K) | (go_at_call 10; with_reducible refine (HC.out _ M.new).mono ?_; rintro e w5 ⟨rfl, hb5⟩; replace M := M.below hb5; clear hb5) | (go_at_call 11; with_reducible refine (HPB.out _ M.new).mono ?_; rintro e w5 ⟨rfl, hb5⟩; replace M := M.below hb5; clear hb5))
  go_ret2
  rw [HV.out]
  exact ⟨rfl, M.new⟩
set_option maxRecDepth 8000 in
set_option maxHeartbeats 16000000 in
theorem takes_main (hg : g < w0.heap.size) (E : Env F w0) (hF : ∀ b, F b → b < w0.heap.size) (b : Bok) (a1 : Option Addr) (n1 c1 : Nat) (a2 : Option Addr) (n2 c2 : Nat) (X1 : SlF F w0 2 typF a1 n1 c1 b.types) (X2 : SlF F w0 7 rulF a2 n2 c2 b.rules) (hts : ∀ t ∈ b.types, typOk t) (hrs : ∀ x ∈ b.rules, RulFit x) (hes : ∀ x ∈ b.rules, x.etype.size ≤ maxLen) (x : Eve) (px : Option Addr) (qx rx : Nat) (hxv : SlF F3 w0 3 (plainF valC) px qx rx x.vals) (hxo : eveOk x) (a3 : Option Addr) (n3 c3 : Nat) (known : List Eve) (X3 : SlF F3 w0 5 eveF a3 n3 c3 known) (hko : ∀ y ∈ known, eveOk y) (hn3 : n3 * 56 ≤ 140737488351232) (rule part k : Int) (h0 : bookE b = 0) (hr : 0 ≤ rule ∧ rule < b.rules.length) (hk0 : ∀ (h : rule.toNat < b.rules.length), 0 ≤ k ∧ k < (partL b.rules[rule.toNat] part).length) : Calls Tryd.prog 5 #[.agg #[.slice a1 n1 c1, .slice a2 n2 c2], .int .i64 rule, .int .i64 part, .int .i64 k, .agg #[.int .i64 x.e.number, .int .i64 x.e.type, .int .i64 x.e.start, .int .i64 x.e.stop, .slice px qx rx], .slice a3 n3 c3] w0 fun e w' => e = .returned (.tuple #[.bool (takesE b rule part k x known).1, .int .i64 (takesE b rule part k x known).2]) ∧ Below w0.heap.size w0 w' := by
  have M := Mem.begin hg ⟨0, 0⟩
  have HC : Hid (∀ wx, Below w0.heap.size w0 wx → Calls Tryd.prog 10 #[.agg #[.slice a1 n1 c1, .slice a2 n2 c2]] wx fun e w' => e = .returned (.int .i64 (bookE b)) ∧ Below wx.heap.size wx w') := fun wx hb => check_any (E.below hb).lt (E.below hb) (fun k hk => Nat.lt_of_lt_of_le (hF k hk) hb.size) b a1 n1 c1 a2 n2 c2 (X1.below typF_firm hb) (X2.below rulF_firm hb) hts hrs hes
  have hrl : rule.toNat < b.rules.length := by omega
  have HTE := takes_e3 (part := part) (k := k) (x := x) (known := known) h0 hr hrl
  have N2 := X2.len
  have hd1 : decide (rule < 0) = false := by simp; omega
  have hd2 : decide ((n2 : Int) ≤ rule) = false := by simp; omega
  have hrz := rule_zero h0 hrl
  have hro := hrs _ (List.getElem_mem hrl)
  obtain ⟨cr, or, rowr, hixr, -, hrrr, hwr⟩ := SlF.rowAt (P := Tryd.prog) X2 rulF_firm Tryd.underlying23 size_rul (i := rule.toNat) hrl
  rw [show ((rule.toNat : Nat) : Int) = rule from Int.toNat_of_nonneg hr.1] at hixr
  obtain ⟨b1, m1, e1, b2, m2, e2, b3, m3, e3, b4, m4, e4, b6, m6, e6, er, Y1, Y2, Y3, -, -⟩ := hrrr
  subst er
  have HR : Hid (∀ wx, Below w0.heap.size w0 wx → wx.rangeAt cr or [.string b.rules[rule.toNat].name, .slice b1 m1 e1, .slice b2 m2 e2, .slice b3 m3 e3, .slice b4 m4 e4, .string b.rules[rule.toNat].etype, .slice b6 m6 e6]) := fun wx hb => (hwr wx hb).1
  have hsm : b.rules[rule.toNat].manies.length ≤ 100000 := man_few hrz
  have hwf : b.rules[rule.toNat].whens.length ≤ 100000 := when_few hrz
  have HPA : Hid (∀ wx, Below w0.heap.size w0 wx → Calls Tryd.prog 11 #[.agg #[.string b.rules[rule.toNat].name, .slice b1 m1 e1, .slice b2 m2 e2, .slice b3 m3 e3, .slice b4 m4 e4, .string b.rules[rule.toNat].etype, .slice b6 m6 e6], .int .i64 part, .int .i64 k] wx (PatPost F w0 wx (partL b.rules[rule.toNat] part) k)) := fun wx hb => takePat_any (Nat.lt_of_lt_of_le hg hb.size) hb Y1 Y2 Y3 hsm part k
  rw [h0] at HC
  have hk := hk0 hrl
  have hkl : k.toNat < (partL b.rules[rule.toNat] part).length := by omega
  obtain ⟨P, hP⟩ : ∃ P, P = (partL b.rules[rule.toNat] part).getD k.toNat pat0 := ⟨_, rfl⟩
  have hPf : PatFit P := by rw [hP]; exact partL_fit hro hkl
  obtain ⟨n4, hn4⟩ : ∃ n4, n4 = 1 + n3 := ⟨_, rfl⟩
  have NK := X3.len
  have hle3 := X3.le
  have HPB : Hid (∀ wx, Below w0.heap.size w0 wx → Calls Tryd.prog 11 #[.agg #[.string b.rules[rule.toNat].name, .slice b1 m1 e1, .slice b2 m2 e2, .slice b3 m3 e3, .slice b4 m4 e4, .string b.rules[rule.toNat].etype, .slice b6 m6 e6], .int .i64 part, .int .i64 k] wx fun e w' => ∃ (p1 : Option Addr) (q1 s1 : Nat), e = .returned (.tuple #[.agg #[.string P.var, .string P.type, .int .i64 P.wher.kind, .slice p1 q1 s1, .int .i64 P.wher.left.kind, .int .i64 P.wher.left.vkind, .int .i64 P.wher.left.vint, .string P.wher.left.vtext, .string P.wher.left.var, .string P.wher.left.field, .int .i64 P.wher.right.kind, .int .i64 P.wher.right.vkind, .int .i64 P.wher.right.vint, .string P.wher.right.vtext, .string P.wher.right.var, .string P.wher.right.field, .int .i64 P.window, .int .i64 P.n], .bool true]) ∧ SlF F w0 14 CondF p1 q1 s1 P.wher.subs ∧ Below wx.heap.size wx w') := fun wx hb => (HPA.out wx hb).mono (fun e w' h => by
    obtain ⟨row, e1, p1, q1, s1, e2, hs⟩ := h.2.1 hk
    rw [← hP] at e2 hs
    subst e2
    exact ⟨p1, q1, s1, e1, hs, h.1⟩)
  have HJ : Hid (∀ wx q, Below w0.heap.size w0 wx → w0.heap.size ≤ q → Own q [.int .i64 x.e.number, .int .i64 x.e.type, .int .i64 x.e.start, .int .i64 x.e.stop, .slice px qx rx] 30 wx → ∃ ra rc w', (Builtin.append_ #[31, 31] 31 #[.slice (some ⟨q, 0, none⟩) 1 1, .slice a3 n3 c3]).run Tryd.prog wx = .ok (.slice ra n4 rc) w' ∧ SlF (fun _ => True) w' 5 eveF ra n4 rc (x :: known) ∧ But q wx w') := fun wx q hb hq ho => by
    obtain ⟨i0, hi, hz0, hz1, hz2⟩ := info_parts info_eve
    rw [hn4]
    exact run_join (F := under w0.heap.size) Tryd.underlying31 hi hz0 hz1 hz2 rfl (by omega) eveF_firm eveF_one ho rfl ⟨px, qx, rx, rfl, (hxv.wide (plainF_firm _) (G := under w0.heap.size) (fun b _ h => h)).below (plainF_firm _) hb⟩ (fun b hbq => by intro e; subst e; have : b < w0.heap.size := hbq; omega) ((X3.wide eveF_firm (G := under w0.heap.size) (fun b _ h => h)).below eveF_firm hb) (by omega) (by unfold maxLen; omega)
  have HT := Lib.hid (fun wx (hb : Below w0.heap.size w0 wx) => typ_R (X1.below typF_firm hb) hts)
  have HX1 := Lib.hid X1
  have HX3 := Lib.hid X3
  have HXV := Lib.hid hxv
  have HY1 := Lib.hid Y1
  have HTS := Lib.hid hts
  have HKO := Lib.hid hko
  have HXO := Lib.hid hxo
  have HPF := Lib.hid hPf
  have HKK := Lib.hid hk
  have HNK := Lib.hid NK
  have HN4 := Lib.hid hn4
  have HG : Hid (∀ known' : List Eve, known' = known → EvGood b.types x → (∀ i (hi : i < known.length), EvGood b.types known[i]) → (known.length : Int) = (if part = 0 then k else (b.rules[rule.toNat].whens.length : Int)) → AllZ (misE b.types b.rules[rule.toNat].whens known) known.length → sameS (evT b.types x).name P.type = true → HoldGood b.types b.rules[rule.toNat].whens known x 8 P.wher) := fun _ _ h1 h2 h3 h4 h5 => by
    have h6 := takes_good h0 hrl (part_in hk) hkl h1 h2 (by rw [h3]; by_cases p0 : part = 0 <;> simp [p0] <;> omega) h4 (by rw [← hP]; exact h5)
    rw [← hP] at h6
    exact h6
  have HFEW := Lib.hid hwf
  have HLE : Hid ((known.length : Int) = (if part = 0 then k else (b.rules[rule.toNat].whens.length : Int)) → known.length ≤ b.rules[rule.toNat].whens.length) := fun h => by
    by_cases p0 : part = 0
    · rw [if_pos p0] at h
      have := hk.2
      unfold partL at this
      rw [if_pos p0] at this
      omega
    · rw [if_neg p0] at h; omega
  have HW : Hid (takesE b rule part k x known = takesR b.types b.rules[rule.toNat] part k x known) := HTE
  have HVE : Hid (∀ {j : Nat}, AllZ (evE b.types (x :: known)) j → j < known.length + 1 → ∀ {e : Int}, evE b.types (x :: known) j = e → e ≠ 0 → takesE b rule part k x known = (false, e)) := fun hz hj e he hn => HTE.trans (takesR_ev hk hz hj he hn)
  have HVF : Hid (AllZ (evE b.types (x :: known)) (known.length + 1) → (known.length : Int) ≠ (if part = 0 then k else (b.rules[rule.toNat].whens.length : Int)) → takesE b rule part k x known = (false, 4)) := fun hz hf => HTE.trans (takesR_form hk hz hf)
  have HVM : Hid (AllZ (evE b.types (x :: known)) (known.length + 1) → (known.length : Int) = (if part = 0 then k else (b.rules[rule.toNat].whens.length : Int)) → ∀ {j : Nat}, AllZ (misE b.types b.rules[rule.toNat].whens known) j → j < known.length → misE b.types b.rules[rule.toNat].whens known j = 13 → takesE b rule part k x known = (false, 13)) := fun hz hf j hm hj he => HTE.trans (takesR_mis hk hz hf hm hj he)
  have HVN : Hid (AllZ (evE b.types (x :: known)) (known.length + 1) → (known.length : Int) = (if part = 0 then k else (b.rules[rule.toNat].whens.length : Int)) → AllZ (misE b.types b.rules[rule.toNat].whens known) known.length → takesE b rule part k x known = (sameS (evT b.types x).name P.type && holdR b.types b.rules[rule.toNat].whens known x 8 P.wher, 0)) := fun hz hf hm => HTE.trans (by rw [hP]; exact takesR_end hk hz hf hm)
  have HW1 : Hid (∀ wx, Below w0.heap.size w0 wx → wx.cell? ⟨cr, or + 1, none⟩ = some (.slice b1 m1 e1)) := fun wx hb => (HR.out wx hb) 1 _ rfl
  generalize takesE b rule part k x known = T at HVE HVF HVM HVN ⊢
  generalize b.rules[rule.toNat] = R at *
  clear HPA HTE HW h0 hr hk0 hk hkl hP hPf N2 hrz hro hwr Y1 Y2 Y3 hsm hwf hrl X1 X2 X3 hts hrs hes hxv hxo hko hF E NK hn4
  replace hg := Lib.hid hg
  go_enter Tryd.func5, Tryd.ntmps5
  go_wp2_with (first | (with_reducible (first | (refine wB (L := []) M ?_; clear M; intro za w1 M) | (refine wB M ?_; clear M; intro zx w1 M) | (refine wV M ?_; clear M; intro zp w M) | refine wl M ?_ | refine wlg M ?_ | (refine ws M ?_; clear M; intro w M) | (refine wsc M ?_; clear M; intro w M) | (refine wV M ?_; clear M; intro z w M) | (refine wR M ?_; clear M; intro q w M) | refine o_skipT ?_ | refine o_skipF ?_ | refine wA (HR.out _ M.new) ?_)) | ((with_reducible refine o_list rfl fun K hK => ?_); refine q_in M (by rfl) (by rfl) (by rfl) ?_; clear M; intro w M; (try simp only [List.set_cons_zero, List.set_cons_succ, laid, opdC, List.take_succ_cons, List.take_zero, List.drop_succ_cons, List.drop_zero, List.length_cons, List.length_nil, List.cons_append, List.nil_append, Nat.reduceAdd, Nat.zero_add] at M); refine hK _ _ ?_; clear hK K) | (go_at_call 10; with_reducible refine (HC.out _ M.new).mono ?_; rintro e w5 ⟨rfl, hb5⟩; replace M := M.below hb5; clear hb5) | (go_at_call 11; with_reducible refine (HPB.out _ M.new).mono ?_; rintro e w5 ⟨p1, q1, s1, rfl, hSP, hb5⟩; have HSP := Lib.hid hSP; clear hSP; replace M := M.below hb5; clear hb5) | (at_builtin; obtain ⟨ra, rc, w6, hrun, hS6, hb6⟩ := HJ.out _ _ M.new (M.ne (Mem.of_get (i := 0) rfl)).1 (M.own_ (Mem.of_get (i := 0) rfl)); refine wpList_append_run rfl _ _ 31 rfl rfl rfl rfl hrun ?_; replace M := M.lose (i := 0) rfl hb6; clear hrun hb6))
  have hb06 := M.new
  have hza : Own za [.slice a1 n1 c1, .slice a2 n2 c2] 25 w6 := M.own_ (by simp)
  have hzx : Own zx [.int .i64 x.e.number, .int .i64 x.e.type, .int .i64 x.e.start, .int .i64 x.e.stop, .slice px qx rx] 30 w6 := M.own_ (by simp)
  have hzp : Own zp [.string P.var, .string P.type, .int .i64 P.wher.kind, .slice p1 q1 s1, .int .i64 P.wher.left.kind, .int .i64 P.wher.left.vkind, .int .i64 P.wher.left.vint, .string P.wher.left.vtext, .string P.wher.left.var, .string P.wher.left.field, .int .i64 P.wher.right.kind, .int .i64 P.wher.right.vkind, .int .i64 P.wher.right.vint, .string P.wher.right.vtext, .string P.wher.right.var, .string P.wher.right.field, .int .i64 P.window, .int .i64 P.n] 50 w6 := M.own_ (by simp)
  have HA0 : Hid (∀ wx, Below w6.heap.size w6 wx → wx.cell? ⟨za, 0, none⟩ = some (.slice a1 n1 c1)) := fun wx hb => (hza.below hb).cell 0
  have HA1 : Hid (∀ wx, Below w6.heap.size w6 wx → wx.cell? ⟨za, 1, none⟩ = some (.slice a2 n2 c2)) := fun wx hb => (hza.below hb).cell 1
  have HX5 : Hid (∀ wx, Below w6.heap.size w6 wx → wx.rangeAt zx 0 [.int .i64 x.e.number, .int .i64 x.e.type, .int .i64 x.e.start, .int .i64 x.e.stop, .slice px qx rx]) := fun wx hb => (hzx.below hb).range
  have HXT : Hid (∀ wx, Below w6.heap.size w6 wx → wx.cell? ⟨zx, 1, none⟩ = some (.int .i64 x.e.type)) := fun wx hb => (hzx.below hb).cell 1
  have HPT : Hid (∀ wx, Below w6.heap.size w6 wx → wx.cell? ⟨zp, 1, none⟩ = some (.string P.type)) := fun wx hb => (hzp.below hb).cell 1
  have HPC : Hid (∀ wx, Below w6.heap.size w6 wx → wx.rangeAt zp 2 [.int .i64 P.wher.kind, .slice p1 q1 s1, .int .i64 P.wher.left.kind, .int .i64 P.wher.left.vkind, .int .i64 P.wher.left.vint, .string P.wher.left.vtext, .string P.wher.left.var, .string P.wher.left.field, .int .i64 P.wher.right.kind, .int .i64 P.wher.right.vkind, .int .i64 P.wher.right.vint, .string P.wher.right.vtext, .string P.wher.right.var, .string P.wher.right.field]) := fun wx hb => range_part (hzp.below hb).range 2 _ rfl
  have HB06 := Lib.hid hb06
  have hg6 : g < w6.heap.size := Nat.lt_of_lt_of_le hg.out hb06.size
  have HS6 := Lib.hid hS6
  clear hza hzx hzp hb06 hS6 HPB HJ HC M hg
  have M := Mem.begin hg6 ⟨0, 0⟩
  have hlift : ∀ wx : World, Below w6.heap.size w6 wx → Below w0.heap.size w0 wx := fun wx hb => HB06.out.trans (hb.mono HB06.out.size)
  have HL := Lib.hid hlift
  have HW6 : Hid (∀ wx, Below w6.heap.size w6 wx → wx.cell? ⟨cr, or + 1, none⟩ = some (.slice b1 m1 e1)) := fun wx hb => HW1.out wx (hlift wx hb)
  have N4 : Hid (n4 = (x :: known).length) := by have := HN4.out; have := HNK.out; show _ = _; simp only [List.length_cons]; omega
  have hle4 := HS6.out.le
  have HGG := Lib.hid hg6
  clear hlift HW1 hg6
  go_loopg [57] n4 (fun f i wr => ∃ (j : Nat), j + f = n4 ∧ i = .int .i64 j ∧ Mem (StaysB g w6) g w6 wr ⟨0, 0⟩ [] ∧ Hid (AllZ (evE b.types (x :: known)) j))
  case atStart => exact ⟨0, by omega, rfl, M, allZ_zero _⟩
  case round =>
    clear M
    obtain ⟨j, hj, rfl, M, HZ⟩ := hrel
    by_cases hlt : j < n4
    · have hkl : j < (x :: known).length := by have := N4.out; omega
      obtain ⟨ct, ot, rowt, hixt, -, hrrt, hwt⟩ := SlF.rowAt (P := Tryd.prog) HS6.out eveF_firm Tryd.underlying31 size_eve (i := j) hkl
      obtain ⟨p2, q2, s2, et, ut⟩ := hrrt
      subst et
      have HRE := Lib.hid (fun wx hb => (hwt wx hb).1)
      have hto : eveOk (x :: known)[j] := by
        rcases List.mem_cons.1 (List.getElem_mem hkl) with h | h
        · rw [h]; exact HXO.out
        · exact HKO.out _ h
      have HEV : Hid (∀ wx, Below w6.heap.size w6 wx → Calls Tryd.prog 12 #[.slice a1 n1 c1, .agg #[.int .i64 (x :: known)[j].e.number, .int .i64 (x :: known)[j].e.type, .int .i64 (x :: known)[j].e.start, .int .i64 (x :: known)[j].e.stop, .slice p2 q2 s2]] wx fun e w' => e = .returned (.int .i64 (eventE b.types (x :: known)[j].e (x :: known)[j].vals)) ∧ Below wx.heap.size wx w') := fun wx hb => event_any a1 n1 c1 b.types (x :: known)[j].e p2 q2 s2 (x :: known)[j].vals wx (HT.out wx (HL.out _ hb)) (val_R (ut.below (plainF_firm _) hb) hto)
      have HZ2 : Hid (eventE b.types (x :: known)[j].e (x :: known)[j].vals = 0 → AllZ (evE b.types (x :: known)) (j + 1)) := fun h => allZ_succ HZ.out (by rw [evE_at hkl]; exact h)
      have HV2 : Hid (∀ e, eventE b.types (x :: known)[j].e (x :: known)[j].vals = e → e ≠ 0 → T = (false, e)) := fun e he hn => HVE.out HZ.out (by simp only [List.length_cons] at hkl; exact hkl) (by rw [evE_at hkl]; exact he) hn
      clear hwt hto ut HZ
      generalize (x :: known)[j] = y at HRE HEV HZ2 HV2
      clear hkl
      by_cases hq : eventE b.types y.e y.vals = 0
      · have HZ3 := Lib.hid (HZ2.out hq)
        rw [hq] at HEV
        clear HZ2 HV2 hq
        go_wp2_with (first | (with_reducible (first | (refine wV M ?_; clear M; intro zy w M) | refine wl M ?_ | refine wlg M ?_ | (refine ws M ?_; clear M; intro w M) | (refine wsc M ?_; clear M; intro w M) | (refine wV M ?_; clear M; intro z w M) | (refine wR M ?_; clear M; intro q w M) | refine o_skipT ?_ | refine o_skipF ?_ | refine wA (HRE.out _ M.new) ?_ | refine wC (HA0.out _ M.new) ?_)) | (go_at_call 12; with_reducible refine (HEV.out _ M.new).mono ?_; rintro e w5 ⟨rfl, hb5⟩; replace M := M.below hb5; clear hb5))
        go_roundg (n4 - (j + 1))
        case measure => omega
        case rel => exact ⟨j + 1, by omega, by go_num, M.drop, HZ3⟩
      · have HV := Lib.hid (HV2.out _ rfl hq)
        have hqb : (eventE b.types y.e y.vals != 0) = true := by simpa using hq
        generalize eventE b.types y.e y.vals = te at HEV HV hqb
        clear HZ2 HV2 hq
        go_wp2_with (first | (with_reducible (first | (refine wV M ?_; clear M; intro zy w M) | refine wl M ?_ | refine wlg M ?_ | (refine ws M ?_; clear M; intro w M) | (refine wsc M ?_; clear M; intro w M) | (refine wV M ?_; clear M; intro z w M) | (refine wR M ?_; clear M; intro q w M) | refine o_skipT ?_ | refine o_skipF ?_ | refine wA (HRE.out _ M.new) ?_ | refine wC (HA0.out _ M.new) ?_)) | (go_at_call 12; with_reducible refine (HEV.out _ M.new).mono ?_; rintro e w5 ⟨rfl, hb5⟩; replace M := M.below hb5; clear hb5))
        go_ret2
        rw [HV.out]
        exact ⟨rfl, HL.out _ M.new⟩
    · have HZF : Hid (AllZ (evE b.types (x :: known)) (known.length + 1)) := by have e : j = known.length + 1 := (by have := N4.out; simp only [List.length_cons] at this; omega); show AllZ _ _; rw [← e]; exact HZ.out
      obtain ⟨want, hwant⟩ : ∃ want : Int, want = if part = 0 then k else (R.whens.length : Int) := ⟨_, rfl⟩
      have HWT := Lib.hid hwant
      have HNW := Lib.hid HY1.out.len
      clear HZ hwant HVE HS6 N4 hle4
      go_upto_if 71 with (first | (with_reducible (first | refine wl M ?_ | refine wlg M ?_ | (refine ws M ?_; clear M; intro w M) | (refine wsc M ?_; clear M; intro w M) | (refine wV M ?_; clear M; intro z w M) | (refine wR M ?_; clear M; intro q w M) | refine o_skipT ?_ | refine o_skipF ?_)))
      go_cut [20] (fun vv wx => vv = .int .i64 want ∧ Mem (StaysB g w6) g w6 wx ⟨0, 0⟩ [])
      case first =>
        by_cases p0 : part = 0
        · have pb : (part != 0) = false := by simpa using p0
          have HWV : Hid (k = want) := by show _ = _; rw [HWT.out, if_pos p0]
          clear p0
          go_wp2_with (first | (with_reducible (first | refine wl M ?_ | refine wlg M ?_ | (refine ws M ?_; clear M; intro w M) | (refine wsc M ?_; clear M; intro w M) | (refine wV M ?_; clear M; intro z w M) | (refine wR M ?_; clear M; intro q w M) | refine o_skipT ?_ | refine o_skipF ?_)))
          go_meet
          case rel => exact ⟨by rw [HWV.out], M⟩
        · have pb : (part != 0) = true := by simpa using p0
          have HWV : Hid ((m1 : Int) = want) := by show _ = _; rw [HWT.out, if_neg p0, HNW.out]
          clear p0
          go_wp2_with (first | (with_reducible (first | refine wl M ?_ | refine wlg M ?_ | (refine ws M ?_; clear M; intro w M) | (refine wsc M ?_; clear M; intro w M) | (refine wV M ?_; clear M; intro z w M) | (refine wR M ?_; clear M; intro q w M) | refine o_skipT ?_ | refine o_skipF ?_ | refine wC (HA1.out _ M.new) ?_ | refine wC (HW6.out _ M.new) ?_)))
          go_meet
          case rel => exact ⟨by rw [HWV.out], M⟩
      case rest =>
      clear M
      obtain ⟨rfl, M⟩ := hcut
      by_cases hf : (n3 : Int) = want
      rotate_left
      · have HV := Lib.hid (HVF.out HZF.out (by rw [← HWT.out, ← HNK.out]; exact hf))
        have hfb : ((n3 : Int) != want) = true := by simpa using hf
        clear HZF HVF HVM HVN hf
        go_wp2_with (first | (with_reducible (first | refine wl M ?_ | refine wlg M ?_ | (refine ws M ?_; clear M; intro w M) | (refine wsc M ?_; clear M; intro w M) | (refine wV M ?_; clear M; intro z w M) | (refine wR M ?_; clear M; intro q w M) | refine o_skipT ?_ | refine o_skipF ?_)))
        go_ret2
        rw [HV.out]
        exact ⟨rfl, HL.out _ M.new⟩
      have hfe : (known.length : Int) = (if part = 0 then k else (R.whens.length : Int)) := by rw [← HWT.out, ← HNK.out]; exact hf
      have HFE := Lib.hid hfe
      have HLW := Lib.hid (HLE.out hfe)
      have HMI : Hid (∀ {j : Nat}, AllZ (misE b.types R.whens known) j → j < known.length → misE b.types R.whens known j = 13 → T = (false, 13)) := fun hm hj he => HVM.out HZF.out hfe hm hj he
      have HME := Lib.hid (HVN.out HZF.out hfe)
      have HGX : Hid (EvGood b.types x) := evGood_of (HZF.out 0 (by omega))
      have HGK : Hid (∀ i (hi : i < known.length), EvGood b.types known[i]) := fun i hi => evGood_of (by have h := HZF.out (i + 1) (by omega); rw [evE_at (by simp only [List.length_cons]; omega)] at h; simpa using h)
      have hfb : ((n3 : Int) != want) = false := by simpa using hf
      clear HVF HVM HVN hf hfe HZF HLE
      go_wp2_with (first | (with_reducible (first | (refine wB M ?_; clear M; intro zv w1 M) | refine wl M ?_ | refine wlg M ?_ | (refine ws M ?_; clear M; intro w M) | (refine wsc M ?_; clear M; intro w M) | (refine wV M ?_; clear M; intro z w M) | (refine wR M ?_; clear M; intro q w M) | refine o_skipT ?_ | refine o_skipF ?_ | refine wC (HA0.out _ M.new) ?_ | refine wA (HX5.out _ M.new) ?_)))
      replace M := M.none_ (R := wordF) wordF_firm 9 1
      go_loopg [91] n3 (fun f i wr => ∃ (j : Nat) (sa : Option Addr) (sc : Nat) (names : List ByteArray), j + f = n3 ∧ names = vars (R.whens.take j) ∧ names.length = j ∧ i = .int .i64 j ∧ Mem (StaysB g w6) g w6 wr ⟨0, 0⟩ (slc w6.heap.size 9 1 wordF (.slice sa names.length sc) names :: own zv [.slice a1 n1 c1, .int .i64 x.e.number, .int .i64 x.e.type, .int .i64 x.e.start, .int .i64 x.e.stop, .slice px qx rx, .slice sa names.length sc, .slice a3 n3 c3] 65 :: []) ∧ Hid (AllZ (misE b.types R.whens known) j))
      case atStart => exact ⟨0, none, 0, [], by omega, by simp [vars], rfl, rfl, M, allZ_zero _⟩
      case round =>
        clear M
        obtain ⟨j, sa, sc, names, hj, hnm, hnl, rfl, M, HM⟩ := hrel
        have HNM := Lib.hid hnm
        have HNL := Lib.hid hnl
        clear hnm hnl
        by_cases hlt : j < n3
        · have hkl : j < known.length := by have := HNK.out; omega
          have hwl : j < R.whens.length := by have := HLW.out; omega
          obtain ⟨ck, ok, rowk, hixk, -, hrrk, hwk⟩ := SlF.rowAt (P := Tryd.prog) HX3.out eveF_firm Tryd.underlying31 size_eve (i := j) hkl
          obtain ⟨p2, q2, s2, et, -⟩ := hrrk
          subst et
          have HRK : Hid (∀ wx, Below w6.heap.size w6 wx → wx.rangeAt ck ok [.int .i64 known[j].e.number, .int .i64 known[j].e.type, .int .i64 known[j].e.start, .int .i64 known[j].e.stop, .slice p2 q2 s2]) := fun wx hb => (hwk wx (HL.out _ hb)).1
          obtain ⟨cw, ow, roww, hixw, -, hrrw, hww⟩ := SlF.rowAt (P := Tryd.prog) HY1.out patF_firm Tryd.underlying53 size_pat (i := j) hwl
          obtain ⟨p3, q3, s3, ew, -⟩ := hrrw
          subst ew
          have HRW : Hid (∀ wx, Below w6.heap.size w6 wx → wx.rangeAt cw ow (patC R.whens[j] p3 q3 s3)) := fun wx hb => (hww wx (HL.out _ hb)).1
          have hgy := HGK.out j hkl
          have htl : known[j].e.type.toNat < b.types.length := by have := hgy.lo; have := hgy.hi; omega
          obtain ⟨ct, ot, rowt, hixt, -, hrrt, hwt⟩ := SlF.rowAt (P := Tryd.prog) HX1.out typF_firm Tryd.underlying22 size_typ (i := known[j].e.type.toNat) htl
          rw [show ((known[j].e.type.toNat : Nat) : Int) = known[j].e.type from Int.toNat_of_nonneg hgy.lo] at hixt
          obtain ⟨p4, q4, s4, e4t, -⟩ := hrrt
          subst e4t
          have hte : b.types[known[j].e.type.toNat] = evT b.types known[j] := by unfold evT; simp [List.getD, List.getElem?_eq_getElem htl]
          have HTN : Hid (∀ wx, Below w6.heap.size w6 wx → wx.cell? ⟨ct, ot, none⟩ = some (.string (evT b.types known[j]).name)) := fun wx hb => by have h := (hwt wx (HL.out _ hb)).1 0 _ rfl; rw [hte] at h; exact h
          have HNN : Hid (names ++ [R.whens[j].var] = vars (R.whens.take (j + 1))) := by show _ = _; rw [HNM.out]; exact vars_snoc hwl
          have HMS := Lib.hid (misE_at (ts := b.types) hkl hwl)
          have HM2 : Hid (misE b.types R.whens known j = 0 → AllZ (misE b.types R.whens known) (j + 1)) := fun h => allZ_succ HM.out h
          have HM3 : Hid (misE b.types R.whens known j = 13 → T = (false, 13)) := fun h => HMI.out HM.out hkl h
          have hlen : Hid (names.length ≤ 100000) := by have := HNL.out; have := HFEW.out; have := HLW.out; have := HNK.out; show _ ≤ _; omega
          clear hwk hww hwt hte htl hgy HM
          generalize (evT b.types known[j]).name = nm at HTN HMS
          generalize known[j] = y at HRK hixt
          generalize R.whens[j] = W at HRW HNN HMS
          clear hkl hwl
          unfold patC cndC opdC at HRW
          simp only [List.cons_append, List.nil_append] at HRW
          go_wp2_with (first | (with_reducible (first | refine wl M ?_ | refine wlg M ?_ | (refine ws M ?_; clear M; intro w M) | (refine wsc M ?_; clear M; intro w M) | (refine wV M ?_; clear M; intro z w M) | (refine wR M ?_; clear M; intro q w M) | refine o_skipT ?_ | refine o_skipF ?_ | refine wA (HRK.out _ M.new) ?_ | refine wA (HRW.out _ M.new) ?_ | refine wC (HA1.out _ M.new) ?_ | refine wC (HW6.out _ M.new) ?_)))
          cases hsm : sameS nm W.type with
          | true =>
            have hsb : (nm.toList == W.type.toList) = true := hsm
            have hsn : (nm.toList != W.type.toList) = false := by simp only [bne, hsb]; rfl
            have HM4 := Lib.hid (HM2.out (by rw [HMS.out, if_pos hsm]))
            clear HMS HM2 HM3 hsm
            ((refine wp_region_calm M (by kernel_rfl) (by kernel_rfl) ?_); (repeat (first | ((with_reducible refine c_list rfl fun K hK => ?_); (first | (refine c_load (l' := ?_) ⟨_, M⟩ (fun w M => ?_) ?_; rotate_left; focus ((first | (refine q_cellat (HA0.out _ M.new) ?_) | (refine q_cellat (HTN.out _ M.new) ?_) | refine q_get M (by exact rfl) ?_ | refine q_all M (by rfl) ?_ | refine q_prt M (by rfl) ?_); refine ⟨rfl, ?_⟩; with_reducible rfl)) | (refine c_pure (v := ?_) (fun w => ?_) ?_; rotate_left; focus (go_simp; try with_reducible rfl))); (try go_simp); with_reducible refine hK _ ?_; clear hK K) | ((with_reducible refine c_listg fun K hK => ?_); (first | (refine c_load (l' := ?_) ⟨_, M⟩ (fun w M => ?_) ?_; rotate_left; focus ((first | (refine q_cellat (HA0.out _ M.new) ?_) | (refine q_cellat (HTN.out _ M.new) ?_) | refine q_get M (by exact rfl) ?_ | refine q_all M (by rfl) ?_ | refine q_prt M (by rfl) ?_); refine ⟨rfl, ?_⟩; with_reducible rfl)) | (refine c_pure (v := ?_) (fun w => ?_) ?_; rotate_left; focus (go_simp; try with_reducible rfl))); (try go_simp); with_reducible refine hK _ ?_; clear hK K) | (with_reducible refine c_skipT ?_) | (with_reducible refine c_skipF ?_))); (refine wpQuiet_nil ?_); clear M; intro w M)
            go_wp2_with (first | (with_reducible (first | refine wl M ?_ | refine wlg M ?_ | (refine ws M ?_; clear M; intro w M) | (refine wsc M ?_; clear M; intro w M) | (refine wV M ?_; clear M; intro z w M) | (refine wR M ?_; clear M; intro q w M) | refine o_skipT ?_ | refine o_skipF ?_)))
            (refine wp_region_any (by kernel_rfl) ?_; (try (change wpAny _ _ _ _ _ _ _ (World.drew _))); replace M := M.drew; generalize World.drew _ = w at M ⊢; have S := St.o; ((refine tk 0 (v := ?_) rfl (by kernel_rfl) rfl ?_ ?_; rotate_left; focus (intro w; go_simp; try with_reducible rfl)); (try go_simp); (refine tk 1 (v := ?_) rfl (by kernel_rfl) rfl ?_ ?_; rotate_left; focus (intro w; go_simp; try with_reducible rfl)); (try go_simp); (refine tk 2 (v := ?_) rfl (by kernel_rfl) rfl ?_ ?_; rotate_left; focus (intro w; go_simp; try with_reducible rfl)); (try go_simp); (refine tk 3 (v := ?_) rfl (by kernel_rfl) rfl ?_ ?_; rotate_left; focus (intro w; go_simp; try with_reducible rfl)); (try go_simp); (refine tk 5 (v := ?_) rfl (by kernel_rfl) rfl ?_ ?_; rotate_left; focus (intro w; go_simp; try with_reducible rfl)); (try go_simp); replace S := S.add 47; refine rd2 4 6 (by kernel_rfl) rfl rfl ?_ rfl rfl ?_ <;> intro K hK); all_goals (first | (refine o_dst (some 119) ?_; (first | (refine q_row1 M ?_; clear M; intro q w M) | (refine q_app (R := wordF) wordF_firm M 3 rfl W.var rfl (by rfl) (by rfl) hlen.out ?_; clear M; intro ra2 rc2 w M; (try simp only [List.set_cons_zero, List.set_cons_succ] at M)) | (first | refine q_all M (by rfl) ?_ | refine q_get M (by exact rfl) ?_ | refine q_prt M (by rfl) ?_)); (all_goals (refine hK _ _ ?_; clear hK K; replace S := S.add 16))) | (refine o_dst (some 121) ?_; (first | (refine q_row1 M ?_; clear M; intro q w M) | (refine q_app (R := wordF) wordF_firm M 3 rfl W.var rfl (by rfl) (by rfl) hlen.out ?_; clear M; intro ra2 rc2 w M; (try simp only [List.set_cons_zero, List.set_cons_succ] at M)) | (first | refine q_all M (by rfl) ?_ | refine q_get M (by exact rfl) ?_ | refine q_prt M (by rfl) ?_)); (all_goals (refine hK _ _ ?_; clear hK K; replace S := S.add 64)))); all_goals (first | (replace S : St 63 := S; refine rd1 6 (by kernel_rfl) rfl rfl ?_ <;> intro K hK) | (replace S : St 111 := S; refine rd2 4 7 (by kernel_rfl) rfl rfl ?_ rfl rfl ?_ <;> intro K hK)); all_goals (first | (refine o_dst (some 121) ?_; (first | (refine q_row1 M ?_; clear M; intro q w M) | (refine q_app (R := wordF) wordF_firm M 3 rfl W.var rfl (by rfl) (by rfl) hlen.out ?_; clear M; intro ra2 rc2 w M; (try simp only [List.set_cons_zero, List.set_cons_succ] at M)) | (first | refine q_all M (by rfl) ?_ | refine q_get M (by exact rfl) ?_ | refine q_prt M (by rfl) ?_)); (all_goals (refine hK _ _ ?_; clear hK K; replace S := S.add 64))) | (refine o_dst (some 119) ?_; (first | (refine q_row1 M ?_; clear M; intro q w M) | (refine q_app (R := wordF) wordF_firm M 3 rfl W.var rfl (by rfl) (by rfl) hlen.out ?_; clear M; intro ra2 rc2 w M; (try simp only [List.set_cons_zero, List.set_cons_succ] at M)) | (first | refine q_all M (by rfl) ?_ | refine q_get M (by exact rfl) ?_ | refine q_prt M (by rfl) ?_)); (all_goals (refine hK _ _ ?_; clear hK K; replace S := S.add 16))) | (refine o_dst (some 122) ?_; (first | (refine q_row1 M ?_; clear M; intro q w M) | (refine q_app (R := wordF) wordF_firm M 3 rfl W.var rfl (by rfl) (by rfl) hlen.out ?_; clear M; intro ra2 rc2 w M; (try simp only [List.set_cons_zero, List.set_cons_succ] at M)) | (refine q_row M (by rfl) ?_; clear M; intro q w M)); (all_goals (refine hK _ _ ?_; clear hK K; replace S := S.add 128)))); all_goals (first | (replace S : St 127 := S; refine rd1 7 (by kernel_rfl) rfl rfl ?_ <;> intro K hK) | (replace S : St 239 := S; refine rd1 4 (by kernel_rfl) rfl rfl ?_ <;> intro K hK)); all_goals (first | (refine o_dst (some 122) ?_; (first | (refine q_row1 M ?_; clear M; intro q w M) | (refine q_app (R := wordF) wordF_firm M 3 rfl W.var rfl (by rfl) (by rfl) hlen.out ?_; clear M; intro ra2 rc2 w M; (try simp only [List.set_cons_zero, List.set_cons_succ] at M)) | (refine q_row M (by rfl) ?_; clear M; intro q w M)); (all_goals (refine hK _ _ ?_; clear hK K; replace S := S.add 128))) | (refine o_dst (some 119) ?_; (first | (refine q_row1 M ?_; clear M; intro q w M) | (refine q_app (R := wordF) wordF_firm M 3 rfl W.var rfl (by rfl) (by rfl) hlen.out ?_; clear M; intro ra2 rc2 w M; (try simp only [List.set_cons_zero, List.set_cons_succ] at M)) | (first | refine q_all M (by rfl) ?_ | refine q_get M (by exact rfl) ?_ | refine q_prt M (by rfl) ?_)); (all_goals (refine hK _ _ ?_; clear hK K; replace S := S.add 16)))); all_goals (refine rd1 8 (by kernel_rfl) rfl rfl ?_ <;> intro K hK); all_goals (refine o_dst (some 123) ?_; (first | (refine q_row1 M ?_; clear M; intro q w M) | (refine q_app (R := wordF) wordF_firm M 3 rfl W.var rfl (by rfl) (by rfl) hlen.out ?_; clear M; intro ra2 rc2 w M; (try simp only [List.set_cons_zero, List.set_cons_succ] at M)) | (refine owp_of ?_; go_simp)); (all_goals (refine hK _ _ ?_; clear hK K; replace S := S.add 256))); all_goals ((refine tk 9 (v := ?_) rfl (by kernel_rfl) rfl ?_ ?_; rotate_left; focus (intro w; go_simp; try with_reducible rfl)); (try go_simp); (refine tk 10 (v := ?_) rfl (by kernel_rfl) rfl ?_ ?_; rotate_left; focus (intro w; go_simp; try with_reducible rfl)); (try go_simp); replace S := S.add 1536; refine rd1 11 (by kernel_rfl) rfl rfl ?_ <;> intro K hK); all_goals (refine o_dst none ?_; (first | (refine q_row1 M ?_; clear M; intro q w M) | (refine q_app (R := wordF) wordF_firm M 3 rfl W.var rfl (by rfl) (by rfl) hlen.out ?_; clear M; intro ra2 rc2 w M; (try simp only [List.set_cons_zero, List.set_cons_succ] at M)) | ((first | refine q_setc M (by rfl) (by rfl) ?_ | refine q_set M (by rfl) (by rfl) ?_ | refine q_put M (by rfl) (by rfl) (by rfl) ?_); clear M; intro w M; simp only [List.set_cons_zero, List.set_cons_succ] at M)); (all_goals (refine hK _ _ ?_; clear hK K; replace S := S.add 2048))); all_goals (clear S; (refine wpAny_done (by kernel_rfl) ?_ _)))
            all_goals
              go_wp2_with (first | (with_reducible (first | refine wl M ?_ | refine wlg M ?_ | (refine ws M ?_; clear M; intro w M) | (refine wsc M ?_; clear M; intro w M) | (refine wV M ?_; clear M; intro z w M) | (refine wR M ?_; clear M; intro q w M) | refine o_skipT ?_ | refine o_skipF ?_)))
              go_roundg (n3 - (j + 1))
              case measure => omega
              case rel => exact ⟨j + 1, _, _, _, by omega, HNN.out, by rw [List.length_append, HNL.out]; rfl, by go_num, by (have M2 := M.drop.drop.drop); (rw [List.length_append]; exact M2), HM4⟩
          | false =>
            have hsb : (nm.toList == W.type.toList) = false := hsm
            have hsn : (nm.toList != W.type.toList) = true := by simp only [bne, hsb]; rfl
            have HV := Lib.hid (HM3.out (by rw [HMS.out, if_neg (by rw [hsm]; simp)]))
            clear HMS HM2 HM3 hsm
            ((refine wp_region_calm M (by kernel_rfl) (by kernel_rfl) ?_); (repeat (first | ((with_reducible refine c_list rfl fun K hK => ?_); (first | (refine c_load (l' := ?_) ⟨_, M⟩ (fun w M => ?_) ?_; rotate_left; focus ((first | (refine q_cellat (HA0.out _ M.new) ?_) | (refine q_cellat (HTN.out _ M.new) ?_) | refine q_get M (by exact rfl) ?_ | refine q_all M (by rfl) ?_ | refine q_prt M (by rfl) ?_); refine ⟨rfl, ?_⟩; with_reducible rfl)) | (refine c_pure (v := ?_) (fun w => ?_) ?_; rotate_left; focus (go_simp; try with_reducible rfl))); (try go_simp); with_reducible refine hK _ ?_; clear hK K) | ((with_reducible refine c_listg fun K hK => ?_); (first | (refine c_load (l' := ?_) ⟨_, M⟩ (fun w M => ?_) ?_; rotate_left; focus ((first | (refine q_cellat (HA0.out _ M.new) ?_) | (refine q_cellat (HTN.out _ M.new) ?_) | refine q_get M (by exact rfl) ?_ | refine q_all M (by rfl) ?_ | refine q_prt M (by rfl) ?_); refine ⟨rfl, ?_⟩; with_reducible rfl)) | (refine c_pure (v := ?_) (fun w => ?_) ?_; rotate_left; focus (go_simp; try with_reducible rfl))); (try go_simp); with_reducible refine hK _ ?_; clear hK K) | (with_reducible refine c_skipT ?_) | (with_reducible refine c_skipF ?_))); (refine wpQuiet_nil ?_); clear M; intro w M)
            go_wp2_with (first | (with_reducible (first | refine wl M ?_ | refine wlg M ?_ | (refine ws M ?_; clear M; intro w M) | (refine wsc M ?_; clear M; intro w M) | (refine wV M ?_; clear M; intro z w M) | (refine wR M ?_; clear M; intro q w M) | refine o_skipT ?_ | refine o_skipF ?_)))
            go_ret2
            rw [HV.out]
            exact ⟨rfl, HL.out _ M.new⟩
        · have hjn : j = known.length := by have := HNK.out; omega
          have hmz : AllZ (misE b.types R.whens known) known.length := by rw [← hjn]; exact HM.out
          have HV := Lib.hid (HME.out hmz)
          have htl : x.e.type.toNat < b.types.length := by have := HGX.out.lo; have := HGX.out.hi; omega
          obtain ⟨ct, ot, rowt, hixt, -, hrrt, hwt⟩ := SlF.rowAt (P := Tryd.prog) HX1.out typF_firm Tryd.underlying22 size_typ (i := x.e.type.toNat) htl
          rw [show ((x.e.type.toNat : Nat) : Int) = x.e.type from Int.toNat_of_nonneg HGX.out.lo] at hixt
          obtain ⟨p4, q4, s4, e4t, -⟩ := hrrt
          subst e4t
          have hte : b.types[x.e.type.toNat] = evT b.types x := by unfold evT; simp [List.getD, List.getElem?_eq_getElem htl]
          have HTN : Hid (∀ wx, Below w6.heap.size w6 wx → wx.cell? ⟨ct, ot, none⟩ = some (.string (evT b.types x).name)) := fun wx hb => by have h := (hwt wx (HL.out _ hb)).1 0 _ rfl; rw [hte] at h; exact h
          have hhg := HG.out known rfl HGX.out HGK.out HFE.out hmz
          have hnv : names = vars (R.whens.take known.length) := by rw [← hjn]; exact HNM.out
          clear hwt hte htl
          cases hsm : sameS (evT b.types x).name P.type with
          | false =>
            have hsb : ((evT b.types x).name.toList == P.type.toList) = false := hsm
            rw [hsm] at HV
            generalize (evT b.types x).name = nm at HTN hsb
            clear hhg hmz hnv hsm HM HGX HGK
            go_wp2_with (first | (with_reducible (first | refine wl M ?_ | refine wlg M ?_ | (refine ws M ?_; clear M; intro w M) | (refine wsc M ?_; clear M; intro w M) | (refine wV M ?_; clear M; intro z w M) | (refine wR M ?_; clear M; intro q w M) | refine o_skipT ?_ | refine o_skipF ?_)))
            ((refine wp_region_calm M (by kernel_rfl) (by kernel_rfl) ?_); (repeat (first | ((with_reducible refine c_list rfl fun K hK => ?_); (first | (refine c_load (l' := ?_) ⟨_, M⟩ (fun w M => ?_) ?_; rotate_left; focus ((first | (refine q_cellat (HA0.out _ M.new) ?_) | (refine q_cellat (HXT.out _ M.new) ?_) | (refine q_cellat (HTN.out _ M.new) ?_) | (refine q_cellat (HPT.out _ M.new) ?_) | refine q_get M (by exact rfl) ?_ | refine q_all M (by rfl) ?_ | refine q_prt M (by rfl) ?_); refine ⟨rfl, ?_⟩; with_reducible rfl)) | (refine c_pure (v := ?_) (fun w => ?_) ?_; rotate_left; focus (go_simp; try with_reducible rfl))); (try go_simp); with_reducible refine hK _ ?_; clear hK K) | ((with_reducible refine c_listg fun K hK => ?_); (first | (refine c_load (l' := ?_) ⟨_, M⟩ (fun w M => ?_) ?_; rotate_left; focus ((first | (refine q_cellat (HA0.out _ M.new) ?_) | (refine q_cellat (HXT.out _ M.new) ?_) | (refine q_cellat (HTN.out _ M.new) ?_) | (refine q_cellat (HPT.out _ M.new) ?_) | refine q_get M (by exact rfl) ?_ | refine q_all M (by rfl) ?_ | refine q_prt M (by rfl) ?_); refine ⟨rfl, ?_⟩; with_reducible rfl)) | (refine c_pure (v := ?_) (fun w => ?_) ?_; rotate_left; focus (go_simp; try with_reducible rfl))); (try go_simp); with_reducible refine hK _ ?_; clear hK K) | (with_reducible refine c_skipT ?_) | (with_reducible refine c_skipF ?_))); (refine wpQuiet_nil ?_); clear M; intro w M)
            go_wp2_with (first | (with_reducible (first | refine wl M ?_ | refine wlg M ?_ | (refine ws M ?_; clear M; intro w M) | (refine wsc M ?_; clear M; intro w M) | (refine wV M ?_; clear M; intro z w M) | (refine wR M ?_; clear M; intro q w M) | refine o_skipT ?_ | refine o_skipF ?_)))
            go_ret2
            rw [HV.out]
            exact ⟨rfl, HL.out _ M.new⟩
          | true =>
            have hsb : ((evT b.types x).name.toList == P.type.toList) = true := hsm
            have hgood := hhg hsm
            rw [hsm, Bool.true_and] at HV
            have hzv : Own zv [.slice a1 n1 c1, .int .i64 x.e.number, .int .i64 x.e.type, .int .i64 x.e.start, .int .i64 x.e.stop, .slice px qx rx, .slice sa names.length sc, .slice a3 n3 c3] 65 wr := M.own_ (by simp)
            obtain ⟨sa2, sc2, e2x, M⟩ := M.done wordF_firm (by omega)
            injection e2x with e5 e6 e7
            subst e5 e7
            have hns := M.dat_ (i := 0) rfl
            have hb0r := HL.out _ M.new
            have hb6r := Lib.hid M.new
            have V : View (fun _ => True) wr zv ⟨a1, n1, c1, px, qx, rx, sa, names.length, sc, a3, n3, c3⟩ b.types names known x :=
              ⟨hzv.lt, hzv.range, (HX1.out.below typF_firm hb0r).wide typF_firm (fun _ _ _ => trivial), (HXV.out.below (plainF_firm _) hb0r).wide (plainF_firm _) (fun _ _ _ => trivial), hns.wide wordF_firm (fun _ _ _ => trivial), (HX3.out.below eveF_firm hb0r).wide eveF_firm (fun _ _ _ => trivial), HTS.out, HXO.out, HKO.out⟩
            have HH : Hid (∀ wx, Below wr.heap.size wr wx → Calls Tryd.prog 13 #[.pointer (some ⟨zv, 0, none⟩), .agg (cnd14 P.wher.kind p1 q1 s1 P.wher.left P.wher.right).toArray] wx fun e w' => e = .returned (.bool (holdR b.types R.whens known x 8 P.wher)) ∧ Below wx.heap.size wx w') := fun wx hb =>
              holds_any V hnv HLW.out 8 P.wher p1 q1 s1 wx hb (HSP.out.below condF_firm (hb0r.trans (hb.mono hb0r.size))) HPF.out.con hgood
            have hgr : g < wr.heap.size := Nat.lt_of_lt_of_le (HGG.out) hb6r.out.size
            have HA0r : Hid (∀ wx, Below wr.heap.size wr wx → wx.cell? ⟨za, 0, none⟩ = some (.slice a1 n1 c1)) := fun wx hb => HA0.out wx (hb6r.out.trans (hb.mono hb6r.out.size))
            have HXTr : Hid (∀ wx, Below wr.heap.size wr wx → wx.cell? ⟨zx, 1, none⟩ = some (.int .i64 x.e.type)) := fun wx hb => HXT.out wx (hb6r.out.trans (hb.mono hb6r.out.size))
            have HPTr : Hid (∀ wx, Below wr.heap.size wr wx → wx.cell? ⟨zp, 1, none⟩ = some (.string P.type)) := fun wx hb => HPT.out wx (hb6r.out.trans (hb.mono hb6r.out.size))
            have HPCr : Hid (∀ wx, Below wr.heap.size wr wx → wx.rangeAt zp 2 [.int .i64 P.wher.kind, .slice p1 q1 s1, .int .i64 P.wher.left.kind, .int .i64 P.wher.left.vkind, .int .i64 P.wher.left.vint, .string P.wher.left.vtext, .string P.wher.left.var, .string P.wher.left.field, .int .i64 P.wher.right.kind, .int .i64 P.wher.right.vkind, .int .i64 P.wher.right.vint, .string P.wher.right.vtext, .string P.wher.right.var, .string P.wher.right.field]) := fun wx hb => HPC.out wx (hb6r.out.trans (hb.mono hb6r.out.size))
            have HTNr : Hid (∀ wx, Below wr.heap.size wr wx → wx.cell? ⟨ct, ot, none⟩ = some (.string (evT b.types x).name)) := fun wx hb => HTN.out wx (hb6r.out.trans (hb.mono hb6r.out.size))
            have HB0R := Lib.hid hb0r
            unfold cnd14 at HH
            generalize holdR b.types R.whens known x 8 P.wher = hh at HH HV
            generalize (evT b.types x).name = nm at HTNr hsb
            clear M hzv hns V hgood hhg hmz hnv hsm HM HGX HGK HTN HA0 HXT HPT HPC hb0r
            have M := Mem.begin hgr ⟨0, 0⟩
            go_wp2_with (first | (with_reducible (first | refine wl M ?_ | refine wlg M ?_ | (refine ws M ?_; clear M; intro w M) | (refine wsc M ?_; clear M; intro w M) | (refine wV M ?_; clear M; intro z w M) | (refine wR M ?_; clear M; intro q w M) | refine o_skipT ?_ | refine o_skipF ?_)))
            ((refine wp_region_calm M (by kernel_rfl) (by kernel_rfl) ?_); (repeat (first | ((with_reducible refine c_list rfl fun K hK => ?_); (first | (refine c_load (l' := ?_) ⟨_, M⟩ (fun w M => ?_) ?_; rotate_left; focus ((first | (refine q_cellat (HA0r.out _ M.new) ?_) | (refine q_cellat (HXTr.out _ M.new) ?_) | (refine q_cellat (HTNr.out _ M.new) ?_) | (refine q_cellat (HPTr.out _ M.new) ?_) | (refine q_at (HPCr.out _ M.new) (by rfl) ?_) | refine q_get M (by exact rfl) ?_ | refine q_all M (by rfl) ?_ | refine q_prt M (by rfl) ?_); refine ⟨rfl, ?_⟩; with_reducible rfl)) | (refine c_call (n := 13) (args := ?_) (v := ?_) (fun w => ?_) (fun w M => ?_) ?_; rotate_left 2; (focus (go_simp; try with_reducible rfl)); (focus (with_reducible refine (HH.out _ M.new).mono ?_; rintro e w5 ⟨rfl, hb5⟩; refine ⟨?_, M.below hb5⟩; with_reducible rfl))) | (refine c_pure (v := ?_) (fun w => ?_) ?_; rotate_left; focus (go_simp; try with_reducible rfl))); (try go_simp); with_reducible refine hK _ ?_; clear hK K) | ((with_reducible refine c_listg fun K hK => ?_); (first | (refine c_load (l' := ?_) ⟨_, M⟩ (fun w M => ?_) ?_; rotate_left; focus ((first | (refine q_cellat (HA0r.out _ M.new) ?_) | (refine q_cellat (HXTr.out _ M.new) ?_) | (refine q_cellat (HTNr.out _ M.new) ?_) | (refine q_cellat (HPTr.out _ M.new) ?_) | (refine q_at (HPCr.out _ M.new) (by rfl) ?_) | refine q_get M (by exact rfl) ?_ | refine q_all M (by rfl) ?_ | refine q_prt M (by rfl) ?_); refine ⟨rfl, ?_⟩; with_reducible rfl)) | (refine c_call (n := 13) (args := ?_) (v := ?_) (fun w => ?_) (fun w M => ?_) ?_; rotate_left 2; (focus (go_simp; try with_reducible rfl)); (focus (with_reducible refine (HH.out _ M.new).mono ?_; rintro e w5 ⟨rfl, hb5⟩; refine ⟨?_, M.below hb5⟩; with_reducible rfl))) | (refine c_pure (v := ?_) (fun w => ?_) ?_; rotate_left; focus (go_simp; try with_reducible rfl))); (try go_simp); with_reducible refine hK _ ?_; clear hK K) | (with_reducible refine c_skipT ?_) | (with_reducible refine c_skipF ?_))); (refine wpQuiet_nil ?_); clear M; intro w M)
            all_goals
              go_wp2_with (first | (with_reducible (first | refine wl M ?_ | refine wlg M ?_ | (refine ws M ?_; clear M; intro w M) | (refine wsc M ?_; clear M; intro w M) | (refine wV M ?_; clear M; intro z w M) | (refine wR M ?_; clear M; intro q w M) | refine o_skipT ?_ | refine o_skipF ?_)))
              go_ret2
              rw [HV.out]
              exact ⟨rfl, HB0R.out.trans (M.new.mono HB0R.out.size)⟩
theorem takes_any (hg : g < w0.heap.size) (E : Env F w0) (hF : ∀ b, F b → b < w0.heap.size) (b : Bok) (a1 : Option Addr) (n1 c1 : Nat) (a2 : Option Addr) (n2 c2 : Nat) (X1 : SlF F w0 2 typF a1 n1 c1 b.types) (X2 : SlF F w0 7 rulF a2 n2 c2 b.rules) (hts : ∀ t ∈ b.types, typOk t) (hrs : ∀ x ∈ b.rules, RulFit x) (hes : ∀ x ∈ b.rules, x.etype.size ≤ maxLen) (x : Eve) (px : Option Addr) (qx rx : Nat) (hxv : SlF F3 w0 3 (plainF valC) px qx rx x.vals) (hxo : eveOk x) (a3 : Option Addr) (n3 c3 : Nat) (known : List Eve) (X3 : SlF F3 w0 5 eveF a3 n3 c3 known) (hko : ∀ y ∈ known, eveOk y) (hn3 : n3 * 56 ≤ 140737488351232) (rule part k : Int) : Calls Tryd.prog 5 #[.agg #[.slice a1 n1 c1, .slice a2 n2 c2], .int .i64 rule, .int .i64 part, .int .i64 k, .agg #[.int .i64 x.e.number, .int .i64 x.e.type, .int .i64 x.e.start, .int .i64 x.e.stop, .slice px qx rx], .slice a3 n3 c3] w0 fun e w' => e = .returned (.tuple #[.bool (takesE b rule part k x known).1, .int .i64 (takesE b rule part k x known).2]) ∧ Below w0.heap.size w0 w' := by
  by_cases h0 : bookE b = 0
  · by_cases hr : 0 ≤ rule ∧ rule < b.rules.length
    · have hrl : rule.toNat < b.rules.length := by omega
      by_cases hk : 0 ≤ k ∧ k < (partL b.rules[rule.toNat] part).length
      · exact takes_main hg E hF b a1 n1 c1 a2 n2 c2 X1 X2 hts hrs hes x px qx rx hxv hxo a3 n3 c3 known X3 hko hn3 rule part k h0 hr (fun _ => hk)
      · exact takes_nopat hg E hF b a1 n1 c1 a2 n2 c2 X1 X2 hts hrs hes x px qx rx hxv hxo a3 n3 c3 known X3 hko hn3 rule part k h0 hr (fun _ => hk)
    · exact takes_norule hg E hF b a1 n1 c1 a2 n2 c2 X1 X2 hts hrs hes x px qx rx hxv hxo a3 n3 c3 known X3 hko hn3 rule part k h0 hr
  · exact takes_book hg E hF b a1 n1 c1 a2 n2 c2 X1 X2 hts hrs hes x px qx rx hxv hxo a3 n3 c3 known X3 hko hn3 rule part k h0
end
end Go.Proofs.YthlnheckaoeooaaDoor
/-
  The walks of the reference's sift: a side of a comparison. Printed by sfk.py.
-/
namespace Go.Proofs.YthlnheckaoeooaaDoor
open Go.RowKit
set_option linter.unusedVariables false
set_option linter.unusedSimpArgs false

/-- Where what the reference looks at lies. -/
structure RA where
  a1 : Option Addr
  n1 : Nat
  c1 : Nat
  b1 : Option Addr
  m1 : Nat
  e1 : Nat
  p : Option Addr
  q : Nat
  r : Nat
  a3 : Option Addr
  n3 : Nat
  c3 : Nat
structure Rv (w : World) (v : RA) (ts : List Typ) (wh : List Pat) (known : List Eve) (me : Eve) : Prop where
  pos : ∃ g, g < w.heap.size
  types : SlF (fun _ => True) w 2 typF v.a1 v.n1 v.c1 ts
  whens : SlF (fun _ => True) w 18 patF v.b1 v.m1 v.e1 wh
  vals : SlF (fun _ => True) w 3 (plainF valC) v.p v.q v.r me.vals
  knows : SlF (fun _ => True) w 5 eveF v.a3 v.n3 v.c3 known
  okT : ∀ t ∈ ts, typOk t
variable {w0 : World} {v : RA} {ts : List Typ} {wh : List Pat} {known : List Eve} {me : Eve} {x : Rul} {b2 b3 b4 b6 : Option Addr} {m2 e2 m3 e3 m4 e4 m6 e6 : Nat}
theorem Rv.below {w' : World} (h : Rv w0 v ts wh known me) (hb : Below w0.heap.size w0 w') : Rv w' v ts wh known me :=
  ⟨h.pos.elim fun g hg => ⟨g, Nat.lt_of_lt_of_le hg hb.size⟩, h.types.below typF_firm hb, h.whens.below patF_firm hb, h.vals.below (plainF_firm _) hb, h.knows.below eveF_firm hb, h.okT⟩
set_option maxRecDepth 8000 in
set_option maxHeartbeats 4000000 in
theorem refSide_one (V : Rv w0 v ts wh known me) (o : Opd) (hk : o.kind = 1) :
    Calls Tryd.prog 76 #[.slice v.a1 v.n1 v.c1, .agg (rulC x (.slice v.b1 v.m1 v.e1) (.slice b2 m2 e2) (.slice b3 m3 e3) (.slice b4 m4 e4) (.slice b6 m6 e6)).toArray, .agg #[.int .i64 me.e.number, .int .i64 me.e.type, .int .i64 me.e.start, .int .i64 me.e.stop, .slice v.p v.q v.r], .slice v.a3 v.n3 v.c3, .agg (opdC o).toArray] w0 fun e w' => e = .returned (valR3 (sideV ts wh known me o)) ∧ Below w0.heap.size w0 w' := by
  obtain ⟨g, hg⟩ := V.pos
  have M := Mem.begin hg ⟨0, 0⟩
  have HV : Hid (sideV ts wh known me o = ⟨o.vkind, o.vint, o.vtext⟩) := by show _ = _; unfold sideV; rw [if_pos hk]
  unfold opdC rulC
  rw [hk]
  clear V hk hg
  go_enter Tryd.func76, Tryd.ntmps76
  go_wp2_with (first | (with_reducible (first | (refine wB (L := []) M ?_; clear M; intro za w1 M) | (refine wB (L := [_]) M ?_; clear M; intro zb w1 M) | (refine wB (L := [_, _]) M ?_; clear M; intro zc w1 M) | (refine wV M ?_; clear M; intro zr w M) | refine wl M ?_ | refine wlg M ?_ | (refine ws M ?_; clear M; intro w M) | (refine wsc M ?_; clear M; intro w M) | (refine wV M ?_; clear M; intro z w M) | (refine wR M ?_; clear M; intro q w M) | refine o_skipT ?_ | refine o_skipF ?_)) | ((with_reducible refine o_list rfl fun K hK => ?_); refine q_in M (by rfl) (by rfl) (by rfl) ?_; clear M; intro w M; (try simp only [List.set_cons_zero, List.set_cons_succ, laid, opdC, List.take_succ_cons, List.take_zero, List.drop_succ_cons, List.drop_zero, List.length_cons, List.length_nil, List.cons_append, List.nil_append, Nat.reduceAdd, Nat.zero_add] at M); refine hK _ _ ?_; clear hK K))
  ((with_reducible refine body_id ?_); (refine q_ret M Tryd.results76 (by rfl) ?_))
  rw [HV.out]
  exact ⟨rfl, M.new⟩
set_option maxRecDepth 8000 in
set_option maxHeartbeats 4000000 in
theorem refSide_own (V : Rv w0 v ts wh known me) (o : Opd) (hk : o.kind = 2) (hx : EvGood ts me) (hf : fldAt (evT ts me).fields o.field < (evT ts me).fields.length) :
    Calls Tryd.prog 76 #[.slice v.a1 v.n1 v.c1, .agg (rulC x (.slice v.b1 v.m1 v.e1) (.slice b2 m2 e2) (.slice b3 m3 e3) (.slice b4 m4 e4) (.slice b6 m6 e6)).toArray, .agg #[.int .i64 me.e.number, .int .i64 me.e.type, .int .i64 me.e.start, .int .i64 me.e.stop, .slice v.p v.q v.r], .slice v.a3 v.n3 v.c3, .agg (opdC o).toArray] w0 fun e w' => e = .returned (valR3 (sideV ts wh known me o)) ∧ Below w0.heap.size w0 w' := by
  obtain ⟨g, hg⟩ := V.pos
  have M := Mem.begin hg ⟨0, 0⟩
  have HV : Hid (sideV ts wh known me o = fldV ts me o.field) := by show _ = _; rw [sideV_look (by omega), sideX_own (by omega)]
  have htl : me.e.type.toNat < ts.length := by have := hx.lo; have := hx.hi; omega
  have hte : evT ts me = ts[me.e.type.toNat] := by unfold evT; simp [List.getD, List.getElem?_eq_getElem htl]
  obtain ⟨ct, ot, rowt, hixt, -, hrrt, hwt⟩ := SlF.rowAt (P := Tryd.prog) V.types typF_firm Tryd.underlying22 size_typ (i := me.e.type.toNat) htl
  rw [show ((me.e.type.toNat : Nat) : Int) = me.e.type from Int.toNat_of_nonneg hx.lo] at hixt
  obtain ⟨p1, q1, s1, et, ut⟩ := hrrt
  subst et
  have hto := V.okT _ (List.getElem_mem htl)
  have hfl : fldAt (evT ts me).fields o.field < me.vals.length := by rw [hx.len]; exact hf
  obtain ⟨cv, ov, rowv, hixv, -, hrrv, hwv⟩ := SlF.rowAt (P := Tryd.prog) V.vals (plainF_firm _) Tryd.underlying28 size_value (i := fldAt (evT ts me).fields o.field) hfl
  have ev : rowv = valC me.vals[fldAt (evT ts me).fields o.field] := hrrv
  have hfv : fldV ts me o.field = me.vals[fldAt (evT ts me).fields o.field] := by unfold fldV; simp [List.getD, List.getElem?_eq_getElem hfl]
  rw [← hfv] at ev
  subst ev
  have HFA : Hid (∀ wx, Below w0.heap.size w0 wx → Calls Tryd.prog 97 #[.agg #[.string ts[me.e.type.toNat].name, .slice p1 q1 s1], .string o.field] wx fun e w' => e = .returned (.int .i64 (fldAt (evT ts me).fields o.field : Nat)) ∧ Below wx.heap.size wx w') := fun wx hb => by
    have h1 := fieldAt_any ts[me.e.type.toNat].name p1 q1 s1 ts[me.e.type.toNat].fields o.field wx (fld_R (ut.below (plainF_firm _) hb) hto.2)
    rw [← hte, show atI (evT ts me).fields o.field = (fldAt (evT ts me).fields o.field : Nat) by unfold atI; rw [if_pos hf]] at h1
    rw [← hte]
    exact h1
  have HR := Lib.hid (fun wx hb => (hwt wx hb).1)
  have HRV := Lib.hid (fun wx hb => (hwv wx hb).1)
  generalize fldV ts me o.field = y at HRV HV
  generalize fldAt (evT ts me).fields o.field = fa at HFA hixv
  generalize ts[me.e.type.toNat] = tt at HFA HR
  unfold typC at HR
  unfold valC at HRV
  unfold valR3
  unfold opdC rulC
  rw [hk]
  clear V hk hx hf htl hte hwt ut hto hfl hwv hrrv hfv hg
  go_enter Tryd.func76, Tryd.ntmps76
  go_wp2_with (first | (with_reducible (first | (refine wB (L := []) M ?_; clear M; intro za w1 M) | (refine wB (L := [_]) M ?_; clear M; intro zb w1 M) | (refine wB (L := [_, _]) M ?_; clear M; intro zc w1 M) | (refine wV M ?_; clear M; intro zr w M) | refine wl M ?_ | refine wlg M ?_ | (refine ws M ?_; clear M; intro w M) | (refine wsc M ?_; clear M; intro w M) | (refine wV M ?_; clear M; intro z w M) | (refine wR M ?_; clear M; intro q w M) | refine o_skipT ?_ | refine o_skipF ?_)) | ((with_reducible refine o_list rfl fun K hK => ?_); refine q_in M (by rfl) (by rfl) (by rfl) ?_; clear M; intro w M; (try simp only [List.set_cons_zero, List.set_cons_succ, laid, opdC, List.take_succ_cons, List.take_zero, List.drop_succ_cons, List.drop_zero, List.length_cons, List.length_nil, List.cons_append, List.nil_append, Nat.reduceAdd, Nat.zero_add] at M); refine hK _ _ ?_; clear hK K))
  (refine wp_region_any (by kernel_rfl) ?_; (try (change wpAny _ _ _ _ _ _ _ (World.drew _))); replace M := M.drew; generalize World.drew _ = w at M ⊢; have S := St.o; ((refine tk 0 (v := ?_) rfl (by kernel_rfl) rfl ?_ ?_; rotate_left; focus (intro w; go_simp; try with_reducible rfl)); (try go_simp); (refine tk 2 (v := ?_) rfl (by kernel_rfl) rfl ?_ ?_; rotate_left; focus (intro w; go_simp; try with_reducible rfl)); (try go_simp); (refine tk 3 (v := ?_) rfl (by kernel_rfl) rfl ?_ ?_; rotate_left; focus (intro w; go_simp; try with_reducible rfl)); (try go_simp); (refine tk 7 (v := ?_) rfl (by kernel_rfl) rfl ?_ ?_; rotate_left; focus (intro w; go_simp; try with_reducible rfl)); (try go_simp); replace S := S.add 141; refine rd3 1 4 8 (by kernel_rfl) rfl rfl ?_ rfl rfl ?_ rfl rfl ?_ <;> intro K hK); all_goals (first | (refine o_dst (some 30) ?_; (first | (refine q_at (HR.out _ M.new) (by rfl) ?_) | (refine q_at (HRV.out _ M.new) (by rfl) ?_) | (first | refine q_all M (by rfl) ?_ | refine q_get M (by exact rfl) ?_ | refine q_prt M (by rfl) ?_)); (all_goals (refine hK _ _ ?_; clear hK K; replace S := S.add 2))) | (refine o_dst (some 33) ?_; (first | (refine q_at (HR.out _ M.new) (by rfl) ?_) | (refine q_at (HRV.out _ M.new) (by rfl) ?_) | (first | refine q_all M (by rfl) ?_ | refine q_get M (by exact rfl) ?_ | refine q_prt M (by rfl) ?_)); (all_goals (refine hK _ _ ?_; clear hK K; replace S := S.add 16))) | (refine o_dst (some 37) ?_; (first | (refine q_at (HR.out _ M.new) (by rfl) ?_) | (refine q_at (HRV.out _ M.new) (by rfl) ?_) | (first | refine q_all M (by rfl) ?_ | refine q_get M (by exact rfl) ?_ | refine q_prt M (by rfl) ?_)); (all_goals (refine hK _ _ ?_; clear hK K; replace S := S.add 256)))); all_goals (first | (replace S : St 143 := S; refine rd2 4 8 (by kernel_rfl) rfl rfl ?_ rfl rfl ?_ <;> intro K hK) | (replace S : St 157 := S; (refine tk 5 (v := ?_) rfl (by kernel_rfl) rfl ?_ ?_; rotate_left; focus (intro w; go_simp; try with_reducible rfl)); (try go_simp); replace S := S.add 32; refine rd3 1 6 8 (by kernel_rfl) rfl rfl ?_ rfl rfl ?_ rfl rfl ?_ <;> intro K hK) | (replace S : St 397 := S; refine rd2 1 4 (by kernel_rfl) rfl rfl ?_ rfl rfl ?_ <;> intro K hK)); all_goals (first | (refine o_dst (some 33) ?_; (first | (refine q_at (HR.out _ M.new) (by rfl) ?_) | (refine q_at (HRV.out _ M.new) (by rfl) ?_) | (first | refine q_all M (by rfl) ?_ | refine q_get M (by exact rfl) ?_ | refine q_prt M (by rfl) ?_)); (all_goals (refine hK _ _ ?_; clear hK K; replace S := S.add 16))) | (refine o_dst (some 37) ?_; (first | (refine q_at (HR.out _ M.new) (by rfl) ?_) | (refine q_at (HRV.out _ M.new) (by rfl) ?_) | (first | refine q_all M (by rfl) ?_ | refine q_get M (by exact rfl) ?_ | refine q_prt M (by rfl) ?_)); (all_goals (refine hK _ _ ?_; clear hK K; replace S := S.add 256))) | (refine o_dst (some 30) ?_; (first | (refine q_at (HR.out _ M.new) (by rfl) ?_) | (refine q_at (HRV.out _ M.new) (by rfl) ?_) | (first | refine q_all M (by rfl) ?_ | refine q_get M (by exact rfl) ?_ | refine q_prt M (by rfl) ?_)); (all_goals (refine hK _ _ ?_; clear hK K; replace S := S.add 2))) | (refine o_dst (some 35) ?_; (first | (refine q_at (HR.out _ M.new) (by rfl) ?_) | (refine q_at (HRV.out _ M.new) (by rfl) ?_) | (first | refine q_all M (by rfl) ?_ | refine q_get M (by exact rfl) ?_ | refine q_prt M (by rfl) ?_)); (all_goals (refine hK _ _ ?_; clear hK K; replace S := S.add 64)))); all_goals (first | (replace S : St 159 := S; (refine tk 5 (v := ?_) rfl (by kernel_rfl) rfl ?_ ?_; rotate_left; focus (intro w; go_simp; try with_reducible rfl)); (try go_simp); replace S := S.add 32; refine rd2 6 8 (by kernel_rfl) rfl rfl ?_ rfl rfl ?_ <;> intro K hK) | (replace S : St 399 := S; refine rd1 4 (by kernel_rfl) rfl rfl ?_ <;> intro K hK) | (replace S : St 191 := S; refine rd2 6 8 (by kernel_rfl) rfl rfl ?_ rfl rfl ?_ <;> intro K hK) | (replace S : St 253 := S; refine rd2 1 8 (by kernel_rfl) rfl rfl ?_ rfl rfl ?_ <;> intro K hK) | (replace S : St 445 := S; refine rd2 1 6 (by kernel_rfl) rfl rfl ?_ rfl rfl ?_ <;> intro K hK) | (replace S : St 413 := S; (refine tk 5 (v := ?_) rfl (by kernel_rfl) rfl ?_ ?_; rotate_left; focus (intro w; go_simp; try with_reducible rfl)); (try go_simp); replace S := S.add 32; refine rd2 1 6 (by kernel_rfl) rfl rfl ?_ rfl rfl ?_ <;> intro K hK)); all_goals (first | (refine o_dst (some 35) ?_; (first | (refine q_at (HR.out _ M.new) (by rfl) ?_) | (refine q_at (HRV.out _ M.new) (by rfl) ?_) | (first | refine q_all M (by rfl) ?_ | refine q_get M (by exact rfl) ?_ | refine q_prt M (by rfl) ?_)); (all_goals (refine hK _ _ ?_; clear hK K; replace S := S.add 64))) | (refine o_dst (some 37) ?_; (first | (refine q_at (HR.out _ M.new) (by rfl) ?_) | (refine q_at (HRV.out _ M.new) (by rfl) ?_) | (first | refine q_all M (by rfl) ?_ | refine q_get M (by exact rfl) ?_ | refine q_prt M (by rfl) ?_)); (all_goals (refine hK _ _ ?_; clear hK K; replace S := S.add 256))) | (refine o_dst (some 33) ?_; (first | (refine q_at (HR.out _ M.new) (by rfl) ?_) | (refine q_at (HRV.out _ M.new) (by rfl) ?_) | (first | refine q_all M (by rfl) ?_ | refine q_get M (by exact rfl) ?_ | refine q_prt M (by rfl) ?_)); (all_goals (refine hK _ _ ?_; clear hK K; replace S := S.add 16))) | (refine o_dst (some 30) ?_; (first | (refine q_at (HR.out _ M.new) (by rfl) ?_) | (refine q_at (HRV.out _ M.new) (by rfl) ?_) | (first | refine q_all M (by rfl) ?_ | refine q_get M (by exact rfl) ?_ | refine q_prt M (by rfl) ?_)); (all_goals (refine hK _ _ ?_; clear hK K; replace S := S.add 2)))); all_goals (first | (replace S : St 255 := S; refine rd1 8 (by kernel_rfl) rfl rfl ?_ <;> intro K hK) | (replace S : St 447 := S; refine rd1 6 (by kernel_rfl) rfl rfl ?_ <;> intro K hK) | (replace S : St 415 := S; (refine tk 5 (v := ?_) rfl (by kernel_rfl) rfl ?_ ?_; rotate_left; focus (intro w; go_simp; try with_reducible rfl)); (try go_simp); replace S := S.add 32; refine rd1 6 (by kernel_rfl) rfl rfl ?_ <;> intro K hK) | (replace S : St 509 := S; refine rd2 1 9 (by kernel_rfl) rfl rfl ?_ rfl rfl ?_ <;> intro K hK)); all_goals (first | (refine o_dst (some 37) ?_; (first | (refine q_at (HR.out _ M.new) (by rfl) ?_) | (refine q_at (HRV.out _ M.new) (by rfl) ?_) | (first | refine q_all M (by rfl) ?_ | refine q_get M (by exact rfl) ?_ | refine q_prt M (by rfl) ?_)); (all_goals (refine hK _ _ ?_; clear hK K; replace S := S.add 256))) | (refine o_dst (some 35) ?_; (first | (refine q_at (HR.out _ M.new) (by rfl) ?_) | (refine q_at (HRV.out _ M.new) (by rfl) ?_) | (first | refine q_all M (by rfl) ?_ | refine q_get M (by exact rfl) ?_ | refine q_prt M (by rfl) ?_)); (all_goals (refine hK _ _ ?_; clear hK K; replace S := S.add 64))) | (refine o_dst (some 30) ?_; (first | (refine q_at (HR.out _ M.new) (by rfl) ?_) | (refine q_at (HRV.out _ M.new) (by rfl) ?_) | (first | refine q_all M (by rfl) ?_ | refine q_get M (by exact rfl) ?_ | refine q_prt M (by rfl) ?_)); (all_goals (refine hK _ _ ?_; clear hK K; replace S := S.add 2))) | (refine o_dst (some 38) ?_; (refine owp_of ?_; go_simp; (go_at_call 97; with_reducible refine (HFA.out _ M.new).mono ?_; rintro e w5 ⟨rfl, hb5⟩; replace M := M.below hb5; clear hb5); (try go_simp)); (all_goals (refine hK _ _ ?_; clear hK K; replace S := S.add 512)))); all_goals (first | (replace S : St 511 := S; refine rd1 9 (by kernel_rfl) rfl rfl ?_ <;> intro K hK) | (replace S : St 1021 := S; refine rd1 1 (by kernel_rfl) rfl rfl ?_ <;> intro K hK)); all_goals (first | (refine o_dst (some 38) ?_; (refine owp_of ?_; go_simp; (go_at_call 97; with_reducible refine (HFA.out _ M.new).mono ?_; rintro e w5 ⟨rfl, hb5⟩; replace M := M.below hb5; clear hb5); (try go_simp)); (all_goals (refine hK _ _ ?_; clear hK K; replace S := S.add 512))) | (refine o_dst (some 30) ?_; (first | (refine q_at (HR.out _ M.new) (by rfl) ?_) | (refine q_at (HRV.out _ M.new) (by rfl) ?_) | (first | refine q_all M (by rfl) ?_ | refine q_get M (by exact rfl) ?_ | refine q_prt M (by rfl) ?_)); (all_goals (refine hK _ _ ?_; clear hK K; replace S := S.add 2)))); all_goals ((refine tk 10 (v := ?_) rfl (by kernel_rfl) rfl ?_ ?_; rotate_left; focus (intro w; go_simp; try with_reducible rfl)); (try go_simp); replace S := S.add 1024; refine rd1 11 (by kernel_rfl) rfl rfl ?_ <;> intro K hK); all_goals (refine o_dst (some 40) ?_; (first | (refine q_at (HR.out _ M.new) (by rfl) ?_) | (refine q_at (HRV.out _ M.new) (by rfl) ?_) | (first | refine q_all M (by rfl) ?_ | refine q_get M (by exact rfl) ?_ | refine q_prt M (by rfl) ?_)); (all_goals (refine hK _ _ ?_; clear hK K; replace S := S.add 2048))); all_goals (refine rd1 12 (by kernel_rfl) rfl rfl ?_ <;> intro K hK); all_goals (refine o_dst none ?_; (first | (refine q_at (HR.out _ M.new) (by rfl) ?_) | (refine q_at (HRV.out _ M.new) (by rfl) ?_) | ((first | refine q_setc M (by rfl) (by rfl) ?_ | refine q_set M (by rfl) (by rfl) ?_ | refine q_put M (by rfl) (by rfl) (by rfl) ?_); clear M; intro w M; simp only [List.set_cons_zero, List.set_cons_succ] at M)); (all_goals (refine hK _ _ ?_; clear hK K; replace S := S.add 4096))); all_goals (clear S; (refine wpAny_done (by kernel_rfl) ?_ _)))
  all_goals
  go_wp2_with (first | (with_reducible (first | refine wl M ?_ | refine wlg M ?_ | (refine ws M ?_; clear M; intro w M) | (refine wsc M ?_; clear M; intro w M) | (refine wV M ?_; clear M; intro z w M) | (refine wR M ?_; clear M; intro q w M) | refine o_skipT ?_ | refine o_skipF ?_)))
  ((with_reducible refine body_id ?_); (refine q_ret M Tryd.results76 (by rfl) ?_))
  rw [HV.out]
  exact ⟨rfl, M.new⟩
set_option maxRecDepth 8000 in
set_option maxHeartbeats 4000000 in
theorem refSide_other (V : Rv w0 v ts wh known me) (hle : known.length ≤ wh.length) (o : Opd) (hk : o.kind = 3) (hi : patI wh o.var < known.length) (hx : EvGood ts (sideX wh known me o)) (hf : fldAt (evT ts (sideX wh known me o)).fields o.field < (evT ts (sideX wh known me o)).fields.length) :
    Calls Tryd.prog 76 #[.slice v.a1 v.n1 v.c1, .agg (rulC x (.slice v.b1 v.m1 v.e1) (.slice b2 m2 e2) (.slice b3 m3 e3) (.slice b4 m4 e4) (.slice b6 m6 e6)).toArray, .agg #[.int .i64 me.e.number, .int .i64 me.e.type, .int .i64 me.e.start, .int .i64 me.e.stop, .slice v.p v.q v.r], .slice v.a3 v.n3 v.c3, .agg (opdC o).toArray] w0 fun e w' => e = .returned (valR3 (sideV ts wh known me o)) ∧ Below w0.heap.size w0 w' := by
  obtain ⟨g, hg⟩ := V.pos
  have M := Mem.begin hg ⟨0, 0⟩
  have hsx : sideX wh known me o = known[patI wh o.var] := by unfold sideX; rw [if_pos hk]; simp [List.getD, List.getElem?_eq_getElem hi]
  rw [hsx] at hx hf
  have HV : Hid (sideV ts wh known me o = fldV ts known[patI wh o.var] o.field) := by show _ = _; rw [sideV_look (by omega), hsx]
  obtain ⟨ck, ok, rowk, hixk, -, hrrk, hwk⟩ := SlF.rowAt (P := Tryd.prog) V.knows eveF_firm Tryd.underlying31 size_eve (i := patI wh o.var) hi
  obtain ⟨p2, q2, s2, ek, uk⟩ := hrrk
  subst ek
  have HRK := Lib.hid (fun wx hb => (hwk wx hb).1)
  have HPN : Hid (∀ wx, Below w0.heap.size w0 wx → Calls Tryd.prog 98 #[.slice v.b1 v.m1 v.e1, .string o.var] wx fun e w' => e = .returned (.int .i64 (patI wh o.var : Nat)) ∧ Below wx.heap.size wx w') := fun wx hb => by
    have h1 := patternNamed_any (Nat.lt_of_lt_of_le hg hb.size) (V.whens.below patF_firm hb) o.var
    rw [show placeV (patI wh o.var) wh.length = (patI wh o.var : Nat) by unfold placeV; rw [if_pos (by omega)]] at h1
    exact h1
  have htl : known[patI wh o.var].e.type.toNat < ts.length := by have := hx.lo; have := hx.hi; omega
  have hte : evT ts known[patI wh o.var] = ts[known[patI wh o.var].e.type.toNat] := by unfold evT; simp [List.getD, List.getElem?_eq_getElem htl]
  obtain ⟨ct, ot, rowt, hixt, -, hrrt, hwt⟩ := SlF.rowAt (P := Tryd.prog) V.types typF_firm Tryd.underlying22 size_typ (i := known[patI wh o.var].e.type.toNat) htl
  rw [show ((known[patI wh o.var].e.type.toNat : Nat) : Int) = known[patI wh o.var].e.type from Int.toNat_of_nonneg hx.lo] at hixt
  obtain ⟨p1, q1, s1, et, ut⟩ := hrrt
  subst et
  have hto := V.okT _ (List.getElem_mem htl)
  have hfl : fldAt (evT ts known[patI wh o.var]).fields o.field < known[patI wh o.var].vals.length := by rw [hx.len]; exact hf
  obtain ⟨cv, ov, rowv, hixv, -, hrrv, hwv⟩ := SlF.rowAt (P := Tryd.prog) uk (plainF_firm _) Tryd.underlying28 size_value (i := fldAt (evT ts known[patI wh o.var]).fields o.field) hfl
  have ev : rowv = valC known[patI wh o.var].vals[fldAt (evT ts known[patI wh o.var]).fields o.field] := hrrv
  have hfv : fldV ts known[patI wh o.var] o.field = known[patI wh o.var].vals[fldAt (evT ts known[patI wh o.var]).fields o.field] := by unfold fldV; simp [List.getD, List.getElem?_eq_getElem hfl]
  rw [← hfv] at ev
  subst ev
  have HFA : Hid (∀ wx, Below w0.heap.size w0 wx → Calls Tryd.prog 97 #[.agg #[.string ts[known[patI wh o.var].e.type.toNat].name, .slice p1 q1 s1], .string o.field] wx fun e w' => e = .returned (.int .i64 (fldAt (evT ts known[patI wh o.var]).fields o.field : Nat)) ∧ Below wx.heap.size wx w') := fun wx hb => by
    have h1 := fieldAt_any ts[known[patI wh o.var].e.type.toNat].name p1 q1 s1 ts[known[patI wh o.var].e.type.toNat].fields o.field wx (fld_R (ut.below (plainF_firm _) hb) hto.2)
    rw [← hte, show atI (evT ts known[patI wh o.var]).fields o.field = (fldAt (evT ts known[patI wh o.var]).fields o.field : Nat) by unfold atI; rw [if_pos hf]] at h1
    rw [← hte]
    exact h1
  have HR := Lib.hid (fun wx hb => (hwt wx hb).1)
  have HRV := Lib.hid (fun wx hb => (hwv wx hb).1)
  generalize fldV ts known[patI wh o.var] o.field = y at HRV HV
  generalize fldAt (evT ts known[patI wh o.var]).fields o.field = fa at HFA hixv
  generalize ts[known[patI wh o.var].e.type.toNat] = tt at HFA HR
  unfold typC at HR
  unfold valC at HRV
  unfold valR3
  generalize known[patI wh o.var] = z at HRK hixt
  generalize patI wh o.var = J at *
  unfold opdC rulC
  rw [hk]
  clear V hk hx hf htl hte hwt ut hto hfl hwv hrrv hfv hg uk hwk hsx hi hle
  go_enter Tryd.func76, Tryd.ntmps76
  go_wp2_with (first | (go_at_call 98; with_reducible refine (HPN.out _ M.new).mono ?_; rintro e w5 ⟨rfl, hb5⟩; replace M := M.below hb5; clear hb5) | (with_reducible (first | (refine wB (L := []) M ?_; clear M; intro za w1 M) | (refine wB (L := [_]) M ?_; clear M; intro zb w1 M) | (refine wB (L := [_, _]) M ?_; clear M; intro zc w1 M) | (refine wV M ?_; clear M; intro zr w M) | refine wA (HRK.out _ M.new) ?_ | refine wl M ?_ | refine wlg M ?_ | (refine ws M ?_; clear M; intro w M) | (refine wsc M ?_; clear M; intro w M) | (refine wV M ?_; clear M; intro z w M) | (refine wR M ?_; clear M; intro q w M) | refine o_skipT ?_ | refine o_skipF ?_)) | ((with_reducible refine o_list rfl fun K hK => ?_); refine q_in M (by rfl) (by rfl) (by rfl) ?_; clear M; intro w M; (try simp only [List.set_cons_zero, List.set_cons_succ, laid, opdC, List.take_succ_cons, List.take_zero, List.drop_succ_cons, List.drop_zero, List.length_cons, List.length_nil, List.cons_append, List.nil_append, Nat.reduceAdd, Nat.zero_add] at M); refine hK _ _ ?_; clear hK K))
  (refine wp_region_any (by kernel_rfl) ?_; (try (change wpAny _ _ _ _ _ _ _ (World.drew _))); replace M := M.drew; generalize World.drew _ = w at M ⊢; have S := St.o; ((refine tk 0 (v := ?_) rfl (by kernel_rfl) rfl ?_ ?_; rotate_left; focus (intro w; go_simp; try with_reducible rfl)); (try go_simp); (refine tk 2 (v := ?_) rfl (by kernel_rfl) rfl ?_ ?_; rotate_left; focus (intro w; go_simp; try with_reducible rfl)); (try go_simp); (refine tk 3 (v := ?_) rfl (by kernel_rfl) rfl ?_ ?_; rotate_left; focus (intro w; go_simp; try with_reducible rfl)); (try go_simp); (refine tk 7 (v := ?_) rfl (by kernel_rfl) rfl ?_ ?_; rotate_left; focus (intro w; go_simp; try with_reducible rfl)); (try go_simp); replace S := S.add 141; refine rd3 1 4 8 (by kernel_rfl) rfl rfl ?_ rfl rfl ?_ rfl rfl ?_ <;> intro K hK); all_goals (first | (refine o_dst (some 30) ?_; (first | (refine q_at (HR.out _ M.new) (by rfl) ?_) | (refine q_at (HRV.out _ M.new) (by rfl) ?_) | (first | refine q_all M (by rfl) ?_ | refine q_get M (by exact rfl) ?_ | refine q_prt M (by rfl) ?_)); (all_goals (refine hK _ _ ?_; clear hK K; replace S := S.add 2))) | (refine o_dst (some 33) ?_; (first | (refine q_at (HR.out _ M.new) (by rfl) ?_) | (refine q_at (HRV.out _ M.new) (by rfl) ?_) | (first | refine q_all M (by rfl) ?_ | refine q_get M (by exact rfl) ?_ | refine q_prt M (by rfl) ?_)); (all_goals (refine hK _ _ ?_; clear hK K; replace S := S.add 16))) | (refine o_dst (some 37) ?_; (first | (refine q_at (HR.out _ M.new) (by rfl) ?_) | (refine q_at (HRV.out _ M.new) (by rfl) ?_) | (first | refine q_all M (by rfl) ?_ | refine q_get M (by exact rfl) ?_ | refine q_prt M (by rfl) ?_)); (all_goals (refine hK _ _ ?_; clear hK K; replace S := S.add 256)))); all_goals (first | (replace S : St 143 := S; refine rd2 4 8 (by kernel_rfl) rfl rfl ?_ rfl rfl ?_ <;> intro K hK) | (replace S : St 157 := S; (refine tk 5 (v := ?_) rfl (by kernel_rfl) rfl ?_ ?_; rotate_left; focus (intro w; go_simp; try with_reducible rfl)); (try go_simp); replace S := S.add 32; refine rd3 1 6 8 (by kernel_rfl) rfl rfl ?_ rfl rfl ?_ rfl rfl ?_ <;> intro K hK) | (replace S : St 397 := S; refine rd2 1 4 (by kernel_rfl) rfl rfl ?_ rfl rfl ?_ <;> intro K hK)); all_goals (first | (refine o_dst (some 33) ?_; (first | (refine q_at (HR.out _ M.new) (by rfl) ?_) | (refine q_at (HRV.out _ M.new) (by rfl) ?_) | (first | refine q_all M (by rfl) ?_ | refine q_get M (by exact rfl) ?_ | refine q_prt M (by rfl) ?_)); (all_goals (refine hK _ _ ?_; clear hK K; replace S := S.add 16))) | (refine o_dst (some 37) ?_; (first | (refine q_at (HR.out _ M.new) (by rfl) ?_) | (refine q_at (HRV.out _ M.new) (by rfl) ?_) | (first | refine q_all M (by rfl) ?_ | refine q_get M (by exact rfl) ?_ | refine q_prt M (by rfl) ?_)); (all_goals (refine hK _ _ ?_; clear hK K; replace S := S.add 256))) | (refine o_dst (some 30) ?_; (first | (refine q_at (HR.out _ M.new) (by rfl) ?_) | (refine q_at (HRV.out _ M.new) (by rfl) ?_) | (first | refine q_all M (by rfl) ?_ | refine q_get M (by exact rfl) ?_ | refine q_prt M (by rfl) ?_)); (all_goals (refine hK _ _ ?_; clear hK K; replace S := S.add 2))) | (refine o_dst (some 35) ?_; (first | (refine q_at (HR.out _ M.new) (by rfl) ?_) | (refine q_at (HRV.out _ M.new) (by rfl) ?_) | (first | refine q_all M (by rfl) ?_ | refine q_get M (by exact rfl) ?_ | refine q_prt M (by rfl) ?_)); (all_goals (refine hK _ _ ?_; clear hK K; replace S := S.add 64)))); all_goals (first | (replace S : St 159 := S; (refine tk 5 (v := ?_) rfl (by kernel_rfl) rfl ?_ ?_; rotate_left; focus (intro w; go_simp; try with_reducible rfl)); (try go_simp); replace S := S.add 32; refine rd2 6 8 (by kernel_rfl) rfl rfl ?_ rfl rfl ?_ <;> intro K hK) | (replace S : St 399 := S; refine rd1 4 (by kernel_rfl) rfl rfl ?_ <;> intro K hK) | (replace S : St 191 := S; refine rd2 6 8 (by kernel_rfl) rfl rfl ?_ rfl rfl ?_ <;> intro K hK) | (replace S : St 253 := S; refine rd2 1 8 (by kernel_rfl) rfl rfl ?_ rfl rfl ?_ <;> intro K hK) | (replace S : St 445 := S; refine rd2 1 6 (by kernel_rfl) rfl rfl ?_ rfl rfl ?_ <;> intro K hK) | (replace S : St 413 := S; (refine tk 5 (v := ?_) rfl (by kernel_rfl) rfl ?_ ?_; rotate_left; focus (intro w; go_simp; try with_reducible rfl)); (try go_simp); replace S := S.add 32; refine rd2 1 6 (by kernel_rfl) rfl rfl ?_ rfl rfl ?_ <;> intro K hK)); all_goals (first | (refine o_dst (some 35) ?_; (first | (refine q_at (HR.out _ M.new) (by rfl) ?_) | (refine q_at (HRV.out _ M.new) (by rfl) ?_) | (first | refine q_all M (by rfl) ?_ | refine q_get M (by exact rfl) ?_ | refine q_prt M (by rfl) ?_)); (all_goals (refine hK _ _ ?_; clear hK K; replace S := S.add 64))) | (refine o_dst (some 37) ?_; (first | (refine q_at (HR.out _ M.new) (by rfl) ?_) | (refine q_at (HRV.out _ M.new) (by rfl) ?_) | (first | refine q_all M (by rfl) ?_ | refine q_get M (by exact rfl) ?_ | refine q_prt M (by rfl) ?_)); (all_goals (refine hK _ _ ?_; clear hK K; replace S := S.add 256))) | (refine o_dst (some 33) ?_; (first | (refine q_at (HR.out _ M.new) (by rfl) ?_) | (refine q_at (HRV.out _ M.new) (by rfl) ?_) | (first | refine q_all M (by rfl) ?_ | refine q_get M (by exact rfl) ?_ | refine q_prt M (by rfl) ?_)); (all_goals (refine hK _ _ ?_; clear hK K; replace S := S.add 16))) | (refine o_dst (some 30) ?_; (first | (refine q_at (HR.out _ M.new) (by rfl) ?_) | (refine q_at (HRV.out _ M.new) (by rfl) ?_) | (first | refine q_all M (by rfl) ?_ | refine q_get M (by exact rfl) ?_ | refine q_prt M (by rfl) ?_)); (all_goals (refine hK _ _ ?_; clear hK K; replace S := S.add 2)))); all_goals (first | (replace S : St 255 := S; refine rd1 8 (by kernel_rfl) rfl rfl ?_ <;> intro K hK) | (replace S : St 447 := S; refine rd1 6 (by kernel_rfl) rfl rfl ?_ <;> intro K hK) | (replace S : St 415 := S; (refine tk 5 (v := ?_) rfl (by kernel_rfl) rfl ?_ ?_; rotate_left; focus (intro w; go_simp; try with_reducible rfl)); (try go_simp); replace S := S.add 32; refine rd1 6 (by kernel_rfl) rfl rfl ?_ <;> intro K hK) | (replace S : St 509 := S; refine rd2 1 9 (by kernel_rfl) rfl rfl ?_ rfl rfl ?_ <;> intro K hK)); all_goals (first | (refine o_dst (some 37) ?_; (first | (refine q_at (HR.out _ M.new) (by rfl) ?_) | (refine q_at (HRV.out _ M.new) (by rfl) ?_) | (first | refine q_all M (by rfl) ?_ | refine q_get M (by exact rfl) ?_ | refine q_prt M (by rfl) ?_)); (all_goals (refine hK _ _ ?_; clear hK K; replace S := S.add 256))) | (refine o_dst (some 35) ?_; (first | (refine q_at (HR.out _ M.new) (by rfl) ?_) | (refine q_at (HRV.out _ M.new) (by rfl) ?_) | (first | refine q_all M (by rfl) ?_ | refine q_get M (by exact rfl) ?_ | refine q_prt M (by rfl) ?_)); (all_goals (refine hK _ _ ?_; clear hK K; replace S := S.add 64))) | (refine o_dst (some 30) ?_; (first | (refine q_at (HR.out _ M.new) (by rfl) ?_) | (refine q_at (HRV.out _ M.new) (by rfl) ?_) | (first | refine q_all M (by rfl) ?_ | refine q_get M (by exact rfl) ?_ | refine q_prt M (by rfl) ?_)); (all_goals (refine hK _ _ ?_; clear hK K; replace S := S.add 2))) | (refine o_dst (some 38) ?_; (refine owp_of ?_; go_simp; (go_at_call 97; with_reducible refine (HFA.out _ M.new).mono ?_; rintro e w5 ⟨rfl, hb5⟩; replace M := M.below hb5; clear hb5); (try go_simp)); (all_goals (refine hK _ _ ?_; clear hK K; replace S := S.add 512)))); all_goals (first | (replace S : St 511 := S; refine rd1 9 (by kernel_rfl) rfl rfl ?_ <;> intro K hK) | (replace S : St 1021 := S; refine rd1 1 (by kernel_rfl) rfl rfl ?_ <;> intro K hK)); all_goals (first | (refine o_dst (some 38) ?_; (refine owp_of ?_; go_simp; (go_at_call 97; with_reducible refine (HFA.out _ M.new).mono ?_; rintro e w5 ⟨rfl, hb5⟩; replace M := M.below hb5; clear hb5); (try go_simp)); (all_goals (refine hK _ _ ?_; clear hK K; replace S := S.add 512))) | (refine o_dst (some 30) ?_; (first | (refine q_at (HR.out _ M.new) (by rfl) ?_) | (refine q_at (HRV.out _ M.new) (by rfl) ?_) | (first | refine q_all M (by rfl) ?_ | refine q_get M (by exact rfl) ?_ | refine q_prt M (by rfl) ?_)); (all_goals (refine hK _ _ ?_; clear hK K; replace S := S.add 2)))); all_goals ((refine tk 10 (v := ?_) rfl (by kernel_rfl) rfl ?_ ?_; rotate_left; focus (intro w; go_simp; try with_reducible rfl)); (try go_simp); replace S := S.add 1024; refine rd1 11 (by kernel_rfl) rfl rfl ?_ <;> intro K hK); all_goals (refine o_dst (some 40) ?_; (first | (refine q_at (HR.out _ M.new) (by rfl) ?_) | (refine q_at (HRV.out _ M.new) (by rfl) ?_) | (first | refine q_all M (by rfl) ?_ | refine q_get M (by exact rfl) ?_ | refine q_prt M (by rfl) ?_)); (all_goals (refine hK _ _ ?_; clear hK K; replace S := S.add 2048))); all_goals (refine rd1 12 (by kernel_rfl) rfl rfl ?_ <;> intro K hK); all_goals (refine o_dst none ?_; (first | (refine q_at (HR.out _ M.new) (by rfl) ?_) | (refine q_at (HRV.out _ M.new) (by rfl) ?_) | ((first | refine q_setc M (by rfl) (by rfl) ?_ | refine q_set M (by rfl) (by rfl) ?_ | refine q_put M (by rfl) (by rfl) (by rfl) ?_); clear M; intro w M; simp only [List.set_cons_zero, List.set_cons_succ] at M)); (all_goals (refine hK _ _ ?_; clear hK K; replace S := S.add 4096))); all_goals (clear S; (refine wpAny_done (by kernel_rfl) ?_ _)))
  all_goals
  go_wp2_with (first | (with_reducible (first | refine wl M ?_ | refine wlg M ?_ | (refine ws M ?_; clear M; intro w M) | (refine wsc M ?_; clear M; intro w M) | (refine wV M ?_; clear M; intro z w M) | (refine wR M ?_; clear M; intro q w M) | refine o_skipT ?_ | refine o_skipF ?_)))
  ((with_reducible refine body_id ?_); (refine q_ret M Tryd.results76 (by rfl) ?_))
  rw [HV.out]
  exact ⟨rfl, M.new⟩
theorem refSide_any (V : Rv w0 v ts wh known me) (hle : known.length ≤ wh.length) (o : Opd) (hG : SideGood ts wh known me o) :
    Calls Tryd.prog 76 #[.slice v.a1 v.n1 v.c1, .agg (rulC x (.slice v.b1 v.m1 v.e1) (.slice b2 m2 e2) (.slice b3 m3 e3) (.slice b4 m4 e4) (.slice b6 m6 e6)).toArray, .agg #[.int .i64 me.e.number, .int .i64 me.e.type, .int .i64 me.e.start, .int .i64 me.e.stop, .slice v.p v.q v.r], .slice v.a3 v.n3 v.c3, .agg (opdC o).toArray] w0 fun e w' => e = .returned (valR3 (sideV ts wh known me o)) ∧ Below w0.heap.size w0 w' := by
  rcases hG with h | ⟨h | ⟨h, hi⟩, hx, hf⟩
  · exact refSide_one V o h
  · rw [sideX_own (by omega)] at hx hf
    exact refSide_own V o h hx hf
  · exact refSide_other V hle o h hi hx hf
end Go.Proofs.YthlnheckaoeooaaDoor
/-
  The walk of the reference's sift: does a condition hold? Printed by sfl.py.
-/
namespace Go.Proofs.YthlnheckaoeooaaDoor
open Go.RowKit
set_option linter.unusedVariables false
set_option linter.unusedSimpArgs false

section
variable {ts : List Typ} {wh : List Pat} {known : List Eve} {me : Eve} {f : Nat} {c : Cond}
theorem count_not (h : c.kind = 3) (h1 : c.subs.length = 1) : holdR ts wh known me (f + 1) c = decide (((c.subs.countP (holdR ts wh known me f) : Nat) : Int) = 0) := by
  rw [hold_not h h1 (by omega)]
  obtain ⟨s, hs⟩ := List.length_eq_one_iff.1 h1
  have e : c.subs[0]'(by omega) = s := by simp [hs]
  rw [e, hs]
  cases hh : holdR ts wh known me f s <;> simp [List.countP_cons, hh]
theorem count_and (h : c.kind = 1) : holdR ts wh known me (f + 1) c = decide (((c.subs.countP (holdR ts wh known me f) : Nat) : Int) = c.subs.length) := by
  conv in holdR ts wh known me (f + 1) c => unfold holdR
  rw [if_neg (by omega), if_neg (by omega), if_pos h, Bool.eq_iff_iff, List.all_eq_true, decide_eq_true_iff]
  have := List.countP_eq_length (p := holdR ts wh known me f) (l := c.subs)
  constructor
  · intro hh; exact congrArg _ (this.2 hh)
  · intro hh; exact this.1 (by omega)
theorem count_or (h : c.kind = 2) : holdR ts wh known me (f + 1) c = decide (0 < ((c.subs.countP (holdR ts wh known me f) : Nat) : Int)) := by
  conv in holdR ts wh known me (f + 1) c => unfold holdR
  rw [if_neg (by omega), if_neg (by omega), if_neg (by omega), if_pos h, Bool.eq_iff_iff, List.any_eq_true, decide_eq_true_iff]
  have := List.countP_pos_iff (p := holdR ts wh known me f) (l := c.subs)
  constructor
  · intro hh; have := this.2 hh; omega
  · intro hh; exact this.1 (by omega)
theorem countP_more {α : Type} {l : List α} {p : α → Bool} {j : Nat} (h : j < l.length) {b : Bool} (hb : p l[j] = b) : (l.take (j + 1)).countP p = (l.take j).countP p + (if b then 1 else 0) := by
  rw [List.take_add_one, List.getElem?_eq_getElem h, List.countP_append]
  subst hb
  simp [List.countP_cons]
theorem cmpE_parts {a b : Val} (h : cmpE a b = 0) : valE a = 0 ∧ valE b = 0 ∧ a.kind = b.kind := by
  unfold cmpE at h
  by_cases h1 : valE a = 0
  · rw [if_pos h1] at h
    by_cases h2 : valE b = 0
    · rw [if_pos h2] at h
      by_cases h3 : a.kind = b.kind
      · exact ⟨h1, h2, h3⟩
      · rw [if_neg h3] at h; exact absurd h (by decide)
    · rw [if_neg h2] at h; exact absurd h h2
  · rw [if_neg h1] at h; exact absurd h h1
end
section
variable {S : Nat → Prop} {w0 : World} {v : RA} {ts : List Typ} {wh : List Pat} {known : List Eve} {me : Eve} {x : Rul} {b2 b3 b4 b6 : Option Addr} {m2 e2 m3 e3 m4 e4 m6 e6 : Nat} {f : Nat} {so : Option Addr} {sn sc : Nat}
set_option maxRecDepth 8000 in
set_option maxHeartbeats 4000000 in
theorem conHold_zero (V : Rv w0 v ts wh known me) (c : Cond) (hk : c.kind = 0) :
    Calls Tryd.prog 38 #[.slice v.a1 v.n1 v.c1, .agg (rulC x (.slice v.b1 v.m1 v.e1) (.slice b2 m2 e2) (.slice b3 m3 e3) (.slice b4 m4 e4) (.slice b6 m6 e6)).toArray, .agg #[.int .i64 me.e.number, .int .i64 me.e.type, .int .i64 me.e.start, .int .i64 me.e.stop, .slice v.p v.q v.r], .slice v.a3 v.n3 v.c3, .agg (cnd14 c.kind so sn sc c.left c.right).toArray] w0 fun e w' => e = .returned (.bool (holdR ts wh known me (f + 1) c)) ∧ Below w0.heap.size w0 w' := by
  obtain ⟨g, hg⟩ := V.pos
  have M := Mem.begin hg ⟨0, 0⟩
  have HV := Lib.hid (hold_zero (ts := ts) (wh := wh) (known := known) (me := me) (f := f) hk)
  unfold cnd14 rulC
  rw [hk]
  clear V hk hg
  go_enter Tryd.func38, Tryd.ntmps38
  go_wp2_with (first | (with_reducible (first | (refine wB (L := []) M ?_; clear M; intro za w1 M) | (refine wB (L := [_]) M ?_; clear M; intro zb w1 M) | (refine wB (L := [_, _]) M ?_; clear M; intro zc w1 M) | refine wl M ?_ | refine wlg M ?_ | (refine ws M ?_; clear M; intro w M) | (refine wsc M ?_; clear M; intro w M) | (refine wV M ?_; clear M; intro z w M) | (refine wR M ?_; clear M; intro q w M) | refine o_skipT ?_ | refine o_skipF ?_)))
  go_ret
  rw [HV.out]
  exact ⟨rfl, M.new⟩
set_option maxRecDepth 8000 in
set_option maxHeartbeats 4000000 in
theorem conHold_test (V : Rv w0 v ts wh known me) (hle : known.length ≤ wh.length) (c : Cond) (hk : 4 ≤ c.kind ∧ c.kind ≤ 7) (hl : SideGood ts wh known me c.left) (hr : SideGood ts wh known me c.right) (hc : cmpE (sideV ts wh known me c.left) (sideV ts wh known me c.right) = 0) :
    Calls Tryd.prog 38 #[.slice v.a1 v.n1 v.c1, .agg (rulC x (.slice v.b1 v.m1 v.e1) (.slice b2 m2 e2) (.slice b3 m3 e3) (.slice b4 m4 e4) (.slice b6 m6 e6)).toArray, .agg #[.int .i64 me.e.number, .int .i64 me.e.type, .int .i64 me.e.start, .int .i64 me.e.stop, .slice v.p v.q v.r], .slice v.a3 v.n3 v.c3, .agg (cnd14 c.kind so sn sc c.left c.right).toArray] w0 fun e w' => e = .returned (.bool (holdR ts wh known me (f + 1) c)) ∧ Below w0.heap.size w0 w' := by
  obtain ⟨g, hg⟩ := V.pos
  have M := Mem.begin hg ⟨0, 0⟩
  have HV := Lib.hid (hold_test (ts := ts) (wh := wh) (known := known) (me := me) (f := f) hk.1)
  have HSL : Hid (∀ wx, Below w0.heap.size w0 wx → Calls Tryd.prog 76 #[.slice v.a1 v.n1 v.c1, .agg (rulC x (.slice v.b1 v.m1 v.e1) (.slice b2 m2 e2) (.slice b3 m3 e3) (.slice b4 m4 e4) (.slice b6 m6 e6)).toArray, .agg #[.int .i64 me.e.number, .int .i64 me.e.type, .int .i64 me.e.start, .int .i64 me.e.stop, .slice v.p v.q v.r], .slice v.a3 v.n3 v.c3, .agg (opdC c.left).toArray] wx fun e w' => e = .returned (valR3 (sideV ts wh known me c.left)) ∧ Below wx.heap.size wx w') := fun wx hb => refSide_any (V.below hb) hle c.left hl
  have HSR : Hid (∀ wx, Below w0.heap.size w0 wx → Calls Tryd.prog 76 #[.slice v.a1 v.n1 v.c1, .agg (rulC x (.slice v.b1 v.m1 v.e1) (.slice b2 m2 e2) (.slice b3 m3 e3) (.slice b4 m4 e4) (.slice b6 m6 e6)).toArray, .agg #[.int .i64 me.e.number, .int .i64 me.e.type, .int .i64 me.e.start, .int .i64 me.e.stop, .slice v.p v.q v.r], .slice v.a3 v.n3 v.c3, .agg (opdC c.right).toArray] wx fun e w' => e = .returned (valR3 (sideV ts wh known me c.right)) ∧ Below wx.heap.size wx w') := fun wx hb => refSide_any (V.below hb) hle c.right hr
  obtain ⟨v1, v2, v3⟩ := cmpE_parts hc
  have HCM : Hid (∀ wx, Calls Tryd.prog 75 #[valR3 (sideV ts wh known me c.left), valR3 (sideV ts wh known me c.right)] wx fun e w' => e = .returned (.int .i64 (cmpV (sideV ts wh known me c.left) (sideV ts wh known me c.right))) ∧ Below wx.heap.size wx w') := fun wx => ordered_any _ _ wx v1 v2 v3
  have HKK : Hid (4 ≤ c.kind ∧ c.kind ≤ 7) := hk
  have k0 : (c.kind == 0) = false := by simp; omega
  have k3 : decide (3 < c.kind) = true := by simp; omega
  generalize cmpV (sideV ts wh known me c.left) (sideV ts wh known me c.right) = n at HCM HV
  generalize sideV ts wh known me c.left = xa at HSL HCM
  generalize sideV ts wh known me c.right = ya at HSR HCM
  unfold opdC rulC valR3 at HSL HSR
  unfold valR3 at HCM
  unfold cnd14 rulC
  generalize c.left = lo at HSL
  generalize c.right = ro at HSR
  generalize c.kind = k at *
  clear V hk hg hl hr hc v1 v2 v3 hle
  go_enter Tryd.func38, Tryd.ntmps38
  go_wp2_with (first | (with_reducible (first | (refine wB (L := []) M ?_; clear M; intro za w1 M) | (refine wB (L := [_]) M ?_; clear M; intro zb w1 M) | (refine wB (L := [_, _]) M ?_; clear M; intro zc w1 M) | refine wl M ?_ | refine wlg M ?_ | (refine ws M ?_; clear M; intro w M) | (refine wsc M ?_; clear M; intro w M) | (refine wV M ?_; clear M; intro z w M) | (refine wR M ?_; clear M; intro q w M) | refine o_skipT ?_ | refine o_skipF ?_)))
  ((refine wp_region_calm M (by kernel_rfl) (by kernel_rfl) ?_); (repeat (first | ((with_reducible refine c_list rfl fun K hK => ?_); (first | (refine c_load (l' := ?_) ⟨_, M⟩ (fun w M => ?_) ?_; rotate_left; focus ((first | refine q_get M (by exact rfl) ?_ | refine q_all M (by rfl) ?_ | refine q_prt M (by rfl) ?_); refine ⟨rfl, ?_⟩; with_reducible rfl)) | (refine c_call (n := 76) (args := ?_) (v := ?_) (fun w => ?_) (fun w M => ?_) ?_; rotate_left 2; (focus (go_simp; try with_reducible rfl)); (focus (with_reducible refine (HSL.out _ M.new).mono ?_; rintro e w5 ⟨rfl, hb5⟩; refine ⟨?_, M.below hb5⟩; with_reducible rfl))) | (refine c_call (n := 76) (args := ?_) (v := ?_) (fun w => ?_) (fun w M => ?_) ?_; rotate_left 2; (focus (go_simp; try with_reducible rfl)); (focus (with_reducible refine (HSR.out _ M.new).mono ?_; rintro e w5 ⟨rfl, hb5⟩; refine ⟨?_, M.below hb5⟩; with_reducible rfl))) | (refine c_call (n := 75) (args := ?_) (v := ?_) (fun w => ?_) (fun w M => ?_) ?_; rotate_left 2; (focus (go_simp; try with_reducible rfl)); (focus (with_reducible refine (HCM.out _).mono ?_; rintro e w5 ⟨rfl, hb5⟩; refine ⟨?_, M.below hb5⟩; with_reducible rfl))) | (refine c_pure (v := ?_) (fun w => ?_) ?_; rotate_left; focus (go_simp; try with_reducible rfl))); (try go_simp); refine hK _ ?_; clear hK K) | ((with_reducible refine c_listg fun K hK => ?_); (first | (refine c_load (l' := ?_) ⟨_, M⟩ (fun w M => ?_) ?_; rotate_left; focus ((first | refine q_get M (by exact rfl) ?_ | refine q_all M (by rfl) ?_ | refine q_prt M (by rfl) ?_); refine ⟨rfl, ?_⟩; with_reducible rfl)) | (refine c_call (n := 76) (args := ?_) (v := ?_) (fun w => ?_) (fun w M => ?_) ?_; rotate_left 2; (focus (go_simp; try with_reducible rfl)); (focus (with_reducible refine (HSL.out _ M.new).mono ?_; rintro e w5 ⟨rfl, hb5⟩; refine ⟨?_, M.below hb5⟩; with_reducible rfl))) | (refine c_call (n := 76) (args := ?_) (v := ?_) (fun w => ?_) (fun w M => ?_) ?_; rotate_left 2; (focus (go_simp; try with_reducible rfl)); (focus (with_reducible refine (HSR.out _ M.new).mono ?_; rintro e w5 ⟨rfl, hb5⟩; refine ⟨?_, M.below hb5⟩; with_reducible rfl))) | (refine c_call (n := 75) (args := ?_) (v := ?_) (fun w => ?_) (fun w M => ?_) ?_; rotate_left 2; (focus (go_simp; try with_reducible rfl)); (focus (with_reducible refine (HCM.out _).mono ?_; rintro e w5 ⟨rfl, hb5⟩; refine ⟨?_, M.below hb5⟩; with_reducible rfl))) | (refine c_pure (v := ?_) (fun w => ?_) ?_; rotate_left; focus (go_simp; try with_reducible rfl))); (try go_simp); refine hK _ ?_; clear hK K) | (with_reducible refine c_skipT ?_) | (with_reducible refine c_skipF ?_))); (refine wpQuiet_nil ?_); clear M; intro w M)
  obtain ⟨h4, h7⟩ := HKK.out
  obtain hn | hn | hn := Int.lt_trichotomy n 0
  · have n1 : (n == 0) = false := by simp; omega
    have n2 : (n != 0) = true := by simp; omega
    have n3 : decide (n < 0) = true := by simp; omega
    have n4 : decide (n ≤ 0) = true := by simp; omega
    obtain rfl | rfl | rfl | rfl : k = 4 ∨ k = 5 ∨ k = 6 ∨ k = 7 := by omega
    all_goals
      clear h4 h7 hn
      go_wp2_with (first | (with_reducible (first | refine wl M ?_ | refine wlg M ?_ | (refine ws M ?_; clear M; intro w M) | (refine wsc M ?_; clear M; intro w M) | (refine wV M ?_; clear M; intro z w M) | (refine wR M ?_; clear M; intro q w M) | refine o_skipT ?_ | refine o_skipF ?_)))
      go_ret
      rw [HV.out]
      exact ⟨by simp [testB, n1, n2, n3, n4], M.new⟩
  · subst hn
    obtain rfl | rfl | rfl | rfl : k = 4 ∨ k = 5 ∨ k = 6 ∨ k = 7 := by omega
    all_goals
      clear h4 h7
      go_wp2_with (first | (with_reducible (first | refine wl M ?_ | refine wlg M ?_ | (refine ws M ?_; clear M; intro w M) | (refine wsc M ?_; clear M; intro w M) | (refine wV M ?_; clear M; intro z w M) | (refine wR M ?_; clear M; intro q w M) | refine o_skipT ?_ | refine o_skipF ?_)))
      go_ret
      rw [HV.out]
      exact ⟨by simp [testB], M.new⟩
  · have n1 : (n == 0) = false := by simp; omega
    have n2 : (n != 0) = true := by simp; omega
    have n3 : decide (n < 0) = false := by simp; omega
    have n4 : decide (n ≤ 0) = false := by simp; omega
    obtain rfl | rfl | rfl | rfl : k = 4 ∨ k = 5 ∨ k = 6 ∨ k = 7 := by omega
    all_goals
      clear h4 h7 hn
      go_wp2_with (first | (with_reducible (first | refine wl M ?_ | refine wlg M ?_ | (refine ws M ?_; clear M; intro w M) | (refine wsc M ?_; clear M; intro w M) | (refine wV M ?_; clear M; intro z w M) | (refine wR M ?_; clear M; intro q w M) | refine o_skipT ?_ | refine o_skipF ?_)))
      go_ret
      rw [HV.out]
      exact ⟨by simp [testB, n1, n2, n3, n4], M.new⟩
set_option maxRecDepth 8000 in
set_option maxHeartbeats 4000000 in
theorem conHold_loop (V : Rv w0 v ts wh known me) (c : Cond) (hS : SlF S w0 14 CondF so sn sc c.subs) (IH : ∀ j (hj : j < c.subs.length) (so2 : Option Addr) (sn2 sc2 : Nat) (wy : World), Below w0.heap.size w0 wy → SlF S wy 14 CondF so2 sn2 sc2 c.subs[j].subs → Calls Tryd.prog 38 #[.slice v.a1 v.n1 v.c1, .agg (rulC x (.slice v.b1 v.m1 v.e1) (.slice b2 m2 e2) (.slice b3 m3 e3) (.slice b4 m4 e4) (.slice b6 m6 e6)).toArray, .agg #[.int .i64 me.e.number, .int .i64 me.e.type, .int .i64 me.e.start, .int .i64 me.e.stop, .slice v.p v.q v.r], .slice v.a3 v.n3 v.c3, .agg (cnd14 c.subs[j].kind so2 sn2 sc2 c.subs[j].left c.subs[j].right).toArray] wy fun e w' => e = .returned (.bool (holdR ts wh known me f c.subs[j])) ∧ Below wy.heap.size wy w') (k : Int) (hk : c.kind = k) (h3 : k = 1 ∨ k = 2 ∨ (k = 3 ∧ c.subs.length = 1)) :
    Calls Tryd.prog 38 #[.slice v.a1 v.n1 v.c1, .agg (rulC x (.slice v.b1 v.m1 v.e1) (.slice b2 m2 e2) (.slice b3 m3 e3) (.slice b4 m4 e4) (.slice b6 m6 e6)).toArray, .agg #[.int .i64 me.e.number, .int .i64 me.e.type, .int .i64 me.e.start, .int .i64 me.e.stop, .slice v.p v.q v.r], .slice v.a3 v.n3 v.c3, .agg (cnd14 c.kind so sn sc c.left c.right).toArray] w0 fun e w' => e = .returned (.bool (holdR ts wh known me (f + 1) c)) ∧ Below w0.heap.size w0 w' := by
  obtain ⟨g, hg⟩ := V.pos
  have M := Mem.begin hg ⟨0, 0⟩
  have HS := Lib.hid hS
  have NL : Hid (sn = c.subs.length) := hS.len
  have hle := hS.le
  replace IH := Lib.hid IH
  have HV : Hid (∀ t : Nat, t = c.subs.countP (holdR ts wh known me f) → (k = 1 → holdR ts wh known me (f + 1) c = decide ((t : Int) = (sn : Int))) ∧ (k = 2 → holdR ts wh known me (f + 1) c = decide (0 < (t : Int))) ∧ (k = 3 → holdR ts wh known me (f + 1) c = decide ((t : Int) = 0))) := fun t ht => by
    subst ht
    refine ⟨fun h => ?_, fun h => ?_, fun h => ?_⟩
    · rw [count_and (hk.trans h), NL.out]
    · rw [count_or (hk.trans h)]
    · rw [count_not (hk.trans h) (h3.elim (fun g => absurd (g.symm.trans h) (by decide)) (fun g => g.elim (fun g => absurd (g.symm.trans h) (by decide)) (fun g => g.2)))]
  have h3' : Hid (k = 1 ∨ k = 2 ∨ k = 3) := by show _ ∨ _; omega
  have k0 : (k == 0) = false := by simp; omega
  have k3 : decide (3 < k) = false := by simp; omega
  unfold cnd14 rulC
  rw [hk]
  clear V hk hS hg h3
  go_enter Tryd.func38, Tryd.ntmps38
  go_wp2_with (first | (with_reducible (first | (refine wB (L := []) M ?_; clear M; intro za w1 M) | (refine wB (L := [_]) M ?_; clear M; intro zb w1 M) | (refine wB (L := [_, _]) M ?_; clear M; intro zc w1 M) | refine wl M ?_ | refine wlg M ?_ | (refine ws M ?_; clear M; intro w M) | (refine wsc M ?_; clear M; intro w M) | (refine wV M ?_; clear M; intro z w M) | (refine wR M ?_; clear M; intro q w M) | refine o_skipT ?_ | refine o_skipF ?_)))
  go_loopw [12, 13] (fun s i wr => ∃ (j t : Nat), j ≤ sn ∧ t ≤ j ∧ s = .int .i64 t ∧ i = .int .i64 j ∧ Mem (StaysB g w0) g w0 wr ⟨0, 0⟩ (own zc [.int .i64 k, .slice so sn sc, .int .i64 c.left.kind, .int .i64 c.left.vkind, .int .i64 c.left.vint, .string c.left.vtext, .string c.left.var, .string c.left.field, .int .i64 c.right.kind, .int .i64 c.right.vkind, .int .i64 c.right.vint, .string c.right.vtext, .string c.right.var, .string c.right.field] 48 :: own zb [.int .i64 me.e.number, .int .i64 me.e.type, .int .i64 me.e.start, .int .i64 me.e.stop, .slice v.p v.q v.r] 30 :: own za [.string x.name, .slice v.b1 v.m1 v.e1, .slice b2 m2 e2, .slice b3 m3 e3, .slice b4 m4 e4, .string x.etype, .slice b6 m6 e6] 60 :: []) ∧ Hid (t = (c.subs.take j).countP (holdR ts wh known me f))) (fun _ i _ => sn - (intOf i).toNat)
  case atStart => exact ⟨0, 0, by omega, by omega, rfl, rfl, M, by show _ = _; simp⟩
  case round =>
    clear M
    obtain ⟨j, t, hj, htj, rfl, rfl, M, HT⟩ := hrel
    by_cases hlt : j < sn
    · have hkl : j < c.subs.length := by have := NL.out; omega
      obtain ⟨ca, oa, rowa, hixa, -, hrra, hwa⟩ := SlF.rowAt (P := Tryd.prog) HS.out condF_firm Tryd.underlying42 size_cnd (i := j) hkl
      obtain ⟨so2, sn2, sc2, e1, hS2⟩ := hrra.open14
      subst e1
      have HR : Hid (∀ wx, Below w0.heap.size w0 wx → wx.rangeAt ca oa (cnd14 c.subs[j].kind so2 sn2 sc2 c.subs[j].left c.subs[j].right)) := fun wx hb => (hwa wx hb).1
      have HC : Hid (∀ wx, Below w0.heap.size w0 wx → Calls Tryd.prog 38 #[.slice v.a1 v.n1 v.c1, .agg (rulC x (.slice v.b1 v.m1 v.e1) (.slice b2 m2 e2) (.slice b3 m3 e3) (.slice b4 m4 e4) (.slice b6 m6 e6)).toArray, .agg #[.int .i64 me.e.number, .int .i64 me.e.type, .int .i64 me.e.start, .int .i64 me.e.stop, .slice v.p v.q v.r], .slice v.a3 v.n3 v.c3, .agg (cnd14 c.subs[j].kind so2 sn2 sc2 c.subs[j].left c.subs[j].right).toArray] wx fun e w' => e = .returned (.bool (holdR ts wh known me f c.subs[j])) ∧ Below wx.heap.size wx w') := fun wx hb => IH.out j hkl so2 sn2 sc2 wx hb (hS2.below condF_firm hb)
      have HM : Hid (∀ b, holdR ts wh known me f c.subs[j] = b → t + (if b then 1 else 0) = (c.subs.take (j + 1)).countP (holdR ts wh known me f)) := fun b hb => by rw [countP_more hkl hb, ← HT.out]
      clear hwa hrra hS2 HT
      generalize holdR ts wh known me f c.subs[j] = b at HC HM
      generalize c.subs[j] = s at HR HC
      clear hkl
      unfold cnd14 rulC at HC
      unfold cnd14 at HR
      have HM2 := Lib.hid (HM.out b rfl)
      clear HM
      go_wp2_with (first | (with_reducible (first | refine wl M ?_ | refine wlg M ?_ | (refine ws M ?_; clear M; intro w M) | (refine wsc M ?_; clear M; intro w M) | (refine wV M ?_; clear M; intro z w M) | (refine wR M ?_; clear M; intro q w M) | refine o_skipT ?_ | refine o_skipF ?_)))
      ((refine wp_region_calm M (by kernel_rfl) (by kernel_rfl) ?_); (repeat (first | ((with_reducible refine c_list rfl fun K hK => ?_); (first | (refine c_load (l' := ?_) ⟨_, M⟩ (fun w M => ?_) ?_; rotate_left; focus ((first | (refine q_at (HR.out _ M.new) (by rfl) ?_) | refine q_get M (by exact rfl) ?_ | refine q_all M (by rfl) ?_ | refine q_prt M (by rfl) ?_); refine ⟨rfl, ?_⟩; with_reducible rfl)) | (refine c_call (n := 38) (args := ?_) (v := ?_) (fun w => ?_) (fun w M => ?_) ?_; rotate_left 2; (focus (go_simp; try with_reducible rfl)); (focus (with_reducible refine (HC.out _ M.new).mono ?_; rintro e w5 ⟨rfl, hb5⟩; refine ⟨?_, M.below hb5⟩; with_reducible rfl))) | (refine c_pure (v := ?_) (fun w => ?_) ?_; rotate_left; focus (go_simp; try with_reducible rfl))); (try go_simp); refine hK _ ?_; clear hK K) | ((with_reducible refine c_listg fun K hK => ?_); (first | (refine c_load (l' := ?_) ⟨_, M⟩ (fun w M => ?_) ?_; rotate_left; focus ((first | (refine q_at (HR.out _ M.new) (by rfl) ?_) | refine q_get M (by exact rfl) ?_ | refine q_all M (by rfl) ?_ | refine q_prt M (by rfl) ?_); refine ⟨rfl, ?_⟩; with_reducible rfl)) | (refine c_call (n := 38) (args := ?_) (v := ?_) (fun w => ?_) (fun w M => ?_) ?_; rotate_left 2; (focus (go_simp; try with_reducible rfl)); (focus (with_reducible refine (HC.out _ M.new).mono ?_; rintro e w5 ⟨rfl, hb5⟩; refine ⟨?_, M.below hb5⟩; with_reducible rfl))) | (refine c_pure (v := ?_) (fun w => ?_) ?_; rotate_left; focus (go_simp; try with_reducible rfl))); (try go_simp); refine hK _ ?_; clear hK K) | (with_reducible refine c_skipT ?_) | (with_reducible refine c_skipF ?_))); (refine wpQuiet_nil ?_); clear M; intro w M)
      cases b with
      | false =>
        go_wp2_with (first | (with_reducible (first | refine wl M ?_ | refine wlg M ?_ | (refine ws M ?_; clear M; intro w M) | (refine wsc M ?_; clear M; intro w M) | (refine wV M ?_; clear M; intro z w M) | (refine wR M ?_; clear M; intro q w M) | refine o_skipT ?_ | refine o_skipF ?_)))
        go_roundw
        case rel => exact ⟨j + 1, t, by omega, by omega, by go_num, by go_num, M, HM2⟩
        case measure => simp [intOf]; omega
      | true =>
        go_wp2_with (first | (with_reducible (first | refine wl M ?_ | refine wlg M ?_ | (refine ws M ?_; clear M; intro w M) | (refine wsc M ?_; clear M; intro w M) | (refine wV M ?_; clear M; intro z w M) | (refine wR M ?_; clear M; intro q w M) | refine o_skipT ?_ | refine o_skipF ?_)))
        go_roundw
        case rel => exact ⟨j + 1, t + 1, by omega, by omega, by go_num, by go_num, M, HM2⟩
        case measure => simp [intOf]; omega
    · have hje : j = c.subs.length := by have := NL.out; omega
      have HV2 := Lib.hid (HV.out t (by have h := HT.out; rw [hje, List.take_length] at h; exact h))
      clear HT HV hje
      obtain rfl | rfl | rfl := h3'.out
      · have HV3 := Lib.hid (HV2.out.1 rfl)
        by_cases hq : (t : Int) = (sn : Int)
        · have hqb : ((t : Int) == (sn : Int)) = true := by simpa using hq
          clear HV2 h3'
          replace hq := Lib.hid hq
          go_wp2_with (first | (with_reducible (first | refine wl M ?_ | refine wlg M ?_ | (refine ws M ?_; clear M; intro w M) | (refine wsc M ?_; clear M; intro w M) | (refine wV M ?_; clear M; intro z w M) | (refine wR M ?_; clear M; intro q w M) | refine o_skipT ?_ | refine o_skipF ?_)))
          go_ret
          rw [HV3.out]
          exact ⟨by first | (simp [hq.out]; done) | (have := hq.out; simp; omega), M.new⟩
        · have hqb : ((t : Int) == (sn : Int)) = false := by simpa using hq
          clear HV2 h3'
          replace hq := Lib.hid hq
          go_wp2_with (first | (with_reducible (first | refine wl M ?_ | refine wlg M ?_ | (refine ws M ?_; clear M; intro w M) | (refine wsc M ?_; clear M; intro w M) | (refine wV M ?_; clear M; intro z w M) | (refine wR M ?_; clear M; intro q w M) | refine o_skipT ?_ | refine o_skipF ?_)))
          go_ret
          rw [HV3.out]
          exact ⟨by first | (simp [hq.out]; done) | (have := hq.out; simp; omega), M.new⟩
      · have HV3 := Lib.hid (HV2.out.2.1 rfl)
        by_cases hq : 0 < (t : Int)
        · have hqb : decide (0 < (t : Int)) = true := by simpa using hq
          clear HV2 h3'
          replace hq := Lib.hid hq
          go_wp2_with (first | (with_reducible (first | refine wl M ?_ | refine wlg M ?_ | (refine ws M ?_; clear M; intro w M) | (refine wsc M ?_; clear M; intro w M) | (refine wV M ?_; clear M; intro z w M) | (refine wR M ?_; clear M; intro q w M) | refine o_skipT ?_ | refine o_skipF ?_)))
          go_ret
          rw [HV3.out]
          exact ⟨by simp [hqb], M.new⟩
        · have hqb : decide (0 < (t : Int)) = false := by simpa using hq
          clear HV2 h3'
          replace hq := Lib.hid hq
          go_wp2_with (first | (with_reducible (first | refine wl M ?_ | refine wlg M ?_ | (refine ws M ?_; clear M; intro w M) | (refine wsc M ?_; clear M; intro w M) | (refine wV M ?_; clear M; intro z w M) | (refine wR M ?_; clear M; intro q w M) | refine o_skipT ?_ | refine o_skipF ?_)))
          go_ret
          rw [HV3.out]
          exact ⟨by simp [hqb], M.new⟩
      · have HV3 := Lib.hid (HV2.out.2.2 rfl)
        by_cases hq : (t : Int) = 0
        · have hqb : ((t : Int) == 0) = true := by simpa using hq
          clear HV2 h3'
          replace hq := Lib.hid hq
          go_wp2_with (first | (with_reducible (first | refine wl M ?_ | refine wlg M ?_ | (refine ws M ?_; clear M; intro w M) | (refine wsc M ?_; clear M; intro w M) | (refine wV M ?_; clear M; intro z w M) | (refine wR M ?_; clear M; intro q w M) | refine o_skipT ?_ | refine o_skipF ?_)))
          go_ret
          rw [HV3.out]
          exact ⟨by first | (simp [hq.out]; done) | (have := hq.out; simp; omega), M.new⟩
        · have hqb : ((t : Int) == 0) = false := by simpa using hq
          clear HV2 h3'
          replace hq := Lib.hid hq
          go_wp2_with (first | (with_reducible (first | refine wl M ?_ | refine wlg M ?_ | (refine ws M ?_; clear M; intro w M) | (refine wsc M ?_; clear M; intro w M) | (refine wV M ?_; clear M; intro z w M) | (refine wR M ?_; clear M; intro q w M) | refine o_skipT ?_ | refine o_skipF ?_)))
          go_ret
          rw [HV3.out]
          exact ⟨by first | (simp [hq.out]; done) | (have := hq.out; simp; omega), M.new⟩
theorem conHold_any (V : Rv w0 v ts wh known me) (hle : known.length ≤ wh.length) :
    ∀ (f : Nat) (c : Cond) (so : Option Addr) (sn sc : Nat) (wx : World), Below w0.heap.size w0 wx → SlF S wx 14 CondF so sn sc c.subs → HoldGood ts wh known me f c →
      Calls Tryd.prog 38 #[.slice v.a1 v.n1 v.c1, .agg (rulC x (.slice v.b1 v.m1 v.e1) (.slice b2 m2 e2) (.slice b3 m3 e3) (.slice b4 m4 e4) (.slice b6 m6 e6)).toArray, .agg #[.int .i64 me.e.number, .int .i64 me.e.type, .int .i64 me.e.start, .int .i64 me.e.stop, .slice v.p v.q v.r], .slice v.a3 v.n3 v.c3, .agg (cnd14 c.kind so sn sc c.left c.right).toArray] wx fun e w' => e = .returned (.bool (holdR ts wh known me f c)) ∧ Below wx.heap.size wx w'
  | 0, c, so, sn, sc, wx, hb, hS, hG => absurd hG (by unfold HoldGood; exact id)
  | f + 1, c, so, sn, sc, wx, hb, hS, hG => by
    unfold HoldGood at hG
    rcases hG with h | ⟨h, h1, hs⟩ | ⟨h, hs⟩ | ⟨h4, h7, hl, hr, hc⟩
    · exact conHold_zero (V.below hb) c h
    · exact conHold_loop (V.below hb) c hS (fun j hj so2 sn2 sc2 wy hby hS2 => conHold_any V hle f c.subs[j] so2 sn2 sc2 wy (hb.trans (hby.mono hb.size)) hS2 (hs _ (List.getElem_mem hj))) 3 h (.inr (.inr ⟨rfl, h1⟩))
    · exact conHold_loop (V.below hb) c hS (fun j hj so2 sn2 sc2 wy hby hS2 => conHold_any V hle f c.subs[j] so2 sn2 sc2 wy (hb.trans (hby.mono hb.size)) hS2 (hs _ (List.getElem_mem hj))) c.kind rfl (h.elim .inl (fun h => .inr (.inl h)))
    · exact conHold_test (V.below hb) hle c ⟨h4, h7⟩ hl hr hc
end
end Go.Proofs.YthlnheckaoeooaaDoor
/-
  The walk of the reference's sift: is an event taken by a pattern? Printed by sfm.py.
-/
namespace Go.Proofs.YthlnheckaoeooaaDoor
open Go.RowKit
set_option linter.unusedVariables false
set_option linter.unusedSimpArgs false

section
variable {S : Nat → Prop} {w0 : World} {v : RA} {ts : List Typ} {wh : List Pat} {known : List Eve} {me : Eve} {x : Rul} {b2 b3 b4 b6 : Option Addr} {m2 e2 m3 e3 m4 e4 m6 e6 : Nat} {so : Option Addr} {sn sc : Nat}
/-- Is an event taken by a pattern? -/
def takenB (ts : List Typ) (wh : List Pat) (known : List Eve) (me : Eve) (P : Pat) : Bool := sameS (evT ts me).name P.type && holdR ts wh known me 8 P.wher
set_option maxRecDepth 8000 in
set_option maxHeartbeats 4000000 in
theorem taken_any (V : Rv w0 v ts wh known me) (hle : known.length ≤ wh.length) (P : Pat) (h0 : 0 ≤ me.e.type) (h1 : me.e.type < ts.length) (hS : SlF S w0 14 CondF so sn sc P.wher.subs) (hG : sameS (evT ts me).name P.type = true → HoldGood ts wh known me 8 P.wher) :
    Calls Tryd.prog 17 #[.slice v.a1 v.n1 v.c1, .agg (rulC x (.slice v.b1 v.m1 v.e1) (.slice b2 m2 e2) (.slice b3 m3 e3) (.slice b4 m4 e4) (.slice b6 m6 e6)).toArray, .agg (patC P so sn sc).toArray, .agg #[.int .i64 me.e.number, .int .i64 me.e.type, .int .i64 me.e.start, .int .i64 me.e.stop, .slice v.p v.q v.r], .slice v.a3 v.n3 v.c3] w0 fun e w' => e = .returned (.bool (takenB ts wh known me P)) ∧ Below w0.heap.size w0 w' := by
  obtain ⟨g, hg⟩ := V.pos
  have M := Mem.begin hg ⟨0, 0⟩
  have htl : me.e.type.toNat < ts.length := by omega
  have hte : evT ts me = ts[me.e.type.toNat] := by unfold evT; simp [List.getD, List.getElem?_eq_getElem htl]
  obtain ⟨ct, ot, rowt, hixt, -, hrrt, hwt⟩ := SlF.rowAt (P := Tryd.prog) V.types typF_firm Tryd.underlying22 size_typ (i := me.e.type.toNat) htl
  rw [show ((me.e.type.toNat : Nat) : Int) = me.e.type from Int.toNat_of_nonneg h0] at hixt
  obtain ⟨p1, q1, s1, et, ut⟩ := hrrt
  subst et
  have HTN : Hid (∀ wx, Below w0.heap.size w0 wx → wx.cell? ⟨ct, ot, none⟩ = some (.string (evT ts me).name)) := fun wx hb => by have h := (hwt wx hb).1 0 _ rfl; rw [hte]; exact h
  have HH : Hid (sameS (evT ts me).name P.type = true → ∀ wx, Below w0.heap.size w0 wx → Calls Tryd.prog 38 #[.slice v.a1 v.n1 v.c1, .agg (rulC x (.slice v.b1 v.m1 v.e1) (.slice b2 m2 e2) (.slice b3 m3 e3) (.slice b4 m4 e4) (.slice b6 m6 e6)).toArray, .agg #[.int .i64 me.e.number, .int .i64 me.e.type, .int .i64 me.e.start, .int .i64 me.e.stop, .slice v.p v.q v.r], .slice v.a3 v.n3 v.c3, .agg (cnd14 P.wher.kind so sn sc P.wher.left P.wher.right).toArray] wx fun e w' => e = .returned (.bool (holdR ts wh known me 8 P.wher)) ∧ Below wx.heap.size wx w') := fun h wx hb => conHold_any V hle 8 P.wher so sn sc wx hb (hS.below condF_firm hb) (hG h)
  clear hwt ut hte htl h0 h1 hS hG
  cases hsm : sameS (evT ts me).name P.type with
  | false =>
    have HV : Hid (takenB ts wh known me P = false) := by show _ = _; unfold takenB; rw [hsm]; rfl
    have hsb : ((evT ts me).name.toList == P.type.toList) = false := hsm
    generalize (evT ts me).name = nm at HTN hsb
    unfold patC cndC opdC rulC
    simp only [List.cons_append, List.nil_append]
    clear HH hsm V hg hle
    go_enter Tryd.func17, Tryd.ntmps17
    go_wp2_with (first | (with_reducible (first | (refine wB (L := []) M ?_; clear M; intro za w1 M) | (refine wB (L := [_]) M ?_; clear M; intro zb w1 M) | (refine wB (L := [_, _]) M ?_; clear M; intro zc w1 M) | refine wl M ?_ | refine wlg M ?_ | (refine ws M ?_; clear M; intro w M) | (refine wsc M ?_; clear M; intro w M) | (refine wV M ?_; clear M; intro z w M) | (refine wR M ?_; clear M; intro q w M) | refine o_skipT ?_ | refine o_skipF ?_)))
    ((refine wp_region_still_lit (by kernel_rfl) (by kernel_rfl) ?_); (change wpStill _ _ (World.drew _) _ _ _); replace M := M.drew; (repeat (first | ((with_reducible refine s_list rfl fun K hK => ?_); refine s_load ?_; (first | (refine q_cellat (HTN.out _ M.new) ?_) | refine q_all M (by rfl) ?_ | refine q_get M (by exact rfl) ?_ | refine q_prt M (by rfl) ?_); refine ⟨rfl, hK _ ?_⟩; clear hK K) | ((with_reducible refine s_listg fun K hK => ?_); refine s_load ?_; (first | (refine q_cellat (HTN.out _ M.new) ?_) | refine q_all M (by rfl) ?_ | refine q_get M (by exact rfl) ?_ | refine q_prt M (by rfl) ?_); refine ⟨rfl, hK _ ?_⟩; clear hK K) | (with_reducible refine s_skipT ?_) | (with_reducible refine s_skipF ?_) | (with_reducible refine s_skipU ?_) | ((first | (with_reducible refine s_list rfl fun K hK => ?_) | (with_reducible refine s_listg fun K hK => ?_)); refine s_pure ?_; go_simp; with_reducible refine hK _ ?_; clear hK K))); (with_reducible refine wpStill_nil ?_))
    go_wp2_with (first | (with_reducible (first | refine wl M ?_ | refine wlg M ?_ | (refine ws M ?_; clear M; intro w M) | (refine wsc M ?_; clear M; intro w M) | (refine wV M ?_; clear M; intro z w M) | (refine wR M ?_; clear M; intro q w M) | refine o_skipT ?_ | refine o_skipF ?_)))
    go_ret
    rw [HV.out]
    exact ⟨rfl, M.new⟩
  | true =>
    have HV : Hid (takenB ts wh known me P = holdR ts wh known me 8 P.wher) := by show _ = _; unfold takenB; rw [hsm]; rfl
    have HH2 := Lib.hid (HH.out hsm)
    have hsb : ((evT ts me).name.toList == P.type.toList) = true := hsm
    generalize (evT ts me).name = nm at HTN hsb
    generalize holdR ts wh known me 8 P.wher = hh at HH2 HV
    unfold cnd14 rulC at HH2
    unfold patC cndC opdC rulC
    simp only [List.cons_append, List.nil_append]
    clear HH hsm V hg hle
    go_enter Tryd.func17, Tryd.ntmps17
    go_wp2_with (first | (with_reducible (first | (refine wB (L := []) M ?_; clear M; intro za w1 M) | (refine wB (L := [_]) M ?_; clear M; intro zb w1 M) | (refine wB (L := [_, _]) M ?_; clear M; intro zc w1 M) | refine wl M ?_ | refine wlg M ?_ | (refine ws M ?_; clear M; intro w M) | (refine wsc M ?_; clear M; intro w M) | (refine wV M ?_; clear M; intro z w M) | (refine wR M ?_; clear M; intro q w M) | refine o_skipT ?_ | refine o_skipF ?_)))
    ((refine wp_region_still_tail 16 (by kernel_rfl) (by kernel_rfl) ?_); (simp only [List.take_succ_cons, List.take_zero, List.drop_succ_cons, List.drop_zero]); (change wpStill _ _ (World.drew _) (fun a' => wpList _ _ _ _ a' (World.drew _)) _ _); replace M := M.drew; generalize World.drew _ = wd at M ⊢; (repeat (first | ((with_reducible refine s_list rfl fun K hK => ?_); refine s_load ?_; (first | (refine q_cellat (HTN.out _ M.new) ?_) | refine q_all M (by rfl) ?_ | refine q_get M (by exact rfl) ?_ | refine q_prt M (by rfl) ?_); refine ⟨rfl, hK _ ?_⟩; clear hK K) | ((with_reducible refine s_listg fun K hK => ?_); refine s_load ?_; (first | (refine q_cellat (HTN.out _ M.new) ?_) | refine q_all M (by rfl) ?_ | refine q_get M (by exact rfl) ?_ | refine q_prt M (by rfl) ?_); refine ⟨rfl, hK _ ?_⟩; clear hK K) | (with_reducible refine s_skipT ?_) | (with_reducible refine s_skipF ?_) | ((first | (with_reducible refine s_list rfl fun K hK => ?_) | (with_reducible refine s_listg fun K hK => ?_)); refine s_pure ?_; go_simp; refine hK _ ?_; clear hK K))); (refine wpStill_nil ?_))
    go_wp2_with (first | (go_at_call 38; with_reducible refine (HH2.out _ M.new).mono ?_; rintro e w5 ⟨rfl, hb5⟩; replace M := M.below hb5; clear hb5) | (with_reducible (first | refine wl M ?_ | refine wlg M ?_ | (refine ws M ?_; clear M; intro w M) | (refine wsc M ?_; clear M; intro w M) | (refine wV M ?_; clear M; intro z w M) | (refine wR M ?_; clear M; intro q w M) | refine o_skipT ?_ | refine o_skipF ?_)))
    go_ret
    rw [HV.out]
    exact ⟨by simp, M.new⟩
end
end Go.Proofs.YthlnheckaoeooaaDoor
/-
  The walk of the reference's TakenBy. Printed by sfn.py.
-/
namespace Go.Proofs.YthlnheckaoeooaaDoor
open Go.RowKit
set_option linter.unusedVariables false
set_option linter.unusedSimpArgs false

theorem inB_is (n lo hi : Int) (b : Bool) (h : inB n lo hi = b) (w : World) : Calls Tryd.prog 15 #[.int .i64 n, .int .i64 lo, .int .i64 hi] w fun e w' => e = .returned (.bool b) ∧ w' = w := by
  rw [← h]; exact in_any n lo hi w
theorem range_sub {w : World} {z o : Nat} {cs : List Value} (h : w.rangeAt z o cs) (p : Nat) (vs : List Value) (hv : (cs.drop p).take vs.length = vs) : w.rangeAt z (o + p) vs := fun j x hj => by
  have hl : j < vs.length := (List.getElem?_eq_some_iff.1 hj).1
  have key : cs[p + j]? = some x := by rw [← hv, List.getElem?_take, if_pos hl, List.getElem?_drop] at hj; exact hj
  have := h (p + j) x key
  rwa [← Nat.add_assoc] at this
theorem Mem.world {At : PS → World → Prop} {b : Nat} {u w : World} {s : PS} {L : List Ent} (M : Mem At b u w s L) : ∃ w6 : World, w6 = w := ⟨w, rfl⟩
theorem not_few {ts : List Typ} {x : Rul} (h : ruleE ts x = 0) : x.nots.length ≤ 100000 := by
  unfold ruleE at h
  by_cases h1 : freeE x.name ≠ 0
  · rw [if_pos h1] at h; exact absurd h h1
  rw [if_neg h1] at h
  by_cases h2 : sizeB x = true
  · rw [if_pos h2] at h; exact absurd h (by decide)
  simp [sizeB] at h2
  omega
/-- What of a part's patterns is filled in behind the s'th loop. -/
def fillN (L : List Pat) (part : Int) (s : Int) : Nat := if part ≤ s then L.length else 0
section
variable {g : Nat} {F F3 : Nat → Prop} {w0 : World}
set_option maxRecDepth 8000 in
set_option maxHeartbeats 16000000 in
theorem takenBy_book (hg : g < w0.heap.size) (b : Bok) (a1 : Option Addr) (n1 c1 : Nat) (a2 : Option Addr) (n2 c2 : Nat) (X1 : SlF F w0 2 typF a1 n1 c1 b.types) (X2 : SlF F w0 7 rulF a2 n2 c2 b.rules) (hts : ∀ t ∈ b.types, typOk t) (hrs : ∀ x ∈ b.rules, RulFit x) (x : Eve) (px : Option Addr) (qx rx : Nat) (hxv : SlF F3 w0 3 (plainF valC) px qx rx x.vals) (hxo : eveOk x) (a3 : Option Addr) (n3 c3 : Nat) (known : List Eve) (X3 : SlF F3 w0 5 eveF a3 n3 c3 known) (hko : ∀ y ∈ known, eveOk y) (rule part k : Int) (h0 : bookE b ≠ 0) : Calls Tryd.prog 6 #[.agg #[.slice a1 n1 c1, .slice a2 n2 c2], .int .i64 rule, .int .i64 part, .int .i64 k, .agg #[.int .i64 x.e.number, .int .i64 x.e.type, .int .i64 x.e.start, .int .i64 x.e.stop, .slice px qx rx], .slice a3 n3 c3] w0 fun e w' => e = .returned (.tuple #[.bool (takesE b rule part k x known).1, .int .i64 (takesE b rule part k x known).2]) ∧ Below w0.heap.size w0 w' := by
  have M := Mem.begin hg ⟨0, 0⟩
  have HC : Hid (∀ wx, Below w0.heap.size w0 wx → Calls Tryd.prog 14 #[.agg #[.slice a1 n1 c1, .slice a2 n2 c2]] wx fun e w' => e = .returned (.int .i64 (bookE b)) ∧ Below wx.heap.size wx w') := fun wx hb => bookFault_any (Nat.lt_of_lt_of_le hg hb.size) b a1 n1 c1 a2 n2 c2 (X1.below typF_firm hb) (X2.below rulF_firm hb) hts (fun x hx => (hrs x hx).ok)
  have HV : Hid (takesE b rule part k x known = (false, bookE b)) := takes_e1 h0
  have hqb : (bookE b != 0) = true := by simpa using h0
  generalize takesE b rule part k x known = T at HV ⊢
  generalize bookE b = q at HC HV hqb
  clear h0 X1 X2 X3 hts hrs hxv hxo hko hg
  go_enter Tryd.func6, Tryd.ntmps6
  go_wp2_with (first | (with_reducible (first | (refine wB (L := []) M ?_; clear M; intro za w1 M) | (refine wB (L := [_]) M ?_; clear M; intro zx w1 M) | refine wl M ?_ | refine wlg M ?_ | (refine ws M ?_; clear M; intro w M) | (refine wsc M ?_; clear M; intro w M) | (refine wV M ?_; clear M; intro z w M) | (refine wR M ?_; clear M; intro q w M) | refine o_skipT ?_ | refine o_skipF ?_)) | (go_at_call 14; with_reducible refine (HC.out _ M.new).mono ?_; rintro e w5 ⟨rfl, hb5⟩; replace M := M.below hb5; clear hb5))
  go_ret2
  rw [HV.out]
  exact ⟨rfl, M.new⟩
set_option maxRecDepth 8000 in
set_option maxHeartbeats 16000000 in
theorem takenBy_norule (hg : g < w0.heap.size) (b : Bok) (a1 : Option Addr) (n1 c1 : Nat) (a2 : Option Addr) (n2 c2 : Nat) (X1 : SlF F w0 2 typF a1 n1 c1 b.types) (X2 : SlF F w0 7 rulF a2 n2 c2 b.rules) (hts : ∀ t ∈ b.types, typOk t) (hrs : ∀ x ∈ b.rules, RulFit x) (x : Eve) (px : Option Addr) (qx rx : Nat) (hxv : SlF F3 w0 3 (plainF valC) px qx rx x.vals) (hxo : eveOk x) (a3 : Option Addr) (n3 c3 : Nat) (known : List Eve) (X3 : SlF F3 w0 5 eveF a3 n3 c3 known) (hko : ∀ y ∈ known, eveOk y) (rule part k : Int) (h0 : bookE b = 0) (hr : ¬ (0 ≤ rule ∧ rule < b.rules.length) ∨ ¬ (0 ≤ part ∧ part ≤ 2)) : Calls Tryd.prog 6 #[.agg #[.slice a1 n1 c1, .slice a2 n2 c2], .int .i64 rule, .int .i64 part, .int .i64 k, .agg #[.int .i64 x.e.number, .int .i64 x.e.type, .int .i64 x.e.start, .int .i64 x.e.stop, .slice px qx rx], .slice a3 n3 c3] w0 fun e w' => e = .returned (.tuple #[.bool (takesE b rule part k x known).1, .int .i64 (takesE b rule part k x known).2]) ∧ Below w0.heap.size w0 w' := by
  have M := Mem.begin hg ⟨0, 0⟩
  have HC : Hid (∀ wx, Below w0.heap.size w0 wx → Calls Tryd.prog 14 #[.agg #[.slice a1 n1 c1, .slice a2 n2 c2]] wx fun e w' => e = .returned (.int .i64 (bookE b)) ∧ Below wx.heap.size wx w') := fun wx hb => bookFault_any (Nat.lt_of_lt_of_le hg hb.size) b a1 n1 c1 a2 n2 c2 (X1.below typF_firm hb) (X2.below rulF_firm hb) hts (fun x hx => (hrs x hx).ok)
  have HV : Hid (takesE b rule part k x known = (false, 2)) := by
    by_cases h : 0 ≤ rule ∧ rule < b.rules.length
    · have hrl : rule.toNat < b.rules.length := by omega
      show _ = _
      rw [takes_e3 h0 h hrl]
      exact takesR_bad (fun hk => hr.elim (fun g => g h) (fun g => g (part_in hk)))
    · exact takes_e2 h0 h
  have N2 := X2.len
  rw [h0] at HC
  generalize takesE b rule part k x known = T at HV ⊢
  have hle2 := X2.le
  by_cases h : 0 ≤ rule ∧ rule < b.rules.length
  · have HI1 : inB rule 0 ((n2 : Int) - 1) = true := by unfold inB; simp; omega
    have HI2 : inB part 0 2 = false := by unfold inB; have := hr.resolve_left (fun g => g h); simp; omega
    replace HI1 := Lib.hid HI1
    replace HI2 := Lib.hid HI2
    clear h0 hr h N2 X1 X2 X3 hts hrs hxv hxo hko hg
    go_enter Tryd.func6, Tryd.ntmps6
    go_wp2_with (first | (with_reducible (first | (refine wB (L := []) M ?_; clear M; intro za w1 M) | (refine wB (L := [_]) M ?_; clear M; intro zx w1 M) | refine wl M ?_ | refine wlg M ?_ | (refine ws M ?_; clear M; intro w M) | (refine wsc M ?_; clear M; intro w M) | (refine wV M ?_; clear M; intro z w M) | (refine wR M ?_; clear M; intro q w M) | refine o_skipT ?_ | refine o_skipF ?_)) | (go_at_call 14; with_reducible refine (HC.out _ M.new).mono ?_; rintro e w5 ⟨rfl, hb5⟩; replace M := M.below hb5; clear hb5) | (go_at_call 15; with_reducible refine (inB_is _ _ _ _ HI1.out _).mono ?_; rintro e w4 ⟨rfl, hw4⟩; replace hw4 := hw4.symm; subst hw4) | (go_at_call 15; with_reducible refine (inB_is _ _ _ _ HI2.out _).mono ?_; rintro e w4 ⟨rfl, hw4⟩; replace hw4 := hw4.symm; subst hw4))
    go_ret2
    rw [HV.out]
    exact ⟨rfl, M.new⟩
  · have HI1 : inB rule 0 ((n2 : Int) - 1) = false := by unfold inB; simp; omega
    replace HI1 := Lib.hid HI1
    clear h0 hr h N2 X1 X2 X3 hts hrs hxv hxo hko hg
    go_enter Tryd.func6, Tryd.ntmps6
    go_wp2_with (first | (with_reducible (first | (refine wB (L := []) M ?_; clear M; intro za w1 M) | (refine wB (L := [_]) M ?_; clear M; intro zx w1 M) | refine wl M ?_ | refine wlg M ?_ | (refine ws M ?_; clear M; intro w M) | (refine wsc M ?_; clear M; intro w M) | (refine wV M ?_; clear M; intro z w M) | (refine wR M ?_; clear M; intro q w M) | refine o_skipT ?_ | refine o_skipF ?_)) | (go_at_call 14; with_reducible refine (HC.out _ M.new).mono ?_; rintro e w5 ⟨rfl, hb5⟩; replace M := M.below hb5; clear hb5) | (go_at_call 15; with_reducible refine (inB_is _ _ _ _ HI1.out _).mono ?_; rintro e w4 ⟨rfl, hw4⟩; replace hw4 := hw4.symm; subst hw4))
    go_ret2
    rw [HV.out]
    exact ⟨rfl, M.new⟩
set_option maxRecDepth 8000 in
set_option maxHeartbeats 16000000 in
theorem takenBy_main (hg : g < w0.heap.size) (b : Bok) (a1 : Option Addr) (n1 c1 : Nat) (a2 : Option Addr) (n2 c2 : Nat) (X1 : SlF F w0 2 typF a1 n1 c1 b.types) (X2 : SlF F w0 7 rulF a2 n2 c2 b.rules) (hts : ∀ t ∈ b.types, typOk t) (hrs : ∀ x ∈ b.rules, RulFit x) (x : Eve) (px : Option Addr) (qx rx : Nat) (hxv : SlF F3 w0 3 (plainF valC) px qx rx x.vals) (hxo : eveOk x) (a3 : Option Addr) (n3 c3 : Nat) (known : List Eve) (X3 : SlF F3 w0 5 eveF a3 n3 c3 known) (hko : ∀ y ∈ known, eveOk y) (rule part k : Int) (h0 : bookE b = 0) (hr : 0 ≤ rule ∧ rule < b.rules.length) (hp : 0 ≤ part ∧ part ≤ 2) : Calls Tryd.prog 6 #[.agg #[.slice a1 n1 c1, .slice a2 n2 c2], .int .i64 rule, .int .i64 part, .int .i64 k, .agg #[.int .i64 x.e.number, .int .i64 x.e.type, .int .i64 x.e.start, .int .i64 x.e.stop, .slice px qx rx], .slice a3 n3 c3] w0 fun e w' => e = .returned (.tuple #[.bool (takesE b rule part k x known).1, .int .i64 (takesE b rule part k x known).2]) ∧ Below w0.heap.size w0 w' := by
  have M := Mem.begin hg ⟨0, 0⟩
  have HC : Hid (∀ wx, Below w0.heap.size w0 wx → Calls Tryd.prog 14 #[.agg #[.slice a1 n1 c1, .slice a2 n2 c2]] wx fun e w' => e = .returned (.int .i64 (bookE b)) ∧ Below wx.heap.size wx w') := fun wx hb => bookFault_any (Nat.lt_of_lt_of_le hg hb.size) b a1 n1 c1 a2 n2 c2 (X1.below typF_firm hb) (X2.below rulF_firm hb) hts (fun x hx => (hrs x hx).ok)
  have hrl : rule.toNat < b.rules.length := by omega
  have HTE := takes_e3 (part := part) (k := k) (x := x) (known := known) h0 hr hrl
  have N2 := X2.len
  have hle2 := X2.le
  have HI1 : Hid (inB rule 0 ((n2 : Int) - 1) = true) := by show _ = _; unfold inB; simp; omega
  have HI2 : Hid (inB part 0 2 = true) := by show _ = _; unfold inB; simp; omega
  have hrz := rule_zero h0 hrl
  have hro := hrs _ (List.getElem_mem hrl)
  obtain ⟨cr, or, rowr, hixr, -, hrrr, hwr⟩ := SlF.rowAt (P := Tryd.prog) X2 rulF_firm Tryd.underlying23 size_rul (i := rule.toNat) hrl
  rw [show ((rule.toNat : Nat) : Int) = rule from Int.toNat_of_nonneg hr.1] at hixr
  obtain ⟨b1, m1, e1, b2, m2, e2, b3, m3, e3, b4, m4, e4, b6, m6, e6, er, Y1, Y2, Y3, -, -⟩ := hrrr
  subst er
  have HR : Hid (∀ wx, Below w0.heap.size w0 wx → wx.rangeAt cr or [.string b.rules[rule.toNat].name, .slice b1 m1 e1, .slice b2 m2 e2, .slice b3 m3 e3, .slice b4 m4 e4, .string b.rules[rule.toNat].etype, .slice b6 m6 e6]) := fun wx hb => (hwr wx hb).1
  have hsm : b.rules[rule.toNat].manies.length ≤ 100000 := man_few hrz
  have hwf : b.rules[rule.toNat].whens.length ≤ 100000 := when_few hrz
  have hnf : b.rules[rule.toNat].nots.length ≤ 100000 := not_few hrz
  have hpl : (partL b.rules[rule.toNat] part).length ≤ 100000 := by
    unfold partL
    split
    · exact hwf
    · split
      · exact hnf
      · split
        · simpa using hsm
        · simp
  rw [h0] at HC
  have HPT : Hid (0 ≤ part ∧ part ≤ 2) := hp
  have HX1 := Lib.hid X1
  have HX3 := Lib.hid X3
  have HXV := Lib.hid hxv
  have HY1 := Lib.hid Y1
  have HY2 := Lib.hid Y2
  have HY3 := Lib.hid Y3
  have HFW1 := Lib.hid hwf
  have HFW2 := Lib.hid hnf
  have HFW3 := Lib.hid hsm
  have HT := Lib.hid (fun wx (hb : Below w0.heap.size w0 wx) => typ_R (X1.below typF_firm hb) hts)
  have HTS := Lib.hid hts
  have HKO := Lib.hid hko
  have HXO := Lib.hid hxo
  have HVB : Hid (¬ (0 ≤ k ∧ k < (partL b.rules[rule.toNat] part).length) → takesE b rule part k x known = (false, 2)) := fun hk => HTE.trans (takesR_bad hk)
  have hle3 := X3.le
  have HNK : Hid (n3 = known.length) := X3.len
  have HTG : Hid ((0 ≤ k ∧ k < (partL b.rules[rule.toNat] part).length) → ∀ P : Pat, P = (partL b.rules[rule.toNat] part).getD k.toNat pat0 → EvGood b.types x → (∀ i (hi : i < known.length), EvGood b.types known[i]) → (known.length : Int) = (if part = 0 then k else (b.rules[rule.toNat].whens.length : Int)) → AllZ (misE b.types b.rules[rule.toNat].whens known) known.length → sameS (evT b.types x).name P.type = true → HoldGood b.types b.rules[rule.toNat].whens known x 8 P.wher) := fun hk P hP h1 h2 h3 h4 h5 => by
    subst hP
    have hkl : k.toNat < (partL b.rules[rule.toNat] part).length := by omega
    exact takes_good h0 hrl hp hkl h1 h2 (by rw [h3]; by_cases p0 : part = 0 <;> simp [p0] <;> omega) h4 h5
  have HLE : Hid ((0 ≤ k ∧ k < (partL b.rules[rule.toNat] part).length) → (known.length : Int) = (if part = 0 then k else (b.rules[rule.toNat].whens.length : Int)) → known.length ≤ b.rules[rule.toNat].whens.length) := fun hk h => by
    by_cases p0 : part = 0
    · rw [if_pos p0] at h
      have := hk.2
      unfold partL at this
      rw [if_pos p0] at this
      omega
    · rw [if_neg p0] at h; omega
  have HVE : Hid ((0 ≤ k ∧ k < (partL b.rules[rule.toNat] part).length) → ∀ {j : Nat}, AllZ (evE b.types (x :: known)) j → j < known.length + 1 → ∀ {e : Int}, evE b.types (x :: known) j = e → e ≠ 0 → takesE b rule part k x known = (false, e)) := fun hk => fun hz hj e he hn => HTE.trans (takesR_ev hk hz hj he hn)
  have HVF : Hid ((0 ≤ k ∧ k < (partL b.rules[rule.toNat] part).length) → AllZ (evE b.types (x :: known)) (known.length + 1) → (known.length : Int) ≠ (if part = 0 then k else (b.rules[rule.toNat].whens.length : Int)) → takesE b rule part k x known = (false, 4)) := fun hk hz hf => HTE.trans (takesR_form hk hz hf)
  have HVM : Hid ((0 ≤ k ∧ k < (partL b.rules[rule.toNat] part).length) → AllZ (evE b.types (x :: known)) (known.length + 1) → (known.length : Int) = (if part = 0 then k else (b.rules[rule.toNat].whens.length : Int)) → ∀ {j : Nat}, AllZ (misE b.types b.rules[rule.toNat].whens known) j → j < known.length → misE b.types b.rules[rule.toNat].whens known j = 13 → takesE b rule part k x known = (false, 13)) := fun hk => fun hz hf j hm hj he => HTE.trans (takesR_mis hk hz hf hm hj he)
  have HVN : Hid ((0 ≤ k ∧ k < (partL b.rules[rule.toNat] part).length) → AllZ (evE b.types (x :: known)) (known.length + 1) → (known.length : Int) = (if part = 0 then k else (b.rules[rule.toNat].whens.length : Int)) → AllZ (misE b.types b.rules[rule.toNat].whens known) known.length → takesE b rule part k x known = (takenB b.types b.rules[rule.toNat].whens known x ((partL b.rules[rule.toNat] part).getD k.toNat pat0), 0)) := fun hk hz hf hm => HTE.trans (takesR_end hk hz hf hm)
  generalize takesE b rule part k x known = T at HVB HVE HVF HVM HVN ⊢
  obtain ⟨L, hL⟩ : ∃ L, L = partL b.rules[rule.toNat] part := ⟨_, rfl⟩
  rw [← hL] at HTG HLE HVB HVE HVF HVM HVN hpl
  have HLL := Lib.hid hL
  generalize b.rules[rule.toNat] = R at *
  replace hg := Lib.hid hg
  clear HTE h0 hr hp hL N2 hrz hro hwr Y1 Y2 Y3 hsm hwf hnf hrl X1 X2 X3 hts hrs hxv hxo hko
  go_enter Tryd.func6, Tryd.ntmps6
  go_upto_block 0 with (first | (with_reducible (first | (refine wB (L := []) M ?_; clear M; intro za w1 M) | (refine wB (L := [_]) M ?_; clear M; intro zx w1 M) | (refine wV M ?_; clear M; intro zr w M) | refine wl M ?_ | refine wlg M ?_ | (refine ws M ?_; clear M; intro w M) | (refine wsc M ?_; clear M; intro w M) | (refine wV M ?_; clear M; intro z w M) | (refine wR M ?_; clear M; intro q w M) | refine o_skipT ?_ | refine o_skipF ?_ | refine wA (HR.out _ M.new) ?_)) | ((with_reducible refine o_list rfl fun K hK => ?_); refine q_in M (by rfl) (by rfl) (by rfl) ?_; clear M; intro w M; (try simp only [List.set_cons_zero, List.set_cons_succ, laid, opdC, List.take_succ_cons, List.take_zero, List.drop_succ_cons, List.drop_zero, List.length_cons, List.length_nil, List.cons_append, List.nil_append, Nat.reduceAdd, Nat.zero_add] at M); refine hK _ _ ?_; clear hK K) | (go_at_call 14; with_reducible refine (HC.out _ M.new).mono ?_; rintro e w5 ⟨rfl, hb5⟩; replace M := M.below hb5; clear hb5) | (go_at_call 15; with_reducible refine (inB_is _ _ _ _ HI1.out _).mono ?_; rintro e w4 ⟨rfl, hw4⟩; replace hw4 := hw4.symm; subst hw4) | (go_at_call 15; with_reducible refine (inB_is _ _ _ _ HI2.out _).mono ?_; rintro e w4 ⟨rfl, hw4⟩; replace hw4 := hw4.symm; subst hw4))
  replace M := M.none_ (R := rawF) rawF_firm 50 18
  go_cut [16, 17] (fun vv i wx => ∃ (rows : List (List Value)) (ra : Option Addr) (rc : Nat), vv = .slice ra rows.length rc ∧ Mem (StaysB g w0) g w0 wx ⟨0, 0⟩ (slc w0.heap.size 50 18 rawF (.slice ra rows.length rc) rows :: own zr [.string R.name, .slice b1 m1 e1, .slice b2 m2 e2, .slice b3 m3 e3, .slice b4 m4 e4, .string R.etype, .slice b6 m6 e6] 60 :: own zx [.int .i64 x.e.number, .int .i64 x.e.type, .int .i64 x.e.start, .int .i64 x.e.stop, .slice px qx rx] 30 :: own za [.slice a1 n1 c1, .slice a2 n2 c2] 25 :: []) ∧ Hid (rows.length = fillN L part 0 ∧ PatRows F w0 L rows))
  case first =>
    by_cases hp : part = 0
    · subst hp
      have HL : Hid (L = R.whens) := by show _ = _; rw [HLL.out]; rfl
      have NL : Hid (m1 = R.whens.length) := HY1.out.len
      have hleY := HY1.out.le
      go_wp2_with fail
      go_loopg [16, 17] m1 (fun f vv i wr => ∃ (j : Nat) (rows : List (List Value)) (ra : Option Addr) (rc : Nat), j + f = m1 ∧ rows.length = j ∧ vv = .slice ra rows.length rc ∧ i = .int .i64 j ∧ Mem (StaysB g w0) g w0 wr ⟨0, 0⟩ (slc w0.heap.size 50 18 rawF (.slice ra rows.length rc) rows :: own zr [.string R.name, .slice b1 m1 e1, .slice b2 m2 e2, .slice b3 m3 e3, .slice b4 m4 e4, .string R.etype, .slice b6 m6 e6] 60 :: own zx [.int .i64 x.e.number, .int .i64 x.e.type, .int .i64 x.e.start, .int .i64 x.e.stop, .slice px qx rx] 30 :: own za [.slice a1 n1 c1, .slice a2 n2 c2] 25 :: []) ∧ Hid (PatRows F w0 L rows))
      case atStart => exact ⟨0, [], _, _, by omega, rfl, rfl, rfl, M, fun i hi => absurd hi (Nat.not_lt_zero i)⟩
      case round =>
        clear M
        obtain ⟨j, rows, ra, rc, hj, hrl, rfl, rfl, M, HPR⟩ := hrel
        by_cases hlt : j < m1
        · have hkl : j < R.whens.length := by have := NL.out; omega
          obtain ⟨ct, ot, rowt, hixt, -, hrrt, hwt⟩ := SlF.rowAt (P := Tryd.prog) HY1.out patF_firm Tryd.underlying53 size_pat (i := j) hkl
          obtain ⟨p1, q1, s1, et, ut⟩ := hrrt
          subst et
          have HRR := Lib.hid (fun wx (hb : Below w0.heap.size w0 wx) => (hwt wx hb).1)
          have hlen : Hid (rows.length ≤ 100000) := by have := HFW1.out; show _ ≤ _; omega
          have HPN : Hid (PatRows F w0 L (rows ++ [patC R.whens[j] p1 q1 s1])) := patRows_snoc HPR.out (by rw [hrl, HL.out]; simp [List.getElem?_eq_getElem hkl]) ⟨p1, q1, s1, rfl, ut⟩
          clear hwt HPR ut
          generalize R.whens[j] = y at HRR HPN
          clear hkl
          unfold patC cndC opdC at HRR
          unfold patC cndC opdC at HPN
          simp only [List.cons_append, List.nil_append] at HRR HPN
          go_wp2_with (first | (with_reducible (first | refine wl M ?_ | refine wlg M ?_ | (refine ws M ?_; clear M; intro w M) | (refine wsc M ?_; clear M; intro w M) | (refine wV M ?_; clear M; intro z w M) | (refine wR M ?_; clear M; intro q w M) | refine o_skipT ?_ | refine o_skipF ?_ | refine wA (HRR.out _ M.new) ?_)) | ((with_reducible refine o_list rfl fun K hK => ?_); (refine q_app (R := rawF) rawF_firm M 1 rfl [.string y.var, .string y.type, .int .i64 y.wher.kind, .slice p1 q1 s1, .int .i64 y.wher.left.kind, .int .i64 y.wher.left.vkind, .int .i64 y.wher.left.vint, .string y.wher.left.vtext, .string y.wher.left.var, .string y.wher.left.field, .int .i64 y.wher.right.kind, .int .i64 y.wher.right.vkind, .int .i64 y.wher.right.vint, .string y.wher.right.vtext, .string y.wher.right.var, .string y.wher.right.field, .int .i64 y.window, .int .i64 y.n] (rawF_mk _ _ _) (by rfl) (by rfl) hlen.out ?_; clear M; intro ra2 rc2 w M; (try simp only [List.set_cons_zero, List.set_cons_succ] at M)); (refine hK _ _ ?_); clear hK K))
          go_roundg (m1 - (j + 1))
          case measure => omega
          case rel => exact ⟨j + 1, _, _, _, by omega, by rw [List.length_append, hrl]; rfl, by rw [List.length_append]; rfl, by go_num, by (have M2 := M.drop); (rw [List.length_append]; exact M2), HPN⟩
        · have hjm : j = m1 := by omega
          have HPF2 : Hid (rows.length = fillN L 0 0 ∧ PatRows F w0 L rows) := ⟨by rw [hrl, hjm, NL.out]; unfold fillN; rw [if_pos (Int.le_refl _), HL.out], HPR.out⟩
          clear hjm hrl HPR
          go_wp2_with (first | (with_reducible (first | refine wl M ?_ | refine wlg M ?_ | (refine ws M ?_; clear M; intro w M) | (refine wsc M ?_; clear M; intro w M) | (refine wV M ?_; clear M; intro z w M) | (refine wR M ?_; clear M; intro q w M) | refine o_skipT ?_ | refine o_skipF ?_)))
          all_goals
            go_meet
            case rel => exact ⟨rows, ra, rc, rfl, M, HPF2⟩
    · have hpb : (part == 0) = false := by simpa using hp
      have HPF2 : Hid ((([] : List (List Value))).length = fillN L part 0 ∧ PatRows F w0 L ([] : List (List Value))) := ⟨by have := HPT.out; unfold fillN; rw [if_neg (by omega)]; rfl, fun i hi => absurd hi (Nat.not_lt_zero i)⟩
      clear hp
      go_wp2_with fail
      go_loopg [16, 17] 0 (fun f vv i wr => vv = .slice none 0 0 ∧ i = .int .i64 0 ∧ Mem (StaysB g w0) g w0 wr ⟨0, 0⟩ (slc w0.heap.size 50 18 rawF (.slice none 0 0) ([] : List (List Value)) :: own zr [.string R.name, .slice b1 m1 e1, .slice b2 m2 e2, .slice b3 m3 e3, .slice b4 m4 e4, .string R.etype, .slice b6 m6 e6] 60 :: own zx [.int .i64 x.e.number, .int .i64 x.e.type, .int .i64 x.e.start, .int .i64 x.e.stop, .slice px qx rx] 30 :: own za [.slice a1 n1 c1, .slice a2 n2 c2] 25 :: []))
      case atStart => exact ⟨rfl, rfl, M⟩
      case round =>
        clear M
        obtain ⟨rfl, rfl, M⟩ := hrel
        go_wp2_with (first | (with_reducible (first | refine wl M ?_ | refine wlg M ?_ | (refine ws M ?_; clear M; intro w M) | (refine wsc M ?_; clear M; intro w M) | (refine wV M ?_; clear M; intro z w M) | (refine wR M ?_; clear M; intro q w M) | refine o_skipT ?_ | refine o_skipF ?_)))
        all_goals
          go_meet
          case rel => exact ⟨[], none, 0, rfl, M, HPF2⟩
  case rest =>
  clear M
  obtain ⟨rows, ra, rc, rfl, M, HPR⟩ := hcut
  go_upto_block 2 with (first | (with_reducible (first | refine wl M ?_ | refine wlg M ?_ | (refine ws M ?_; clear M; intro w M) | (refine wsc M ?_; clear M; intro w M) | (refine wV M ?_; clear M; intro z w M) | (refine wR M ?_; clear M; intro q w M) | refine o_skipT ?_ | refine o_skipF ?_)))
  go_cut [16, 18] (fun vv i wx => ∃ (rows : List (List Value)) (ra : Option Addr) (rc : Nat), vv = .slice ra rows.length rc ∧ Mem (StaysB g w0) g w0 wx ⟨0, 0⟩ (slc w0.heap.size 50 18 rawF (.slice ra rows.length rc) rows :: own zr [.string R.name, .slice b1 m1 e1, .slice b2 m2 e2, .slice b3 m3 e3, .slice b4 m4 e4, .string R.etype, .slice b6 m6 e6] 60 :: own zx [.int .i64 x.e.number, .int .i64 x.e.type, .int .i64 x.e.start, .int .i64 x.e.stop, .slice px qx rx] 30 :: own za [.slice a1 n1 c1, .slice a2 n2 c2] 25 :: []) ∧ Hid (rows.length = fillN L part 1 ∧ PatRows F w0 L rows))
  case first =>
    by_cases hp : part = 1
    · subst hp
      have HL : Hid (L = R.nots) := by show _ = _; rw [HLL.out]; rfl
      have NL : Hid (m2 = R.nots.length) := HY2.out.len
      have hleY := HY2.out.le
      have hr0 : rows = [] := List.length_eq_zero_iff.1 (HPR.out.1.trans (by unfold fillN; rw [if_neg (by decide)]))
      subst hr0
      go_wp2_with fail
      go_loopg [16, 18] m2 (fun f vv i wr => ∃ (j : Nat) (rows : List (List Value)) (ra : Option Addr) (rc : Nat), j + f = m2 ∧ rows.length = j ∧ vv = .slice ra rows.length rc ∧ i = .int .i64 j ∧ Mem (StaysB g w0) g w0 wr ⟨0, 0⟩ (slc w0.heap.size 50 18 rawF (.slice ra rows.length rc) rows :: own zr [.string R.name, .slice b1 m1 e1, .slice b2 m2 e2, .slice b3 m3 e3, .slice b4 m4 e4, .string R.etype, .slice b6 m6 e6] 60 :: own zx [.int .i64 x.e.number, .int .i64 x.e.type, .int .i64 x.e.start, .int .i64 x.e.stop, .slice px qx rx] 30 :: own za [.slice a1 n1 c1, .slice a2 n2 c2] 25 :: []) ∧ Hid (PatRows F w0 L rows))
      case atStart => exact ⟨0, [], _, _, by omega, rfl, rfl, rfl, M, fun i hi => absurd hi (Nat.not_lt_zero i)⟩
      case round =>
        clear M HPR
        obtain ⟨j, rows, ra, rc, hj, hrl, rfl, rfl, M, HPR⟩ := hrel
        by_cases hlt : j < m2
        · have hkl : j < R.nots.length := by have := NL.out; omega
          obtain ⟨ct, ot, rowt, hixt, -, hrrt, hwt⟩ := SlF.rowAt (P := Tryd.prog) HY2.out patF_firm Tryd.underlying53 size_pat (i := j) hkl
          obtain ⟨p1, q1, s1, et, ut⟩ := hrrt
          subst et
          have HRR := Lib.hid (fun wx (hb : Below w0.heap.size w0 wx) => (hwt wx hb).1)
          have hlen : Hid (rows.length ≤ 100000) := by have := HFW2.out; show _ ≤ _; omega
          have HPN : Hid (PatRows F w0 L (rows ++ [patC R.nots[j] p1 q1 s1])) := patRows_snoc HPR.out (by rw [hrl, HL.out]; simp [List.getElem?_eq_getElem hkl]) ⟨p1, q1, s1, rfl, ut⟩
          clear hwt HPR ut
          generalize R.nots[j] = y at HRR HPN
          clear hkl
          unfold patC cndC opdC at HRR
          unfold patC cndC opdC at HPN
          simp only [List.cons_append, List.nil_append] at HRR HPN
          go_wp2_with (first | (with_reducible (first | refine wl M ?_ | refine wlg M ?_ | (refine ws M ?_; clear M; intro w M) | (refine wsc M ?_; clear M; intro w M) | (refine wV M ?_; clear M; intro z w M) | (refine wR M ?_; clear M; intro q w M) | refine o_skipT ?_ | refine o_skipF ?_ | refine wA (HRR.out _ M.new) ?_)) | ((with_reducible refine o_list rfl fun K hK => ?_); (refine q_app (R := rawF) rawF_firm M 1 rfl [.string y.var, .string y.type, .int .i64 y.wher.kind, .slice p1 q1 s1, .int .i64 y.wher.left.kind, .int .i64 y.wher.left.vkind, .int .i64 y.wher.left.vint, .string y.wher.left.vtext, .string y.wher.left.var, .string y.wher.left.field, .int .i64 y.wher.right.kind, .int .i64 y.wher.right.vkind, .int .i64 y.wher.right.vint, .string y.wher.right.vtext, .string y.wher.right.var, .string y.wher.right.field, .int .i64 y.window, .int .i64 y.n] (rawF_mk _ _ _) (by rfl) (by rfl) hlen.out ?_; clear M; intro ra2 rc2 w M; (try simp only [List.set_cons_zero, List.set_cons_succ] at M)); (refine hK _ _ ?_); clear hK K))
          go_roundg (m2 - (j + 1))
          case measure => omega
          case rel => exact ⟨j + 1, _, _, _, by omega, by rw [List.length_append, hrl]; rfl, by rw [List.length_append]; rfl, by go_num, by (have M2 := M.drop); (rw [List.length_append]; exact M2), HPN⟩
        · have hjm : j = m2 := by omega
          have HPF2 : Hid (rows.length = fillN L 1 1 ∧ PatRows F w0 L rows) := ⟨by rw [hrl, hjm, NL.out]; unfold fillN; rw [if_pos (Int.le_refl _), HL.out], HPR.out⟩
          clear hjm hrl HPR
          go_wp2_with (first | (with_reducible (first | refine wl M ?_ | refine wlg M ?_ | (refine ws M ?_; clear M; intro w M) | (refine wsc M ?_; clear M; intro w M) | (refine wV M ?_; clear M; intro z w M) | (refine wR M ?_; clear M; intro q w M) | refine o_skipT ?_ | refine o_skipF ?_)))
          all_goals
            go_meet
            case rel => exact ⟨rows, ra, rc, rfl, M, HPF2⟩
    · have hpb : (part == 1) = false := by simpa using hp
      have HPF2 : Hid ((rows).length = fillN L part 1 ∧ PatRows F w0 L rows) := ⟨HPR.out.1.trans (by have := HPT.out; unfold fillN; by_cases q : part ≤ 0 <;> by_cases q2 : part ≤ 1 <;> simp [q, q2] <;> omega), HPR.out.2⟩
      clear hp HPR
      go_wp2_with fail
      go_loopg [16, 18] 0 (fun f vv i wr => vv = .slice ra rows.length rc ∧ i = .int .i64 0 ∧ Mem (StaysB g w0) g w0 wr ⟨0, 0⟩ (slc w0.heap.size 50 18 rawF (.slice ra rows.length rc) rows :: own zr [.string R.name, .slice b1 m1 e1, .slice b2 m2 e2, .slice b3 m3 e3, .slice b4 m4 e4, .string R.etype, .slice b6 m6 e6] 60 :: own zx [.int .i64 x.e.number, .int .i64 x.e.type, .int .i64 x.e.start, .int .i64 x.e.stop, .slice px qx rx] 30 :: own za [.slice a1 n1 c1, .slice a2 n2 c2] 25 :: []))
      case atStart => exact ⟨rfl, rfl, M⟩
      case round =>
        clear M
        obtain ⟨rfl, rfl, M⟩ := hrel
        go_wp2_with (first | (with_reducible (first | refine wl M ?_ | refine wlg M ?_ | (refine ws M ?_; clear M; intro w M) | (refine wsc M ?_; clear M; intro w M) | (refine wV M ?_; clear M; intro z w M) | (refine wR M ?_; clear M; intro q w M) | refine o_skipT ?_ | refine o_skipF ?_)))
        all_goals
          go_meet
          case rel => exact ⟨rows, ra, rc, rfl, M, HPF2⟩
  case rest =>
  clear M
  obtain ⟨rows, ra, rc, rfl, M, HPR⟩ := hcut
  go_upto_block 4 with (first | (with_reducible (first | refine wl M ?_ | refine wlg M ?_ | (refine ws M ?_; clear M; intro w M) | (refine wsc M ?_; clear M; intro w M) | (refine wV M ?_; clear M; intro z w M) | (refine wR M ?_; clear M; intro q w M) | refine o_skipT ?_ | refine o_skipF ?_)))
  go_cut [16, 19] (fun vv i wx => ∃ (rows : List (List Value)) (ra : Option Addr) (rc : Nat), vv = .slice ra rows.length rc ∧ Mem (StaysB g w0) g w0 wx ⟨0, 0⟩ (slc w0.heap.size 50 18 rawF (.slice ra rows.length rc) rows :: own zr [.string R.name, .slice b1 m1 e1, .slice b2 m2 e2, .slice b3 m3 e3, .slice b4 m4 e4, .string R.etype, .slice b6 m6 e6] 60 :: own zx [.int .i64 x.e.number, .int .i64 x.e.type, .int .i64 x.e.start, .int .i64 x.e.stop, .slice px qx rx] 30 :: own za [.slice a1 n1 c1, .slice a2 n2 c2] 25 :: []) ∧ Hid (rows.length = fillN L part 2 ∧ PatRows F w0 L rows))
  case first =>
    by_cases hp : part = 2
    · subst hp
      have HL : Hid (L = R.manies.map Many.pat) := by show _ = _; rw [HLL.out]; rfl
      have NL : Hid (m3 = R.manies.length) := HY3.out.len
      have hleY := HY3.out.le
      have hr0 : rows = [] := List.length_eq_zero_iff.1 (HPR.out.1.trans (by unfold fillN; rw [if_neg (by decide)]))
      subst hr0
      go_wp2_with fail
      go_loopg [16, 19] m3 (fun f vv i wr => ∃ (j : Nat) (rows : List (List Value)) (ra : Option Addr) (rc : Nat), j + f = m3 ∧ rows.length = j ∧ vv = .slice ra rows.length rc ∧ i = .int .i64 j ∧ Mem (StaysB g w0) g w0 wr ⟨0, 0⟩ (slc w0.heap.size 50 18 rawF (.slice ra rows.length rc) rows :: own zr [.string R.name, .slice b1 m1 e1, .slice b2 m2 e2, .slice b3 m3 e3, .slice b4 m4 e4, .string R.etype, .slice b6 m6 e6] 60 :: own zx [.int .i64 x.e.number, .int .i64 x.e.type, .int .i64 x.e.start, .int .i64 x.e.stop, .slice px qx rx] 30 :: own za [.slice a1 n1 c1, .slice a2 n2 c2] 25 :: []) ∧ Hid (PatRows F w0 L rows))
      case atStart => exact ⟨0, [], _, _, by omega, rfl, rfl, rfl, M, fun i hi => absurd hi (Nat.not_lt_zero i)⟩
      case round =>
        clear M HPR
        obtain ⟨j, rows, ra, rc, hj, hrl, rfl, rfl, M, HPR⟩ := hrel
        by_cases hlt : j < m3
        · have hkl : j < R.manies.length := by have := NL.out; omega
          obtain ⟨ct, ot, rowt, hixt, -, hrrt, hwt⟩ := SlF.rowAt (P := Tryd.prog) HY3.out manF_firm Tryd.underlying54 size_man (i := j) hkl
          obtain ⟨p1, q1, s1, et, ut⟩ := hrrt
          subst et
          have HRR := Lib.hid (fun wx (hb : Below w0.heap.size w0 wx) => range_sub (hwt wx hb).1 2 (patC R.manies[j].pat p1 q1 s1) rfl)
          have hlen : Hid (rows.length ≤ 100000) := by have := HFW3.out; show _ ≤ _; omega
          have HPN : Hid (PatRows F w0 L (rows ++ [patC R.manies[j].pat p1 q1 s1])) := patRows_snoc HPR.out (by rw [hrl, HL.out]; simp [List.getElem?_eq_getElem hkl]) ⟨p1, q1, s1, rfl, ut⟩
          clear hwt HPR ut
          generalize R.manies[j] = y at HRR HPN
          clear hkl
          unfold patC cndC opdC at HRR
          unfold patC cndC opdC at HPN
          simp only [List.cons_append, List.nil_append] at HRR HPN
          go_wp2_with (first | (with_reducible (first | refine wl M ?_ | refine wlg M ?_ | (refine ws M ?_; clear M; intro w M) | (refine wsc M ?_; clear M; intro w M) | (refine wV M ?_; clear M; intro z w M) | (refine wR M ?_; clear M; intro q w M) | refine o_skipT ?_ | refine o_skipF ?_ | refine wA (HRR.out _ M.new) ?_)) | ((with_reducible refine o_list rfl fun K hK => ?_); (refine q_app (R := rawF) rawF_firm M 1 rfl [.string y.pat.var, .string y.pat.type, .int .i64 y.pat.wher.kind, .slice p1 q1 s1, .int .i64 y.pat.wher.left.kind, .int .i64 y.pat.wher.left.vkind, .int .i64 y.pat.wher.left.vint, .string y.pat.wher.left.vtext, .string y.pat.wher.left.var, .string y.pat.wher.left.field, .int .i64 y.pat.wher.right.kind, .int .i64 y.pat.wher.right.vkind, .int .i64 y.pat.wher.right.vint, .string y.pat.wher.right.vtext, .string y.pat.wher.right.var, .string y.pat.wher.right.field, .int .i64 y.pat.window, .int .i64 y.pat.n] (rawF_mk _ _ _) (by rfl) (by rfl) hlen.out ?_; clear M; intro ra2 rc2 w M; (try simp only [List.set_cons_zero, List.set_cons_succ] at M)); (refine hK _ _ ?_); clear hK K))
          go_roundg (m3 - (j + 1))
          case measure => omega
          case rel => exact ⟨j + 1, _, _, _, by omega, by rw [List.length_append, hrl]; rfl, by rw [List.length_append]; rfl, by go_num, by (have M2 := M.drop); (rw [List.length_append]; exact M2), HPN⟩
        · have hjm : j = m3 := by omega
          have HPF2 : Hid (rows.length = fillN L 2 2 ∧ PatRows F w0 L rows) := ⟨by rw [hrl, hjm, NL.out]; unfold fillN; rw [if_pos (Int.le_refl _), HL.out, List.length_map], HPR.out⟩
          clear hjm hrl HPR
          go_wp2_with (first | (with_reducible (first | refine wl M ?_ | refine wlg M ?_ | (refine ws M ?_; clear M; intro w M) | (refine wsc M ?_; clear M; intro w M) | (refine wV M ?_; clear M; intro z w M) | (refine wR M ?_; clear M; intro q w M) | refine o_skipT ?_ | refine o_skipF ?_)))
          all_goals
            go_meet
            case rel => exact ⟨rows, ra, rc, rfl, M, HPF2⟩
    · have hpb : (part == 2) = false := by simpa using hp
      have HPF2 : Hid ((rows).length = fillN L part 2 ∧ PatRows F w0 L rows) := ⟨HPR.out.1.trans (by have := HPT.out; unfold fillN; by_cases q : part ≤ 1 <;> by_cases q2 : part ≤ 2 <;> simp [q, q2] <;> omega), HPR.out.2⟩
      clear hp HPR
      go_wp2_with fail
      go_loopg [16, 19] 0 (fun f vv i wr => vv = .slice ra rows.length rc ∧ i = .int .i64 0 ∧ Mem (StaysB g w0) g w0 wr ⟨0, 0⟩ (slc w0.heap.size 50 18 rawF (.slice ra rows.length rc) rows :: own zr [.string R.name, .slice b1 m1 e1, .slice b2 m2 e2, .slice b3 m3 e3, .slice b4 m4 e4, .string R.etype, .slice b6 m6 e6] 60 :: own zx [.int .i64 x.e.number, .int .i64 x.e.type, .int .i64 x.e.start, .int .i64 x.e.stop, .slice px qx rx] 30 :: own za [.slice a1 n1 c1, .slice a2 n2 c2] 25 :: []))
      case atStart => exact ⟨rfl, rfl, M⟩
      case round =>
        clear M
        obtain ⟨rfl, rfl, M⟩ := hrel
        go_wp2_with (first | (with_reducible (first | refine wl M ?_ | refine wlg M ?_ | (refine ws M ?_; clear M; intro w M) | (refine wsc M ?_; clear M; intro w M) | (refine wV M ?_; clear M; intro z w M) | (refine wR M ?_; clear M; intro q w M) | refine o_skipT ?_ | refine o_skipF ?_)))
        all_goals
          go_meet
          case rel => exact ⟨rows, ra, rc, rfl, M, HPF2⟩
  case rest =>
  clear M
  obtain ⟨rows, ra, rc, rfl, M, HPR⟩ := hcut
  have hln : rows.length = L.length := HPR.out.1.trans (by unfold fillN; rw [if_pos HPT.out.2])
  have hrb : rows.length ≤ 100000 := by omega
  by_cases hk : 0 ≤ k ∧ k < L.length
  rotate_left 1
  · have HV := Lib.hid (HVB.out hk)
    have HI3 : Hid (inB k 0 ((rows.length : Int) - 1) = false) := by show _ = _; unfold inB; rw [hln]; simp; omega
    clear HPR hk hln HVB HVE HVF HVM HVN HTG HLE
    go_wp2_with (first | (with_reducible (first | refine wl M ?_ | refine wlg M ?_ | (refine ws M ?_; clear M; intro w M) | (refine wsc M ?_; clear M; intro w M) | (refine wV M ?_; clear M; intro z w M) | (refine wR M ?_; clear M; intro q w M) | refine o_skipT ?_ | refine o_skipF ?_)) | (go_at_call 15; with_reducible refine (inB_is _ _ _ _ HI3.out _).mono ?_; rintro e w4 ⟨rfl, hw4⟩; replace hw4 := hw4.symm; subst hw4))
    go_ret2
    rw [HV.out]
    exact ⟨rfl, M.new⟩
  replace HTG := Lib.hid (HTG.out hk)
  replace HLE := Lib.hid (HLE.out hk)
  replace HVE : Hid (∀ {j : Nat}, AllZ (evE b.types (x :: known)) j → j < known.length + 1 → ∀ {e : Int}, evE b.types (x :: known) j = e → e ≠ 0 → T = (false, e)) := HVE.out hk
  replace HVF := Lib.hid (HVF.out hk)
  replace HVM : Hid (AllZ (evE b.types (x :: known)) (known.length + 1) → (known.length : Int) = (if part = 0 then k else (R.whens.length : Int)) → ∀ {j : Nat}, AllZ (misE b.types R.whens known) j → j < known.length → misE b.types R.whens known j = 13 → T = (false, 13)) := HVM.out hk
  replace HVN := Lib.hid (HVN.out hk)
  have HKK := Lib.hid hk
  clear HVB
  have HI3 : Hid (inB k 0 ((rows.length : Int) - 1) = true) := by have := HKK.out; show _ = _; unfold inB; rw [hln]; simp; omega
  have HLN := Lib.hid hln
  have HEX : Hid (∀ wx, Below w0.heap.size w0 wx → Calls Tryd.prog 16 #[.slice a1 n1 c1, .agg #[.int .i64 x.e.number, .int .i64 x.e.type, .int .i64 x.e.start, .int .i64 x.e.stop, .slice px qx rx]] wx fun e w' => e = .returned (.int .i64 (eventE b.types x.e x.vals)) ∧ Below wx.heap.size wx w') := fun wx hb => eventFault_any a1 n1 c1 b.types x.e px qx rx x.vals wx (HT.out wx hb) (val_R (HXV.out.below (plainF_firm _) hb) HXO.out)
  have HE0 : Hid (evE b.types (x :: known) 0 = eventE b.types x.e x.vals) := evE_at (by simp)
  generalize eventE b.types x.e x.vals = e0 at HEX HE0
  clear hln
  obtain ⟨ra, rc, hsl, M⟩ := M.done rawF_firm (by omega)
  injection hsl with h1 h2 h3
  subst h1 h3
  obtain ⟨w6, e6⟩ := M.world
  subst e6
  have hS := M.dat_ (i := 0) rfl
  have hb06 := M.new
  have hza : Own za [.slice a1 n1 c1, .slice a2 n2 c2] 25 w6 := M.own_ (by simp)
  have hzx : Own zx [.int .i64 x.e.number, .int .i64 x.e.type, .int .i64 x.e.start, .int .i64 x.e.stop, .slice px qx rx] 30 w6 := M.own_ (by simp)
  have hzr : Own zr [.string R.name, .slice b1 m1 e1, .slice b2 m2 e2, .slice b3 m3 e3, .slice b4 m4 e4, .string R.etype, .slice b6 m6 e6] 60 w6 := M.own_ (by simp)
  have HA0 : Hid (∀ wx, Below w6.heap.size w6 wx → wx.cell? ⟨za, 0, none⟩ = some (.slice a1 n1 c1)) := fun wx hb => (hza.below hb).cell 0
  have HX5 : Hid (∀ wx, Below w6.heap.size w6 wx → wx.rangeAt zx 0 [.int .i64 x.e.number, .int .i64 x.e.type, .int .i64 x.e.start, .int .i64 x.e.stop, .slice px qx rx]) := fun wx hb => (hzx.below hb).range
  have HR0 : Hid (∀ wx, Below w6.heap.size w6 wx → wx.rangeAt zr 0 [.string R.name, .slice b1 m1 e1, .slice b2 m2 e2, .slice b3 m3 e3, .slice b4 m4 e4, .string R.etype, .slice b6 m6 e6]) := fun wx hb => (hzr.below hb).range
  have HR1 : Hid (∀ wx, Below w6.heap.size w6 wx → wx.cell? ⟨zr, 1, none⟩ = some (.slice b1 m1 e1)) := fun wx hb => (hzr.below hb).cell 1
  have hkl : k.toNat < rows.length := by have := HKK.out; have := HLN.out; omega
  obtain ⟨cp, op, rowp, hixp, -, hrrp, hwp⟩ := SlF.rowAt (P := Tryd.prog) hS rawF_firm Tryd.underlying53 size_pat (i := k.toNat) hkl
  rw [show ((k.toNat : Nat) : Int) = k from Int.toNat_of_nonneg HKK.out.1] at hixp
  have ep : rowp = rows[k.toNat] := hrrp
  obtain ⟨P, hP, hpf⟩ := HPR.out.2 _ hkl
  rw [← ep] at hpf
  obtain ⟨p1, q1, s1, e2p, hSP⟩ := hpf
  have HRP : Hid (∀ wx, Below w6.heap.size w6 wx → wx.rangeAt cp op (patC P p1 q1 s1)) := fun wx hb => e2p ▸ (hwp wx hb).1
  have hPe : L.getD k.toNat pat0 = P := by simp [List.getD, hP]
  rw [hPe] at HTG HVN
  have hlift : ∀ wx : World, Below w6.heap.size w6 wx → Below w0.heap.size w0 wx := fun wx hb => hb06.trans (hb.mono hb06.size)
  have HL := Lib.hid hlift
  have HSP := Lib.hid hSP
  have hg6 : g < w6.heap.size := Nat.lt_of_lt_of_le hg.out hb06.size
  have HTK : Hid (EvGood b.types x → (∀ i (hi : i < known.length), EvGood b.types known[i]) → (known.length : Int) = (if part = 0 then k else (R.whens.length : Int)) → AllZ (misE b.types R.whens known) known.length → ∀ wx, Below w6.heap.size w6 wx → Calls Tryd.prog 17 #[.slice a1 n1 c1, .agg #[.string R.name, .slice b1 m1 e1, .slice b2 m2 e2, .slice b3 m3 e3, .slice b4 m4 e4, .string R.etype, .slice b6 m6 e6], .agg (patC P p1 q1 s1).toArray, .agg #[.int .i64 x.e.number, .int .i64 x.e.type, .int .i64 x.e.start, .int .i64 x.e.stop, .slice px qx rx], .slice a3 n3 c3] wx fun e w' => e = .returned (.bool (takenB b.types R.whens known x P)) ∧ Below wx.heap.size wx w') := fun h1 h2 h3 h4 wx hb =>
    taken_any (v := ⟨a1, n1, c1, b1, m1, e1, px, qx, rx, a3, n3, c3⟩) (x := R) (wh := R.whens) ⟨⟨g, Nat.lt_of_lt_of_le hg6 hb.size⟩, (HX1.out.below typF_firm (HL.out _ hb)).wide typF_firm (fun _ _ _ => trivial), (HY1.out.below patF_firm (HL.out _ hb)).wide patF_firm (fun _ _ _ => trivial), (HXV.out.below (plainF_firm _) (HL.out _ hb)).wide (plainF_firm _) (fun _ _ _ => trivial), (HX3.out.below eveF_firm (HL.out _ hb)).wide eveF_firm (fun _ _ _ => trivial), HTS.out⟩ (HLE.out h3) P h1.lo h1.hi (HSP.out.below condF_firm (HL.out _ hb)) (HTG.out P rfl h1 h2 h3 h4)
  unfold patC cndC opdC at HTK HRP
  simp only [List.cons_append, List.nil_append] at HTK HRP
  have HLX := HLE
  have HEX6 : Hid (∀ wx, Below w6.heap.size w6 wx → Calls Tryd.prog 16 #[.slice a1 n1 c1, .agg #[.int .i64 x.e.number, .int .i64 x.e.type, .int .i64 x.e.start, .int .i64 x.e.stop, .slice px qx rx]] wx fun e w' => e = .returned (.int .i64 e0) ∧ Below wx.heap.size wx w') := fun wx hb => HEX.out wx (HL.out _ hb)
  clear hza hzx hzr hb06 hS hwp hrrp ep e2p hP hPe hSP HPR hlift HTG M HLE
  have M := Mem.begin hg6 ⟨0, 0⟩
  replace hg6 := Lib.hid hg6
  go_wp2_with (first | (with_reducible (first | refine wl M ?_ | refine wlg M ?_ | (refine ws M ?_; clear M; intro w M) | (refine wsc M ?_; clear M; intro w M) | (refine wV M ?_; clear M; intro z w M) | (refine wR M ?_; clear M; intro q w M) | refine o_skipT ?_ | refine o_skipF ?_ | refine wA (HX5.out _ M.new) ?_ | refine wC (HA0.out _ M.new) ?_)) | (go_at_call 15; with_reducible refine (inB_is _ _ _ _ HI3.out _).mono ?_; rintro e w4 ⟨rfl, hw4⟩; replace hw4 := hw4.symm; subst hw4) | (go_at_call 16; with_reducible refine (HEX6.out _ M.new).mono ?_; rintro e w5 ⟨rfl, hb5⟩; replace M := M.below hb5; clear hb5))
  go_loopg [14, 20] n3 (fun f ev i wr => ∃ (j : Nat) (e : Int), j + f = n3 ∧ ev = .int .i64 e ∧ i = .int .i64 j ∧ Mem (StaysB g w6) g w6 wr ⟨0, 0⟩ [] ∧ Hid (AllZ (evE b.types (x :: known)) j ∧ evE b.types (x :: known) j = e))
  case atStart => exact ⟨0, e0, by omega, rfl, rfl, M, allZ_zero _, HE0.out⟩
  case round =>
    clear M
    obtain ⟨j, e, hj, rfl, rfl, M, HZ⟩ := hrel
    by_cases hz : e = 0
    rotate_left 1
    · have HV := Lib.hid (HVE.out HZ.out.1 (by have := HNK.out; omega) HZ.out.2 hz)
      have hzb : (e == 0) = false := by simpa using hz
      have hzc : (e != 0) = true := by simpa using hz
      clear HZ hz
      go_wp2_with (first | (with_reducible (first | refine wl M ?_ | refine wlg M ?_ | (refine ws M ?_; clear M; intro w M) | (refine wsc M ?_; clear M; intro w M) | (refine wV M ?_; clear M; intro z w M) | (refine wR M ?_; clear M; intro q w M) | refine o_skipT ?_ | refine o_skipF ?_)))
      all_goals
        go_ret2
        rw [HV.out]
        exact ⟨rfl, HL.out _ M.new⟩
    subst hz
    have hz1 := allZ_succ HZ.out.1 HZ.out.2
    by_cases hlt : j < n3
    · have hkl : j < known.length := by have := HNK.out; omega
      obtain ⟨ck, ok, rowk, hixk, -, hrrk, hwk⟩ := SlF.rowAt (P := Tryd.prog) HX3.out eveF_firm Tryd.underlying31 size_eve (i := j) hkl
      obtain ⟨p2, q2, s2, et, ut⟩ := hrrk
      subst et
      have HRK : Hid (∀ wx, Below w6.heap.size w6 wx → wx.rangeAt ck ok [.int .i64 known[j].e.number, .int .i64 known[j].e.type, .int .i64 known[j].e.start, .int .i64 known[j].e.stop, .slice p2 q2 s2]) := fun wx hb => (hwk wx (HL.out _ hb)).1
      have HEV : Hid (∀ wx, Below w6.heap.size w6 wx → Calls Tryd.prog 16 #[.slice a1 n1 c1, .agg #[.int .i64 known[j].e.number, .int .i64 known[j].e.type, .int .i64 known[j].e.start, .int .i64 known[j].e.stop, .slice p2 q2 s2]] wx fun e w' => e = .returned (.int .i64 (eventE b.types known[j].e known[j].vals)) ∧ Below wx.heap.size wx w') := fun wx hb => eventFault_any a1 n1 c1 b.types known[j].e p2 q2 s2 known[j].vals wx (HT.out wx (HL.out _ hb)) (val_R (ut.below (plainF_firm _) (HL.out _ hb)) (HKO.out _ (List.getElem_mem hkl)))
      have HZ2 : Hid (AllZ (evE b.types (x :: known)) (j + 1) ∧ evE b.types (x :: known) (j + 1) = eventE b.types known[j].e known[j].vals) := ⟨hz1, by rw [evE_at (by simp only [List.length_cons]; omega)]; simp⟩
      clear hwk ut HZ hz1
      generalize eventE b.types known[j].e known[j].vals = te at HEV HZ2
      generalize known[j] = y at HRK HEV
      clear hkl
      go_wp2_with (first | (with_reducible (first | refine wl M ?_ | refine wlg M ?_ | (refine ws M ?_; clear M; intro w M) | (refine wsc M ?_; clear M; intro w M) | (refine wV M ?_; clear M; intro z w M) | (refine wR M ?_; clear M; intro q w M) | refine o_skipT ?_ | refine o_skipF ?_)))
      ((refine wp_region_calm M (by kernel_rfl) (by kernel_rfl) ?_); (repeat (first | ((with_reducible refine c_list rfl fun K hK => ?_); (first | (refine c_load (l' := ?_) ⟨_, M⟩ (fun w M => ?_) ?_; rotate_left; focus ((first | (refine q_cellat (HA0.out _ M.new) ?_) | (refine q_at (HRK.out _ M.new) (by rfl) ?_) | refine q_get M (by exact rfl) ?_ | refine q_all M (by rfl) ?_ | refine q_prt M (by rfl) ?_); refine ⟨rfl, ?_⟩; with_reducible rfl)) | (refine c_call (n := 16) (args := ?_) (v := ?_) (fun w => ?_) (fun w M => ?_) ?_; rotate_left 2; (focus (go_simp; try with_reducible rfl)); (focus (with_reducible refine (HEV.out _ M.new).mono ?_; rintro e w5 ⟨rfl, hb5⟩; refine ⟨?_, M.below hb5⟩; with_reducible rfl))) | (refine c_pure (v := ?_) (fun w => ?_) ?_; rotate_left; focus (go_simp; try with_reducible rfl))); (try go_simp); with_reducible refine hK _ ?_; clear hK K) | ((with_reducible refine c_listg fun K hK => ?_); (first | (refine c_load (l' := ?_) ⟨_, M⟩ (fun w M => ?_) ?_; rotate_left; focus ((first | (refine q_cellat (HA0.out _ M.new) ?_) | (refine q_at (HRK.out _ M.new) (by rfl) ?_) | refine q_get M (by exact rfl) ?_ | refine q_all M (by rfl) ?_ | refine q_prt M (by rfl) ?_); refine ⟨rfl, ?_⟩; with_reducible rfl)) | (refine c_call (n := 16) (args := ?_) (v := ?_) (fun w => ?_) (fun w M => ?_) ?_; rotate_left 2; (focus (go_simp; try with_reducible rfl)); (focus (with_reducible refine (HEV.out _ M.new).mono ?_; rintro e w5 ⟨rfl, hb5⟩; refine ⟨?_, M.below hb5⟩; with_reducible rfl))) | (refine c_pure (v := ?_) (fun w => ?_) ?_; rotate_left; focus (go_simp; try with_reducible rfl))); (try go_simp); with_reducible refine hK _ ?_; clear hK K) | (with_reducible refine c_skipT ?_) | (with_reducible refine c_skipF ?_))); (refine wpQuiet_nil ?_); clear M; intro w M)
      go_wp2_with (first | (with_reducible (first | refine wl M ?_ | refine wlg M ?_ | (refine ws M ?_; clear M; intro w M) | (refine wsc M ?_; clear M; intro w M) | (refine wV M ?_; clear M; intro z w M) | (refine wR M ?_; clear M; intro q w M) | refine o_skipT ?_ | refine o_skipF ?_)))
      go_roundg (n3 - (j + 1))
      case measure => omega
      case rel => exact ⟨j + 1, te, by omega, rfl, by go_num, M, HZ2⟩
    · have HZF : Hid (AllZ (evE b.types (x :: known)) (known.length + 1)) := by have e : j = known.length := (by have := HNK.out; omega); show AllZ _ _; rw [← e]; exact hz1
      obtain ⟨want, hwant⟩ : ∃ want : Int, want = if part = 0 then k else (R.whens.length : Int) := ⟨_, rfl⟩
      have HWT := Lib.hid hwant
      have HNW := Lib.hid HY1.out.len
      clear HZ hz1 hwant HVE HEX HE0
      go_upto_if 137 with (first | (with_reducible (first | refine wl M ?_ | refine wlg M ?_ | (refine ws M ?_; clear M; intro w M) | (refine wsc M ?_; clear M; intro w M) | (refine wV M ?_; clear M; intro z w M) | (refine wR M ?_; clear M; intro q w M) | refine o_skipT ?_ | refine o_skipF ?_ | refine wC (HR1.out _ M.new) ?_)))
      go_cut [21] (fun vv wx => vv = .int .i64 want ∧ Mem (StaysB g w6) g w6 wx ⟨0, 0⟩ [])
      case first =>
        by_cases p0 : part = 0
        · have pb : (part == 0) = true := by simpa using p0
          have HWV : Hid (k = want) := by show _ = _; rw [HWT.out, if_pos p0]
          clear p0
          go_wp2_with (first | (with_reducible (first | refine wl M ?_ | refine wlg M ?_ | (refine ws M ?_; clear M; intro w M) | (refine wsc M ?_; clear M; intro w M) | (refine wV M ?_; clear M; intro z w M) | (refine wR M ?_; clear M; intro q w M) | refine o_skipT ?_ | refine o_skipF ?_)))
          go_meet
          case rel => exact ⟨by rw [HWV.out], M⟩
        · have pb : (part == 0) = false := by simpa using p0
          have HWV : Hid ((m1 : Int) = want) := by show _ = _; rw [HWT.out, if_neg p0, HNW.out]
          clear p0
          go_wp2_with (first | (with_reducible (first | refine wl M ?_ | refine wlg M ?_ | (refine ws M ?_; clear M; intro w M) | (refine wsc M ?_; clear M; intro w M) | (refine wV M ?_; clear M; intro z w M) | (refine wR M ?_; clear M; intro q w M) | refine o_skipT ?_ | refine o_skipF ?_)))
          go_meet
          case rel => exact ⟨by rw [HWV.out], M⟩
      case rest =>
      clear M
      obtain ⟨rfl, M⟩ := hcut
      by_cases hf : (n3 : Int) = want
      rotate_left 1
      · have HV := Lib.hid (HVF.out HZF.out (by rw [← HWT.out, ← HNK.out]; exact hf))
        have hfb : ((n3 : Int) != want) = true := by simpa using hf
        clear HZF HVF HVM HVN hf
        go_wp2_with (first | (with_reducible (first | refine wl M ?_ | refine wlg M ?_ | (refine ws M ?_; clear M; intro w M) | (refine wsc M ?_; clear M; intro w M) | (refine wV M ?_; clear M; intro z w M) | (refine wR M ?_; clear M; intro q w M) | refine o_skipT ?_ | refine o_skipF ?_)))
        go_ret2
        rw [HV.out]
        exact ⟨rfl, HL.out _ M.new⟩
      have hfe : (known.length : Int) = (if part = 0 then k else (R.whens.length : Int)) := by rw [← HWT.out, ← HNK.out]; exact hf
      have HLW : Hid (known.length ≤ R.whens.length) := HLX.out hfe
      have HMI : Hid (∀ {j : Nat}, AllZ (misE b.types R.whens known) j → j < known.length → misE b.types R.whens known j = 13 → T = (false, 13)) := fun hm hj he => HVM.out HZF.out hfe hm hj he
      have HME := Lib.hid (HVN.out HZF.out hfe)
      have HGX : Hid (EvGood b.types x) := evGood_of (HZF.out 0 (by omega))
      have HGK : Hid (∀ i (hi : i < known.length), EvGood b.types known[i]) := fun i hi => evGood_of (by have h := HZF.out (i + 1) (by omega); rw [evE_at (by simp only [List.length_cons]; omega)] at h; simpa using h)
      have HTL : Hid (AllZ (misE b.types R.whens known) known.length → ∀ wx, Below w6.heap.size w6 wx → _) := fun hm => HTK.out HGX.out HGK.out hfe hm
      have hfb : ((n3 : Int) != want) = false := by simpa using hf
      clear HVF HVM HVN hf hfe HZF HTK
      go_wp2_with (first | (with_reducible (first | refine wl M ?_ | refine wlg M ?_ | (refine ws M ?_; clear M; intro w M) | (refine wsc M ?_; clear M; intro w M) | (refine wV M ?_; clear M; intro z w M) | (refine wR M ?_; clear M; intro q w M) | refine o_skipT ?_ | refine o_skipF ?_)))
      go_loopg [22] n3 (fun f i wr => ∃ (j : Nat), j + f = n3 ∧ i = .int .i64 j ∧ Mem (StaysB g w6) g w6 wr ⟨0, 0⟩ [] ∧ Hid (AllZ (misE b.types R.whens known) j))
      case atStart => exact ⟨0, by omega, rfl, M, allZ_zero _⟩
      case round =>
        clear M
        obtain ⟨j, hj, rfl, M, HM⟩ := hrel
        by_cases hlt : j < n3
        · have hkl : j < known.length := by have := HNK.out; omega
          have hwl : j < R.whens.length := by have := HLW.out; omega
          obtain ⟨ck, ok, rowk, hixk, -, hrrk, hwk⟩ := SlF.rowAt (P := Tryd.prog) HX3.out eveF_firm Tryd.underlying31 size_eve (i := j) hkl
          obtain ⟨p2, q2, s2, et, -⟩ := hrrk
          subst et
          have HKT : Hid (∀ wx, Below w6.heap.size w6 wx → wx.cell? ⟨ck, ok + 1, none⟩ = some (.int .i64 known[j].e.type)) := fun wx hb => (hwk wx (HL.out _ hb)).1 1 _ rfl
          obtain ⟨cw, ow, roww, hixw, -, hrrw, hww⟩ := SlF.rowAt (P := Tryd.prog) HY1.out patF_firm Tryd.underlying53 size_pat (i := j) hwl
          obtain ⟨p3, q3, s3, ew, -⟩ := hrrw
          subst ew
          have HWC : Hid (∀ wx, Below w6.heap.size w6 wx → wx.cell? ⟨cw, ow + 1, none⟩ = some (.string R.whens[j].type)) := fun wx hb => (hww wx (HL.out _ hb)).1 1 _ rfl
          have hgy := HGK.out j hkl
          have htl : known[j].e.type.toNat < b.types.length := by have := hgy.lo; have := hgy.hi; omega
          obtain ⟨ct, ot, rowt, hixt, -, hrrt, hwt⟩ := SlF.rowAt (P := Tryd.prog) HX1.out typF_firm Tryd.underlying22 size_typ (i := known[j].e.type.toNat) htl
          rw [show ((known[j].e.type.toNat : Nat) : Int) = known[j].e.type from Int.toNat_of_nonneg hgy.lo] at hixt
          obtain ⟨p4, q4, s4, e4t, -⟩ := hrrt
          subst e4t
          have hte : b.types[known[j].e.type.toNat] = evT b.types known[j] := by unfold evT; simp [List.getD, List.getElem?_eq_getElem htl]
          have HTN : Hid (∀ wx, Below w6.heap.size w6 wx → wx.cell? ⟨ct, ot, none⟩ = some (.string (evT b.types known[j]).name)) := fun wx hb => by have h := (hwt wx (HL.out _ hb)).1 0 _ rfl; rw [hte] at h; exact h
          have HMS := Lib.hid (misE_at (ts := b.types) hkl hwl)
          have HM2 : Hid (misE b.types R.whens known j = 0 → AllZ (misE b.types R.whens known) (j + 1)) := fun h => allZ_succ HM.out h
          have HM3 : Hid (misE b.types R.whens known j = 13 → T = (false, 13)) := fun h => HMI.out HM.out hkl h
          clear hwk hww hwt hte htl hgy HM
          generalize (evT b.types known[j]).name = nm at HTN HMS
          generalize known[j].e.type = kt at HKT hixt
          generalize R.whens[j].type = wt at HWC HMS
          clear hkl hwl
          cases hsm : sameS nm wt with
          | true =>
            have hsb : (nm.toList == wt.toList) = true := hsm
            have hsn : (nm.toList != wt.toList) = false := by simp only [bne, hsb]; rfl
            have HM4 := Lib.hid (HM2.out (by rw [HMS.out, if_pos hsm]))
            clear HMS HM2 HM3 hsm
            go_wp2_with (first | (with_reducible (first | refine wl M ?_ | refine wlg M ?_ | (refine ws M ?_; clear M; intro w M) | (refine wsc M ?_; clear M; intro w M) | (refine wV M ?_; clear M; intro z w M) | (refine wR M ?_; clear M; intro q w M) | refine o_skipT ?_ | refine o_skipF ?_)))
            ((refine wp_region_still_lit (by kernel_rfl) (by kernel_rfl) ?_); (change wpStill _ _ (World.drew _) _ _ _); replace M := M.drew; (repeat (first | ((with_reducible refine s_list rfl fun K hK => ?_); refine s_load ?_; (first | (refine q_cellat (HA0.out _ M.new) ?_) | (refine q_cellat (HKT.out _ M.new) ?_) | (refine q_cellat (HTN.out _ M.new) ?_) | (refine q_cellat (HR1.out _ M.new) ?_) | (refine q_cellat (HWC.out _ M.new) ?_) | refine q_all M (by rfl) ?_ | refine q_get M (by exact rfl) ?_ | refine q_prt M (by rfl) ?_); refine ⟨rfl, hK _ ?_⟩; clear hK K) | ((with_reducible refine s_listg fun K hK => ?_); refine s_load ?_; (first | (refine q_cellat (HA0.out _ M.new) ?_) | (refine q_cellat (HKT.out _ M.new) ?_) | (refine q_cellat (HTN.out _ M.new) ?_) | (refine q_cellat (HR1.out _ M.new) ?_) | (refine q_cellat (HWC.out _ M.new) ?_) | refine q_all M (by rfl) ?_ | refine q_get M (by exact rfl) ?_ | refine q_prt M (by rfl) ?_); refine ⟨rfl, hK _ ?_⟩; clear hK K) | (with_reducible refine s_skipT ?_) | (with_reducible refine s_skipF ?_) | ((first | (with_reducible refine s_list rfl fun K hK => ?_) | (with_reducible refine s_listg fun K hK => ?_)); refine s_pure ?_; go_simp; refine hK _ ?_; clear hK K))); (refine wpStill_nil ?_))
            go_wp2_with (first | (with_reducible (first | refine wl M ?_ | refine wlg M ?_ | (refine ws M ?_; clear M; intro w M) | (refine wsc M ?_; clear M; intro w M) | (refine wV M ?_; clear M; intro z w M) | (refine wR M ?_; clear M; intro q w M) | refine o_skipT ?_ | refine o_skipF ?_)))
            go_roundg (n3 - (j + 1))
            case measure => omega
            case rel => exact ⟨j + 1, by omega, by go_num, M, HM4⟩
          | false =>
            have hsb : (nm.toList == wt.toList) = false := hsm
            have hsn : (nm.toList != wt.toList) = true := by simp only [bne, hsb]; rfl
            have HV := Lib.hid (HM3.out (by rw [HMS.out, if_neg (by rw [hsm]; simp)]))
            clear HMS HM2 HM3 hsm
            go_wp2_with (first | (with_reducible (first | refine wl M ?_ | refine wlg M ?_ | (refine ws M ?_; clear M; intro w M) | (refine wsc M ?_; clear M; intro w M) | (refine wV M ?_; clear M; intro z w M) | (refine wR M ?_; clear M; intro q w M) | refine o_skipT ?_ | refine o_skipF ?_)))
            ((refine wp_region_still_lit (by kernel_rfl) (by kernel_rfl) ?_); (change wpStill _ _ (World.drew _) _ _ _); replace M := M.drew; (repeat (first | ((with_reducible refine s_list rfl fun K hK => ?_); refine s_load ?_; (first | (refine q_cellat (HA0.out _ M.new) ?_) | (refine q_cellat (HKT.out _ M.new) ?_) | (refine q_cellat (HTN.out _ M.new) ?_) | (refine q_cellat (HR1.out _ M.new) ?_) | (refine q_cellat (HWC.out _ M.new) ?_) | refine q_all M (by rfl) ?_ | refine q_get M (by exact rfl) ?_ | refine q_prt M (by rfl) ?_); refine ⟨rfl, hK _ ?_⟩; clear hK K) | ((with_reducible refine s_listg fun K hK => ?_); refine s_load ?_; (first | (refine q_cellat (HA0.out _ M.new) ?_) | (refine q_cellat (HKT.out _ M.new) ?_) | (refine q_cellat (HTN.out _ M.new) ?_) | (refine q_cellat (HR1.out _ M.new) ?_) | (refine q_cellat (HWC.out _ M.new) ?_) | refine q_all M (by rfl) ?_ | refine q_get M (by exact rfl) ?_ | refine q_prt M (by rfl) ?_); refine ⟨rfl, hK _ ?_⟩; clear hK K) | (with_reducible refine s_skipT ?_) | (with_reducible refine s_skipF ?_) | ((first | (with_reducible refine s_list rfl fun K hK => ?_) | (with_reducible refine s_listg fun K hK => ?_)); refine s_pure ?_; go_simp; refine hK _ ?_; clear hK K))); (refine wpStill_nil ?_))
            go_wp2_with (first | (with_reducible (first | refine wl M ?_ | refine wlg M ?_ | (refine ws M ?_; clear M; intro w M) | (refine wsc M ?_; clear M; intro w M) | (refine wV M ?_; clear M; intro z w M) | (refine wR M ?_; clear M; intro q w M) | refine o_skipT ?_ | refine o_skipF ?_)))
            go_ret2
            rw [HV.out]
            exact ⟨rfl, HL.out _ M.new⟩
        · have hjn : j = known.length := by have := HNK.out; omega
          have hmz : AllZ (misE b.types R.whens known) known.length := by rw [← hjn]; exact HM.out
          have HV := Lib.hid (HME.out hmz)
          have HTF := Lib.hid (HTL.out hmz)
          generalize takenB b.types R.whens known x P = tb at HV HTF
          clear HM HTL hjn hmz HME HMI HGX HGK
          go_wp2_with (first | (with_reducible (first | refine wl M ?_ | refine wlg M ?_ | (refine ws M ?_; clear M; intro w M) | (refine wsc M ?_; clear M; intro w M) | (refine wV M ?_; clear M; intro z w M) | (refine wR M ?_; clear M; intro q w M) | refine o_skipT ?_ | refine o_skipF ?_)))
          ((refine wp_region_calm M (by kernel_rfl) (by kernel_rfl) ?_); (repeat (first | ((with_reducible refine c_list rfl fun K hK => ?_); (first | (refine c_load (l' := ?_) ⟨_, M⟩ (fun w M => ?_) ?_; rotate_left; focus ((first | (refine q_cellat (HA0.out _ M.new) ?_) | (refine q_at (HR0.out _ M.new) (by rfl) ?_) | (refine q_at (HRP.out _ M.new) (by rfl) ?_) | (refine q_at (HX5.out _ M.new) (by rfl) ?_) | refine q_get M (by exact rfl) ?_ | refine q_all M (by rfl) ?_ | refine q_prt M (by rfl) ?_); refine ⟨rfl, ?_⟩; with_reducible rfl)) | (refine c_call (n := 17) (args := ?_) (v := ?_) (fun w => ?_) (fun w M => ?_) ?_; rotate_left 2; (focus (go_simp; try with_reducible rfl)); (focus (with_reducible refine (HTF.out _ M.new).mono ?_; rintro e w5 ⟨rfl, hb5⟩; refine ⟨?_, M.below hb5⟩; with_reducible rfl))) | (refine c_pure (v := ?_) (fun w => ?_) ?_; rotate_left; focus (go_simp; try with_reducible rfl))); (try go_simp); with_reducible refine hK _ ?_; clear hK K) | ((with_reducible refine c_listg fun K hK => ?_); (first | (refine c_load (l' := ?_) ⟨_, M⟩ (fun w M => ?_) ?_; rotate_left; focus ((first | (refine q_cellat (HA0.out _ M.new) ?_) | (refine q_at (HR0.out _ M.new) (by rfl) ?_) | (refine q_at (HRP.out _ M.new) (by rfl) ?_) | (refine q_at (HX5.out _ M.new) (by rfl) ?_) | refine q_get M (by exact rfl) ?_ | refine q_all M (by rfl) ?_ | refine q_prt M (by rfl) ?_); refine ⟨rfl, ?_⟩; with_reducible rfl)) | (refine c_call (n := 17) (args := ?_) (v := ?_) (fun w => ?_) (fun w M => ?_) ?_; rotate_left 2; (focus (go_simp; try with_reducible rfl)); (focus (with_reducible refine (HTF.out _ M.new).mono ?_; rintro e w5 ⟨rfl, hb5⟩; refine ⟨?_, M.below hb5⟩; with_reducible rfl))) | (refine c_pure (v := ?_) (fun w => ?_) ?_; rotate_left; focus (go_simp; try with_reducible rfl))); (try go_simp); with_reducible refine hK _ ?_; clear hK K) | (with_reducible refine c_skipT ?_) | (with_reducible refine c_skipF ?_))); (refine wpQuiet_nil ?_); clear M; intro w M)
          go_wp2_with (first | (with_reducible (first | refine wl M ?_ | refine wlg M ?_ | (refine ws M ?_; clear M; intro w M) | (refine wsc M ?_; clear M; intro w M) | (refine wV M ?_; clear M; intro z w M) | (refine wR M ?_; clear M; intro q w M) | refine o_skipT ?_ | refine o_skipF ?_)))
          go_ret2
          rw [HV.out]
          exact ⟨rfl, HL.out _ M.new⟩
theorem takenBy_any (hg : g < w0.heap.size) (b : Bok) (a1 : Option Addr) (n1 c1 : Nat) (a2 : Option Addr) (n2 c2 : Nat) (X1 : SlF F w0 2 typF a1 n1 c1 b.types) (X2 : SlF F w0 7 rulF a2 n2 c2 b.rules) (hts : ∀ t ∈ b.types, typOk t) (hrs : ∀ x ∈ b.rules, RulFit x) (x : Eve) (px : Option Addr) (qx rx : Nat) (hxv : SlF F3 w0 3 (plainF valC) px qx rx x.vals) (hxo : eveOk x) (a3 : Option Addr) (n3 c3 : Nat) (known : List Eve) (X3 : SlF F3 w0 5 eveF a3 n3 c3 known) (hko : ∀ y ∈ known, eveOk y) (rule part k : Int) : Calls Tryd.prog 6 #[.agg #[.slice a1 n1 c1, .slice a2 n2 c2], .int .i64 rule, .int .i64 part, .int .i64 k, .agg #[.int .i64 x.e.number, .int .i64 x.e.type, .int .i64 x.e.start, .int .i64 x.e.stop, .slice px qx rx], .slice a3 n3 c3] w0 fun e w' => e = .returned (.tuple #[.bool (takesE b rule part k x known).1, .int .i64 (takesE b rule part k x known).2]) ∧ Below w0.heap.size w0 w' := by
  by_cases h0 : bookE b = 0
  · by_cases hr : 0 ≤ rule ∧ rule < b.rules.length
    · by_cases hp : 0 ≤ part ∧ part ≤ 2
      · exact takenBy_main hg b a1 n1 c1 a2 n2 c2 X1 X2 hts hrs x px qx rx hxv hxo a3 n3 c3 known X3 hko rule part k h0 hr hp
      · exact takenBy_norule hg b a1 n1 c1 a2 n2 c2 X1 X2 hts hrs x px qx rx hxv hxo a3 n3 c3 known X3 hko rule part k h0 (.inr hp)
    · exact takenBy_norule hg b a1 n1 c1 a2 n2 c2 X1 X2 hts hrs x px qx rx hxv hxo a3 n3 c3 known X3 hko rule part k h0 (.inl hr)
  · exact takenBy_book hg b a1 n1 c1 a2 n2 c2 X1 X2 hts hrs x px qx rx hxv hxo a3 n3 c3 known X3 hko rule part k h0
end
end Go.Proofs.YthlnheckaoeooaaDoor
/-
  The walk of the law SiftTakes: the program's answer and the reference's are the same.
-/
namespace Go.Proofs.YthlnheckaoeooaaDoor
open Go.ChangeShapes Go.WideShapes Go.ChangeAt Go.RowKit Go.Joins Go.Deep
set_option linter.unusedVariables false
set_option linter.unusedSimpArgs false

set_option maxRecDepth 100000 in
/-- An event that came in. -/
theorem open_event {H : Type} {enc : TypeId × Value → H} {W : World} {base : Nat} {v : Value} {d : DataW H} {ps : List MemPlace} (hv : Value.okWide Tryd.prog W .any base 30 v) (h : DataW.Trod enc Tryd.prog W 0 (fun _ => true) true 30 v d ps) (hlt : ∀ p ∈ ps, p.block < W.heap.size) (hB : ∀ q ∈ d.weights Tryd.prog 30, q ≤ reachBytes) :
    ∃ (x : Eve) (p : Option Addr) (q r : Nat), v = .agg #[.int .i64 x.e.number, .int .i64 x.e.type, .int .i64 x.e.start, .int .i64 x.e.stop, .slice p q r] ∧ SlF (under W.heap.size) W 3 (plainF valC) p q r x.vals ∧ eveOk x := by
  obtain ⟨cs, rfl, hsz⟩ := okWide_struct Tryd.underlying30 hv
  have hk : Tryd.prog.cellsOf 30 = 5 := by kernel_rfl
  obtain ⟨fuel, hf⟩ := h
  obtain ⟨x, ⟨p, q, r, e, S⟩, hok⟩ := at_eve (enc := enc) (w := W) (SizeOf.sizeOf d + 1) fuel (Value.agg cs).cells.toList (d, ps) (by rw [hk] at hsz; simpa [Value.cells] using hsz) hf hlt hB (Nat.lt_succ_self _)
  refine ⟨x, p, q, r, ?_, S, hok⟩
  have h1 : cs = cs.toList.toArray := by simp
  have h2 : cs.toList = [.int .i64 x.e.number, .int .i64 x.e.type, .int .i64 x.e.start, .int .i64 x.e.stop, .slice p q r] := by simpa [Value.cells] using e
  rw [h1, h2]
set_option maxRecDepth 100000 in
/-- A list of events that came in; it leaves room for one more. -/
theorem open_eves {H : Type} {enc : TypeId × Value → H} {W : World} {base : Nat} {v : Value} {d : DataW H} {ps : List MemPlace} (hv : Value.okWide Tryd.prog W .any base 31 v) (h : DataW.Trod enc Tryd.prog W 0 (fun _ => true) true 31 v d ps) (hlt : ∀ p ∈ ps, p.block < W.heap.size) (hB : ∀ q ∈ d.weights Tryd.prog 31, q ≤ reachBytes) :
    ∃ (l : List Eve) (ao : Option Addr) (n cap : Nat), v = .slice ao n cap ∧ SlF (under W.heap.size) W 5 eveF ao n cap l ∧ (∀ x ∈ l, eveOk x) ∧ n * 56 ≤ 140737488351232 := by
  obtain ⟨qa, qb, qc, rfl⟩ := okWide_slice Tryd.underlying31 hv
  obtain ⟨l, ao, n, cap, e, S, h8⟩ := open_arg opens_events (by simp [Value.cells]) h hlt hB
  simp only [Value.cells, List.cons.injEq, and_true, Value.slice.injEq] at e
  obtain ⟨rfl, rfl, rfl⟩ := e
  have S' : SlF (under W.heap.size) W 5 (fun F w row x => eveF F w row x ∧ eveOk x) qa qb qc l := S
  refine ⟨l, qa, qb, qc, rfl, S'.split.1, S'.split.2, ?_⟩
  rw [S.len]
  omega
theorem trodAll_six {H : Type} {enc : TypeId × Value → H} {P : Program} {w : World} {base : Nat} {spare : Nat → Bool} {held : Bool} {t0 t1 t2 t3 t4 t5 : TypeId} {args : Array Value} {ds : List (DataW H)} {ps : List MemPlace} (h : DataW.TrodAll enc P w base spare held [t0, t1, t2, t3, t4, t5] args.toList ds ps) :
    ∃ v0 v1 v2 v3 v4 v5 d0 d1 d2 d3 d4 d5 p0 p1 p2 p3 p4 p5, args = #[v0, v1, v2, v3, v4, v5] ∧ ds = [d0, d1, d2, d3, d4, d5] ∧ ps = p0 ++ p1 ++ p2 ++ p3 ++ p4 ++ p5 ∧ DataW.Trod enc P w base spare held t0 v0 d0 p0 ∧ DataW.Trod enc P w base spare held t1 v1 d1 p1 ∧ DataW.Trod enc P w base spare held t2 v2 d2 p2 ∧ DataW.Trod enc P w base spare held t3 v3 d3 p3 ∧ DataW.Trod enc P w base spare held t4 v4 d4 p4 ∧ DataW.Trod enc P w base spare held t5 v5 d5 p5 := by
  obtain ⟨v0, vs0, d0, ds0, p0, q0, hargs, rfl, rfl, h0, r0⟩ := trodAll_cons h
  obtain ⟨v1, vs1, d1, ds1, p1, q1, rfl, rfl, rfl, h1, r1⟩ := trodAll_cons r0
  obtain ⟨v2, vs2, d2, ds2, p2, q2, rfl, rfl, rfl, h2, r2⟩ := trodAll_cons r1
  obtain ⟨v3, vs3, d3, ds3, p3, q3, rfl, rfl, rfl, h3, r3⟩ := trodAll_cons r2
  obtain ⟨v4, vs4, d4, ds4, p4, q4, rfl, rfl, rfl, h4, r4⟩ := trodAll_cons r3
  obtain ⟨v5, vs5, d5, ds5, p5, q5, rfl, rfl, rfl, h5, r5⟩ := trodAll_cons r4
  obtain ⟨rfl, rfl, rfl⟩ := trodAll_nil r5
  exact ⟨v0, v1, v2, v3, v4, v5, d0, d1, d2, d3, d4, d5, p0, p1, p2, p3, p4, p5, by cases args; simp_all, rfl, by simp, h0, h1, h2, h3, h4, h5⟩
section
set_option maxRecDepth 8000 in
set_option maxHeartbeats 4000000 in
theorem siftTakes_walk (b : Bok) (a1 : Option Addr) (n1 c1 : Nat) (a2 : Option Addr) (n2 c2 : Nat) (rule part k : Int) (x : Eve) (px : Option Addr) (qx rx : Nat) (a3 : Option Addr) (n3 c3 : Nat) (l : List Eve) (w0 : World) (X1 : SlF (under w0.heap.size) w0 2 typF a1 n1 c1 b.types) (X2 : SlF (under w0.heap.size) w0 7 rulF a2 n2 c2 b.rules) (hts : ∀ t ∈ b.types, typOk t) (hrs : ∀ x ∈ b.rules, RulFit x) (hes : ∀ x ∈ b.rules, x.etype.size ≤ maxLen)
    (hxv : SlF (under w0.heap.size) w0 3 (plainF valC) px qx rx x.vals) (hxo : eveOk x) (X3 : SlF (under w0.heap.size) w0 5 eveF a3 n3 c3 l) (hls : ∀ x ∈ l, eveOk x) (hn : n3 * 56 ≤ 140737488351232)
    (hK : SlF (under w0.heap.size) w0 1 wordF (some ⟨0, 0, none⟩) 17 17 keptL) (hR : SlF (under w0.heap.size) w0 1 wordF (some ⟨1, 0, none⟩) 14 14 relsL) :
    Calls Tryd.prog 3 #[.agg #[.slice a1 n1 c1, .slice a2 n2 c2], .int .i64 rule, .int .i64 part, .int .i64 k, .agg #[.int .i64 x.e.number, .int .i64 x.e.type, .int .i64 x.e.start, .int .i64 x.e.stop, .slice px qx rx], .slice a3 n3 c3] w0 fun e w' => e = .returned (.bool true) ∧ Below w0.heap.size w0 w' := by
  have E : Env (under w0.heap.size) w0 := ⟨hK, hR⟩
  have M := Mem.begin E.lt ⟨0, 0⟩
  have HCP := Lib.hid (fun wx (hb : Below w0.heap.size w0 wx) => copy_eves X3 (by omega) hb)
  have HC : Hid (∀ wx a' c', Below w0.heap.size w0 wx → SlF (under wx.heap.size) wx 5 eveF a' n3 c' l → Calls Tryd.prog 5 #[.agg #[.slice a1 n1 c1, .slice a2 n2 c2], .int .i64 rule, .int .i64 part, .int .i64 k, .agg #[.int .i64 x.e.number, .int .i64 x.e.type, .int .i64 x.e.start, .int .i64 x.e.stop, .slice px qx rx], .slice a' n3 c'] wx fun e w' => e = .returned (.tuple #[.bool (takesE b rule part k x l).1, .int .i64 (takesE b rule part k x l).2]) ∧ Below wx.heap.size wx w') := fun wx a' c' hb hS =>
    takes_any (E.below hb).lt (E.below hb) (fun k hk => Nat.lt_of_lt_of_le hk hb.size) b a1 n1 c1 a2 n2 c2 (X1.below typF_firm hb) (X2.below rulF_firm hb) hts hrs hes x px qx rx ((hxv.below (plainF_firm _) hb).wide (plainF_firm _) (fun b hb2 _ => Nat.lt_of_lt_of_le hb2 hb.size)) hxo a' n3 c' l hS hls hn rule part k
  have HB : Hid (∀ wx, Below w0.heap.size w0 wx → Calls Tryd.prog 6 #[.agg #[.slice a1 n1 c1, .slice a2 n2 c2], .int .i64 rule, .int .i64 part, .int .i64 k, .agg #[.int .i64 x.e.number, .int .i64 x.e.type, .int .i64 x.e.start, .int .i64 x.e.stop, .slice px qx rx], .slice a3 n3 c3] wx fun e w' => e = .returned (.tuple #[.bool (takesE b rule part k x l).1, .int .i64 (takesE b rule part k x l).2]) ∧ Below wx.heap.size wx w') := fun wx hb =>
    takenBy_any (E.below hb).lt b a1 n1 c1 a2 n2 c2 (X1.below typF_firm hb) (X2.below rulF_firm hb) hts hrs x px qx rx (hxv.below (plainF_firm _) hb) hxo a3 n3 c3 l (X3.below eveF_firm hb) hls rule part k
  generalize takesE b rule part k x l = v at HC HB
  obtain ⟨v1, v2⟩ := v
  clear X1 X2 X3 hts hrs hes hls hn hK hR E hxv hxo
  go_enter Tryd.func3, Tryd.ntmps3
  go_wp2_with (first | (with_reducible (first | (refine wB (L := []) M ?_; clear M; intro za w1 M) | (refine wB (L := [_]) M ?_; clear M; intro zx w1 M) | refine wl M ?_ | refine wlg M ?_ | (refine ws M ?_; clear M; intro w M) | (refine wsc M ?_; clear M; intro w M) | (refine wV M ?_; clear M; intro z w M) | (refine wR M ?_; clear M; intro q w M) | refine o_skipT ?_ | refine o_skipF ?_)))
  (refine wp_region_any (by kernel_rfl) ?_; (try (change wpAny _ _ _ _ _ _ _ (World.drew _))); replace M := M.drew; generalize World.drew _ = w at M ⊢; have S := St.o; ((refine tk 1 (v := ?_) rfl (by kernel_rfl) rfl ?_ ?_; rotate_left; focus (intro w; go_simp; try with_reducible rfl)); (try go_simp); (refine tk 2 (v := ?_) rfl (by kernel_rfl) rfl ?_ ?_; rotate_left; focus (intro w; go_simp; try with_reducible rfl)); (try go_simp); (refine tk 3 (v := ?_) rfl (by kernel_rfl) rfl ?_ ?_; rotate_left; focus (intro w; go_simp; try with_reducible rfl)); (try go_simp); (refine tk 5 (v := ?_) rfl (by kernel_rfl) rfl ?_ ?_; rotate_left; focus (intro w; go_simp; try with_reducible rfl)); (try go_simp); replace S := S.add 46; refine rd3 0 4 6 (by kernel_rfl) rfl rfl ?_ rfl rfl ?_ rfl rfl ?_ <;> intro K hK); all_goals (first | (refine o_dst (some 18) ?_; (first | (obtain ⟨ao1, cap1, w6, hrun, hS6, hb6⟩ := HCP.out _ M.new; refine owp_of (wp_append_run _ _ 31 rfl rfl rfl rfl hrun ?_); replace M := M.below hb6; clear hrun hb6; go_simp) | (first | refine q_all M (by rfl) ?_ | refine q_get M (by exact rfl) ?_ | refine q_prt M (by rfl) ?_)); (all_goals (refine hK _ _ ?_; clear hK K; replace S := S.add 1))) | (refine o_dst (some 22) ?_; (first | (obtain ⟨ao1, cap1, w6, hrun, hS6, hb6⟩ := HCP.out _ M.new; refine owp_of (wp_append_run _ _ 31 rfl rfl rfl rfl hrun ?_); replace M := M.below hb6; clear hrun hb6; go_simp) | (first | refine q_all M (by rfl) ?_ | refine q_get M (by exact rfl) ?_ | refine q_prt M (by rfl) ?_)); (all_goals (refine hK _ _ ?_; clear hK K; replace S := S.add 16))) | (refine o_dst (some 24) ?_; (first | (obtain ⟨ao1, cap1, w6, hrun, hS6, hb6⟩ := HCP.out _ M.new; refine owp_of (wp_append_run _ _ 31 rfl rfl rfl rfl hrun ?_); replace M := M.below hb6; clear hrun hb6; go_simp) | (refine owp_of ?_; go_simp)); (all_goals (refine hK _ _ ?_; clear hK K; replace S := S.add 64)))); all_goals (first | (replace S : St 47 := S; refine rd2 4 6 (by kernel_rfl) rfl rfl ?_ rfl rfl ?_ <;> intro K hK) | (replace S : St 62 := S; refine rd2 0 6 (by kernel_rfl) rfl rfl ?_ rfl rfl ?_ <;> intro K hK) | (replace S : St 110 := S; refine rd2 0 4 (by kernel_rfl) rfl rfl ?_ rfl rfl ?_ <;> intro K hK)); all_goals (first | (refine o_dst (some 22) ?_; (first | (obtain ⟨ao1, cap1, w6, hrun, hS6, hb6⟩ := HCP.out _ M.new; refine owp_of (wp_append_run _ _ 31 rfl rfl rfl rfl hrun ?_); replace M := M.below hb6; clear hrun hb6; go_simp) | (first | refine q_all M (by rfl) ?_ | refine q_get M (by exact rfl) ?_ | refine q_prt M (by rfl) ?_)); (all_goals (refine hK _ _ ?_; clear hK K; replace S := S.add 16))) | (refine o_dst (some 24) ?_; (first | (obtain ⟨ao1, cap1, w6, hrun, hS6, hb6⟩ := HCP.out _ M.new; refine owp_of (wp_append_run _ _ 31 rfl rfl rfl rfl hrun ?_); replace M := M.below hb6; clear hrun hb6; go_simp) | (refine owp_of ?_; go_simp)); (all_goals (refine hK _ _ ?_; clear hK K; replace S := S.add 64))) | (refine o_dst (some 18) ?_; (first | (obtain ⟨ao1, cap1, w6, hrun, hS6, hb6⟩ := HCP.out _ M.new; refine owp_of (wp_append_run _ _ 31 rfl rfl rfl rfl hrun ?_); replace M := M.below hb6; clear hrun hb6; go_simp) | (first | refine q_all M (by rfl) ?_ | refine q_get M (by exact rfl) ?_ | refine q_prt M (by rfl) ?_)); (all_goals (refine hK _ _ ?_; clear hK K; replace S := S.add 1)))); all_goals (first | (replace S : St 63 := S; refine rd1 6 (by kernel_rfl) rfl rfl ?_ <;> intro K hK) | (replace S : St 111 := S; refine rd1 4 (by kernel_rfl) rfl rfl ?_ <;> intro K hK) | (replace S : St 126 := S; refine rd1 0 (by kernel_rfl) rfl rfl ?_ <;> intro K hK)); all_goals (first | (refine o_dst (some 24) ?_; (first | (obtain ⟨ao1, cap1, w6, hrun, hS6, hb6⟩ := HCP.out _ M.new; refine owp_of (wp_append_run _ _ 31 rfl rfl rfl rfl hrun ?_); replace M := M.below hb6; clear hrun hb6; go_simp) | (refine owp_of ?_; go_simp)); (all_goals (refine hK _ _ ?_; clear hK K; replace S := S.add 64))) | (refine o_dst (some 22) ?_; (first | (obtain ⟨ao1, cap1, w6, hrun, hS6, hb6⟩ := HCP.out _ M.new; refine owp_of (wp_append_run _ _ 31 rfl rfl rfl rfl hrun ?_); replace M := M.below hb6; clear hrun hb6; go_simp) | (first | refine q_all M (by rfl) ?_ | refine q_get M (by exact rfl) ?_ | refine q_prt M (by rfl) ?_)); (all_goals (refine hK _ _ ?_; clear hK K; replace S := S.add 16))) | (refine o_dst (some 18) ?_; (first | (obtain ⟨ao1, cap1, w6, hrun, hS6, hb6⟩ := HCP.out _ M.new; refine owp_of (wp_append_run _ _ 31 rfl rfl rfl rfl hrun ?_); replace M := M.below hb6; clear hrun hb6; go_simp) | (first | refine q_all M (by rfl) ?_ | refine q_get M (by exact rfl) ?_ | refine q_prt M (by rfl) ?_)); (all_goals (refine hK _ _ ?_; clear hK K; replace S := S.add 1)))); all_goals (refine rd1 7 (by kernel_rfl) rfl rfl ?_ <;> intro K hK); all_goals (refine o_dst (some 25) ?_; (refine owp_of ?_; go_simp; (go_at_call 5; with_reducible refine (HC.out _ _ _ M.new hS6).mono ?_; rintro e w5 ⟨rfl, hb5⟩; replace M := M.below hb5; clear hb5 hS6); (try go_simp)); (all_goals (refine hK _ _ ?_; clear hK K; replace S := S.add 128))); all_goals (clear S; ((refine tk 8 (v := ?_) rfl (by kernel_rfl) rfl ?_ ?_; rotate_left; focus (intro w; go_simp; try with_reducible rfl)); (try go_simp); (refine tk 9 (v := ?_) rfl (by kernel_rfl) rfl ?_ ?_; rotate_left; focus (intro w; go_simp; try with_reducible rfl)); (try go_simp); (refine tk 10 (v := ?_) rfl (by kernel_rfl) rfl ?_ ?_; rotate_left; focus (intro w; go_simp; try with_reducible rfl)); (try go_simp); (refine tk 11 (v := ?_) rfl (by kernel_rfl) rfl ?_ ?_; rotate_left; focus (intro w; go_simp; try with_reducible rfl)); (try go_simp); (refine tk 12 (v := ?_) rfl (by kernel_rfl) rfl ?_ ?_; rotate_left; focus (intro w; go_simp; try with_reducible rfl)); (try go_simp); refine wpAny_done (by kernel_rfl) ?_ _)))
  all_goals
    go_wp2_with (first | (with_reducible (first | refine wl M ?_ | refine wlg M ?_ | (refine ws M ?_; clear M; intro w M) | (refine wsc M ?_; clear M; intro w M) | (refine wV M ?_; clear M; intro z w M) | (refine wR M ?_; clear M; intro q w M) | refine o_skipT ?_ | refine o_skipF ?_)) | (go_at_call 6; with_reducible refine (HB.out _ M.new).mono ?_; rintro e w5 ⟨rfl, hb5⟩; replace M := M.below hb5; clear hb5))
    go_ret
    exact ⟨ret_bool (by simp), M.new⟩
end
end Go.Proofs.YthlnheckaoeooaaDoor
namespace Go.Proofs.YthlnheckaoeooaaDoor
open Go.ChangeShapes Go.WideShapes Go.ChangeAt Go.RowKit Go.Joins
open Go.ChangeMaps (setBlock shut_map_nil open_string shut_string keptBut_setBlock frozen?_setBlock heap_setBlock_same)
set_option linter.unusedVariables false

theorem g_rels : Tryd.prog.globalNamed "dotterel/parse.relations" = some 1 := by kernel_rfl
theorem gt_rels : (Tryd.prog.globals[1]?).map (·.type) = some 116 := by kernel_rfl
theorem gc_rels : Tryd.prog.cellsOf 116 = 14 := by kernel_rfl
theorem g_kept : Tryd.prog.globalNamed "dotterel/parse.kept" = some 0 := by kernel_rfl
theorem gt_kept : (Tryd.prog.globals[0]?).map (·.type) = some 115 := by kernel_rfl
theorem gc_kept : Tryd.prog.cellsOf 115 = 17 := by kernel_rfl
theorem cells_string : Tryd.prog.cellsOf 9 = 1 := by kernel_rfl
/-- A world for the witness: the tables hold what their initialisers lay. -/
noncomputable def laidWorld (os : Os) : World :=
  { World.holding Tryd.prog os ⟨#[], #[], []⟩ with heap := (layCells (layCells (World.holding Tryd.prog os ⟨#[], #[], []⟩).heap 1 (relsL.map Value.string).toArray) 0 (keptL.map Value.string).toArray) }
theorem laid_met (os : Os) : laidMet Tryd.prog Rows.siftTakesRow.laid ((laidWorld os).forCall (fun _ _ => 0) ⟨#[], #[.agg #[.slice none 0 0, .slice none 0 0], .int .i64 0, .int .i64 0, .int .i64 0, .agg #[.int .i64 0, .int .i64 0, .int .i64 0, .int .i64 0, .slice none 0 0], .slice none 0 0], []⟩).memory :=
  laidMet_of_run' 8 (by kernel_rfl) (by kernel_rfl)
theorem reads (os : Os) {H : Type} (enc : TypeId × Value → H) : ∃ places, DataW.whole enc Tryd.prog ((laidWorld os).forCall (fun _ _ => 0) ⟨#[], #[.agg #[.slice none 0 0, .slice none 0 0], .int .i64 0, .int .i64 0, .int .i64 0, .agg #[.int .i64 0, .int .i64 0, .int .i64 0, .int .i64 0, .slice none 0 0], .slice none 0 0], []⟩).memory Tryd.f3.params.toList Rows.siftTakesSpec.vars false #[(.agg #[.slice none 0 0, .slice none 0 0] : Value), (.int .i64 0 : Value), (.int .i64 0 : Value), (.int .i64 0 : Value), (.agg #[.int .i64 0, .int .i64 0, .int .i64 0, .int .i64 0, .slice none 0 0] : Value), (.slice none 0 0 : Value)].toList 8 = some ([.agg [.nil, .nil], .lit (.int .i64 0), .lit (.int .i64 0), .lit (.int .i64 0), .agg [.lit (.int .i64 0), .lit (.int .i64 0), .agg [.lit (.int .i64 0), .lit (.int .i64 0)], .nil], .nil], [], places) :=
  ⟨[], by kernel_rfl⟩

set_option maxRecDepth 100000 in
theorem siftTakes_lifted (os : Os) (started : os.Started) (H : Type) (enc : TypeId × Value → H) (F : Stop.Interp) :
    ReturnsInHanded {} Tryd.checked os 3 .any ((OpenSpec.ofChange Rows.siftTakesSpec).preRow enc Tryd.prog Tryd.f3 Rows.siftTakesRow.domain false Rows.siftTakesRow.laid) (((OpenSpec.ofChange Rows.siftTakesSpec).at F).post enc Tryd.prog Tryd.f3 false true false false) := by
  have hp : Tryd.f3.params = #[25, 3, 3, 3, 30, 31] := Tryd.params3
  obtain ⟨places, hx⟩ := reads os enc
  refine lawrow_lift (C := Tryd.checked) (fn := Tryd.f3) (s := Rows.siftTakesSpec) (tb := 4) own_knob started (by kernel_rfl) Tryd.func3 laid_out (by kernel_rfl) rfl (by kernel_rfl) Tryd.underlying4
    (fun ds hl => by rw [hp] at hl; exact (by match ds, hl with | [_, _, _, _, _, _], _ => rfl))
    (witness_row_at (enc := enc) (C := Tryd.checked) false (laidWorld os) #[.agg #[.slice none 0 0, .slice none 0 0], .int .i64 0, .int .i64 0, .int .i64 0, .agg #[.int .i64 0, .int .i64 0, .int .i64 0, .int .i64 0, .slice none 0 0], .slice none 0 0] rfl (by kernel_rfl) (by kernel_rfl) (by kernel_rfl)
      (OpenSpec.preRow_of_cond 8 hx (by kernel_rfl) (fun k hk => by cases hk) (by kernel_rfl) (laid_met os))) ?_
  intro W base args ds ps hval0 hA0 hlt hsz0 hL
  have hval : ∀ (j : Nat) t v, Tryd.f3.params[j]? = some t → args[j]? = some v → Value.okWide Tryd.prog W .any base t v := hval0
  have hA : DataW.TrodAll enc Tryd.prog W 0 (fun _ => true) true Tryd.f3.params.toList args.toList ds ps := hA0
  have hsz : (DataW.weightsEach Tryd.prog Tryd.f3.params.toList ds).all (· ≤ reachBytes) = true := hsz0
  rw [hp] at hA hval hsz
  clear hA0 hval0 hsz0
  have hL' : laidMet Tryd.prog [("dotterel/parse.relations", wordsData relsL), ("dotterel/parse.kept", wordsData keptL)] W := hL
  have c_rels := words_of_head g_rels gt_rels Tryd.underlying116 Tryd.underlying9 cells_string gc_rels (zs := relsL) hL'
  have b_rels : 1 < W.heap.size := World.block_lt_of_cell? W ⟨1, 0, none⟩ (c_rels 0 (by decide))
  have S_rels : SlF (under W.heap.size) W 1 wordF (some ⟨1, 0, none⟩) 14 14 relsL := words_cells b_rels b_rels rfl (by omega) c_rels
  have c_kept := words_of_head g_kept gt_kept Tryd.underlying115 Tryd.underlying9 cells_string gc_kept (zs := keptL) (laidMet.tail hL')
  have b_kept : 0 < W.heap.size := World.block_lt_of_cell? W ⟨0, 0, none⟩ (c_kept 0 (by decide))
  have S_kept : SlF (under W.heap.size) W 1 wordF (some ⟨0, 0, none⟩) 17 17 keptL := words_cells b_kept b_kept rfl (by omega) c_kept
  obtain ⟨v0, v1, v2, v3, v4, v5, d0, d1, d2, d3, d4, d5, p0, p1, p2, p3, p4, p5, rfl, rfl, rfl, h0, h1, h2, h3, h4, h5⟩ := trodAll_six hA
  obtain ⟨b0, p0, q0, r0, p10, q10, r10, rfl, S0, T0, U0, V0, W0⟩ := open_bok (hval 0 25 v0 rfl rfl) h0 (fun p hp => hlt p (by simp [hp])) (fun q hq => by simpa using List.all_eq_true.1 hsz q (DataW.weights_mem_each (j := 0) rfl rfl q hq))
  obtain ⟨x1, rfl, rfl, rfl, wf1⟩ := open_int Tryd.underlying3 (hval 1 3 v1 rfl rfl) h1
  obtain ⟨x2, rfl, rfl, rfl, wf2⟩ := open_int Tryd.underlying3 (hval 2 3 v2 rfl rfl) h2
  obtain ⟨x3, rfl, rfl, rfl, wf3⟩ := open_int Tryd.underlying3 (hval 3 3 v3 rfl rfl) h3
  obtain ⟨y4, p4, q4, r4, rfl, S4, z4⟩ := open_event (hval 4 30 v4 rfl rfl) h4 (fun p hp => hlt p (by simp [hp])) (fun q hq => by simpa using List.all_eq_true.1 hsz q (DataW.weights_mem_each (j := 4) rfl rfl q hq))
  obtain ⟨l5, ao5, n5, cap5, rfl, S5, z5, y5⟩ := open_eves (hval 5 31 v5 rfl rfl) h5 (fun p hp => hlt p (by simp [hp])) (fun q hq => by simpa using List.all_eq_true.1 hsz q (DataW.weights_mem_each (j := 5) rfl rfl q hq))
  exact siftTakes_walk b0 _ _ _ _ _ _ x1 x2 x3 y4 _ _ _ _ _ _ l5 W S0 T0 U0 V0 W0 S4 z4 S5 z5 y5 S_kept S_rels

theorem siftTakes_said : Rows.SiftTakesSaid :=
  OpenClaim.holds_of_cond 3 Tryd.f3 rfl rfl rfl rfl rfl rfl rfl ⟨rfl, rfl, rfl, rfl, rfl⟩ rfl rfl rfl rfl rfl (by kernel_rfl) Tryd.func3 (by kernel_rfl)
    (of_decide_eq_true (by kernel_rfl)) (by unfold Func.isWrapper; first | (rw [if_pos (by decide +kernel)]; kernel_rfl) | (rw [if_neg (by decide +kernel)]; exact ⟨rfl, rfl⟩))
    (fun os started H enc _ F => by rw [OpenClaim.pre_eq_preRow]; exact siftTakes_lifted os started H enc F)

/-- No parameter wants a stand-in; the program's own looks are off: what the card asks. -/
theorem plainCard (f : FuncId) (fn : Func) (hf : Tryd.pinned.checked.prog.funcNamed "dotterel/dotterellaw.SiftTakes" = some f) (hfn : Tryd.pinned.checked.prog.funcs[f]? = some fn) :
    false = Tryd.pinned.checked.prog.looks [] ∧ ∀ (j : Nat) t, fn.params[j]? = some t → Tryd.pinned.checked.prog.wantsStandIn t = false := by
  obtain rfl : f = 3 := Option.some.inj ((show Tryd.prog.funcNamed "dotterel/dotterellaw.SiftTakes" = some 3 by kernel_rfl).symm.trans hf) |>.symm
  obtain rfl : fn = Tryd.f3 := (Option.some.inj (Tryd.func3.symm.trans hfn)).symm
  refine ⟨by kernel_rfl, fun j t ht => ?_⟩
  have hp : Tryd.f3.params = #[25, 3, 3, 3, 30, 31] := Tryd.params3
  rw [hp] at ht
  have h := Array.mem_of_getElem? ht
  simp only [List.mem_toArray, List.mem_cons, List.not_mem_nil, or_false] at h
  rcases h with rfl | rfl | rfl | rfl | rfl | rfl <;> (show Tryd.prog.wantsStandIn _ = false; kernel_rfl)

/-- The statement: the card. -/
theorem siftTakes_holds : Rows.SiftTakesCardSaid :=
  Claim7.holds_tied_plain_at .later [] _ _ _ _ siftTakes_said (fun _ h => by cases h) (by kernel_rfl) (fun _ h => by cases h) siftTakes_row_tie rfl ⟨rfl, rfl⟩ (by kernel_rfl) rfl plainCard (by kernel_rfl)

#print axioms siftTakes_holds
end Go.Proofs.YthlnheckaoeooaaDoor
