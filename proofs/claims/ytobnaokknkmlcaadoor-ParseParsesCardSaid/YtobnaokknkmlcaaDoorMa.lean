/-
  Tokens parsed, in plain Lean: operands, conditions, patterns, rules, books. Where something is wrong the reading stays where it is.
-/
import Derived.Test.YtobnaokknkmlcaaDoorTokL
namespace Go.Proofs.YtobnaokknkmlcaaDoor
open Go.RowKit
set_option linter.unusedVariables false
set_option linter.unusedSimpArgs false

structure Opd where
  kind : Int
  vkind : Int
  vint : Int
  vtext : ByteArray
  var : ByteArray
  field : ByteArray
def opd0 : Opd := ⟨0, 0, 0, ByteArray.empty, ByteArray.empty, ByteArray.empty⟩
instance : Inhabited Opd := ⟨opd0⟩
inductive Cond where
  | mk (kind : Int) (subs : List Cond) (left right : Opd)
def Cond.kind : Cond → Int | .mk k _ _ _ => k
def Cond.subs : Cond → List Cond | .mk _ s _ _ => s
def Cond.left : Cond → Opd | .mk _ _ l _ => l
def Cond.right : Cond → Opd | .mk _ _ _ r => r
def cond0 : Cond := .mk 0 [] opd0 opd0
instance : Inhabited Cond := ⟨cond0⟩

/-- Where the reading is; what was wrong there (0: nothing). -/
structure PS where
  pos : Nat
  e : Int

section
variable (T : List Tok)
def nxt (s : PS) : Option Tok := if s.e = 0 then T[s.pos]? else none
def failS (s : PS) (k : Int) : PS := if s.e = 0 then ⟨s.pos, k⟩ else s
def missS (s : PS) : PS := failS s (if s.pos < T.length then 4 else 5)
def adv (s : PS) : PS := ⟨s.pos + 1, s.e⟩
def seesB (k : Int) (x : ByteArray) (s : PS) : Bool :=
  match nxt T s with
  | some t => decide (t.kind = k) && sameS t.text x
  | none => false
def eatS (k : Int) (x : ByteArray) (s : PS) : PS := if seesB T k x s = true then adv s else s
def mustS (k : Int) (x : ByteArray) (s : PS) : PS := if seesB T k x s = true then adv s else missS T s
def nameS (s : PS) : ByteArray × PS :=
  match nxt T s with
  | some t => if t.kind = 1 ∧ keptB t.text = false then (t.text, adv s) else (ByteArray.empty, missS T s)
  | none => (ByteArray.empty, missS T s)
def numS (s : PS) : Int × PS :=
  match nxt T s with
  | some t => if t.kind = 2 then (t.int, adv s) else (0, missS T s)
  | none => (0, missS T s)
end

/-- The words and marks of the language. -/
def wAnd : ByteArray := ⟨#[97, 110, 100]⟩
def wOr : ByteArray := ⟨#[111, 114]⟩
def wNot : ByteArray := ⟨#[110, 111, 116]⟩
def mOpen : ByteArray := ⟨#[40]⟩
def mShut : ByteArray := ⟨#[41]⟩
def mDot : ByteArray := ⟨#[46]⟩
def mLess : ByteArray := ⟨#[45]⟩

section
variable (T : List Tok)
def nameOpd (s : PS) : Opd × PS :=
  if seesB T 4 mDot (nameS T s).2 = true then
    (⟨3, 0, 0, ByteArray.empty, (nameS T s).1, (nameS T (adv (nameS T s).2)).1⟩, (nameS T (adv (nameS T s).2)).2)
  else (⟨2, 0, 0, ByteArray.empty, ByteArray.empty, (nameS T s).1⟩, (nameS T s).2)
def opdS (s : PS) : Opd × PS :=
  match nxt T s with
  | some t =>
    if t.kind = 2 then (⟨1, 1, t.int, ByteArray.empty, ByteArray.empty, ByteArray.empty⟩, adv s)
    else if t.kind = 3 then (⟨1, 2, 0, t.text, ByteArray.empty, ByteArray.empty⟩, adv s)
    else if seesB T 4 mLess s = true then (⟨1, 1, IntKind.i64.wrap (-(numS T (adv s)).1), ByteArray.empty, ByteArray.empty, ByteArray.empty⟩, (numS T (adv s)).2)
    else nameOpd T s
  | none => nameOpd T s
/-- The sign of a comparison: its kind, and whether its sides change places. -/
def signO (s : PS) : Option (Int × Bool) :=
  if seesB T 4 ⟨#[61]⟩ s = true then some (4, false)
  else if seesB T 4 ⟨#[47, 61]⟩ s = true then some (5, false)
  else if seesB T 4 ⟨#[60]⟩ s = true then some (6, false)
  else if seesB T 4 ⟨#[60, 61]⟩ s = true then some (7, false)
  else if seesB T 4 ⟨#[62]⟩ s = true then some (6, true)
  else if seesB T 4 ⟨#[62, 61]⟩ s = true then some (7, true)
  else none
def cmpS (s : PS) : Cond × PS :=
  match signO T (opdS T s).2 with
  | some (k, sw) => (if sw = true then .mk k [] (opdS T (adv (opdS T s).2)).1 (opdS T s).1 else .mk k [] (opdS T s).1 (opdS T (adv (opdS T s).2)).1, (opdS T (adv (opdS T s).2)).2)
  | none => (cond0, missS T (opdS T s).2)
def chainL (next : PS → Cond × PS) (word : ByteArray) : Nat → List Cond → PS → List Cond × PS
  | 0, l, s => (l, s)
  | f + 1, l, s => if seesB T 1 word s = true then chainL next word f (l ++ [(next (adv s)).1]) (next (adv s)).2 else (l, s)
def chainE (kind : Int) (l : List Cond) : Cond := if l.length = 1 then l.getD 0 cond0 else .mk kind l opd0 opd0
def chainS (kind : Int) (word : ByteArray) (next : PS → Cond × PS) (s : PS) : Cond × PS :=
  (chainE kind (chainL T next word (T.length + 1) [(next s).1] (next s).2).1, (chainL T next word (T.length + 1) [(next s).1] (next s).2).2)
/-- not, a bracket, or a comparison: nested d times more, at most. -/
def notS : Nat → PS → Cond × PS
  | 0, s => if seesB T 1 wNot s = true ∨ seesB T 4 mOpen s = true then (cond0, failS s 14) else cmpS T s
  | d + 1, s =>
    if seesB T 1 wNot s = true then (.mk 3 [(notS d (adv s)).1] opd0 opd0, (notS d (adv s)).2)
    else if seesB T 4 mOpen s = true then
      ((chainS T 2 wOr (chainS T 1 wAnd (notS d)) (adv s)).1, mustS T 4 mShut (chainS T 2 wOr (chainS T 1 wAnd (notS d)) (adv s)).2)
    else cmpS T s
def andS (d : Nat) : PS → Cond × PS := chainS T 1 wAnd (notS T d)
def orS (d : Nat) : PS → Cond × PS := chainS T 2 wOr (andS T d)

/-- Goes on only; stays where something was wrong. -/
structure Fine {α : Type} (f : PS → α × PS) : Prop where
  mono : ∀ s, s.pos ≤ (f s).2.pos
  stuck : ∀ s, s.e ≠ 0 → (f s).2 = s
variable {T}
theorem sees_ok {k : Int} {x : ByteArray} {s : PS} (h : seesB T k x s = true) : s.e = 0 ∧ s.pos < T.length := by
  unfold seesB nxt at h
  by_cases he : s.e = 0
  · refine ⟨he, ?_⟩
    rw [if_pos he] at h
    by_cases hp : s.pos < T.length
    · exact hp
    · rw [List.getElem?_eq_none (by omega)] at h
      cases h
  · rw [if_neg he] at h; cases h
theorem sees_stuck {k : Int} {x : ByteArray} {s : PS} (h : s.e ≠ 0) : seesB T k x s = false := by
  cases hs : seesB T k x s with
  | false => rfl
  | true => exact absurd (sees_ok hs).1 h
theorem fail_pos (s : PS) (k : Int) : (failS s k).pos = s.pos := by unfold failS; split <;> rfl
theorem fail_stuck {s : PS} (h : s.e ≠ 0) (k : Int) : failS s k = s := by unfold failS; rw [if_neg h]
theorem miss_pos (s : PS) : (missS T s).pos = s.pos := fail_pos _ _
theorem miss_stuck {s : PS} (h : s.e ≠ 0) : missS T s = s := fail_stuck h _
theorem miss_bad (s : PS) : (missS T s).e ≠ 0 := by
  unfold missS failS
  by_cases h : s.e = 0
  · rw [if_pos h]
    show (if _ then (4 : Int) else 5) ≠ 0
    split <;> omega
  · rw [if_neg h]; exact h
theorem must_mono (k : Int) (x : ByteArray) (s : PS) : s.pos ≤ (mustS T k x s).pos := by
  unfold mustS
  split
  · show _ ≤ s.pos + 1; omega
  · rw [miss_pos]; omega
theorem must_stuck {k : Int} {x : ByteArray} {s : PS} (h : s.e ≠ 0) : mustS T k x s = s := by
  unfold mustS
  rw [sees_stuck h]
  exact miss_stuck h
theorem eat_mono (k : Int) (x : ByteArray) (s : PS) : s.pos ≤ (eatS T k x s).pos := by
  unfold eatS
  split
  · show _ ≤ s.pos + 1; omega
  · omega
theorem eat_stuck {k : Int} {x : ByteArray} {s : PS} (h : s.e ≠ 0) : eatS T k x s = s := by
  unfold eatS
  rw [sees_stuck h]
  rfl
theorem nxt_stuck {s : PS} (h : s.e ≠ 0) : nxt T s = none := by unfold nxt; rw [if_neg h]
theorem adv_pos (s : PS) : (adv s).pos = s.pos + 1 := rfl
theorem adv_e (s : PS) : (adv s).e = s.e := rfl
theorem nameS_fine : Fine (nameS T) := ⟨fun s => by
  unfold nameS
  split
  · split
    · show _ ≤ s.pos + 1; omega
    · show _ ≤ (missS T s).pos; rw [miss_pos]; omega
  · show _ ≤ (missS T s).pos; rw [miss_pos]; omega, fun s h => by
  unfold nameS
  rw [nxt_stuck h]
  exact miss_stuck h⟩
theorem numS_fine : Fine (numS T) := ⟨fun s => by
  unfold numS
  split
  · split
    · show _ ≤ s.pos + 1; omega
    · show _ ≤ (missS T s).pos; rw [miss_pos]; omega
  · show _ ≤ (missS T s).pos; rw [miss_pos]; omega, fun s h => by
  unfold numS
  rw [nxt_stuck h]
  exact miss_stuck h⟩
theorem nameOpd_fine : Fine (nameOpd T) := ⟨fun s => by
  have h1 := (nameS_fine (T := T)).mono s
  unfold nameOpd
  split
  · have h2 := (nameS_fine (T := T)).mono (adv (nameS T s).2)
    rw [adv_pos] at h2
    show _ ≤ (nameS T (adv (nameS T s).2)).2.pos
    omega
  · exact h1, fun s h => by
  unfold nameOpd
  rw [(nameS_fine (T := T)).stuck s h, sees_stuck h]
  rfl⟩
theorem opdS_fine : Fine (opdS T) := ⟨fun s => by
  have h1 := (nameOpd_fine (T := T)).mono s
  have h2 := (numS_fine (T := T)).mono (adv s)
  rw [adv_pos] at h2
  unfold opdS
  split
  · split
    · show _ ≤ s.pos + 1; omega
    split
    · show _ ≤ s.pos + 1; omega
    split
    · show _ ≤ (numS T (adv s)).2.pos; omega
    · exact h1
  · exact h1, fun s h => by
  unfold opdS
  rw [nxt_stuck h]
  exact (nameOpd_fine (T := T)).stuck s h⟩
theorem sign_stuck {s : PS} (h : s.e ≠ 0) : signO T s = none := by
  unfold signO
  simp [sees_stuck h]
theorem sign_ok {s : PS} {k : Int} {b : Bool} (h : signO T s = some (k, b)) : s.e = 0 ∧ s.pos < T.length := by
  unfold signO at h
  repeat' split at h
  all_goals first | (apply sees_ok; assumption) | cases h
theorem cmpS_fine : Fine (cmpS T) := ⟨fun s => by
  have h1 := (opdS_fine (T := T)).mono s
  have h2 := (opdS_fine (T := T)).mono (adv (opdS T s).2)
  rw [adv_pos] at h2
  unfold cmpS
  split
  · show _ ≤ (opdS T (adv (opdS T s).2)).2.pos; omega
  · show _ ≤ (missS T _).pos; rw [miss_pos]; omega, fun s h => by
  unfold cmpS
  rw [(opdS_fine (T := T)).stuck s h, sign_stuck h]
  exact miss_stuck h⟩
theorem chainL_fine {next : PS → Cond × PS} (hn : Fine next) (word : ByteArray) : ∀ (f : Nat) (l : List Cond) (s : PS), s.pos ≤ (chainL T next word f l s).2.pos ∧ (s.e ≠ 0 → chainL T next word f l s = (l, s))
  | 0, l, s => ⟨Nat.le_refl _, fun _ => rfl⟩
  | f + 1, l, s => by
    unfold chainL
    split
    · rename_i h
      have h1 := hn.mono (adv s)
      have h2 := (chainL_fine hn word f (l ++ [(next (adv s)).1]) (next (adv s)).2).1
      rw [adv_pos] at h1
      exact ⟨by omega, fun he => absurd (sees_ok h).1 he⟩
    · exact ⟨Nat.le_refl _, fun _ => rfl⟩
theorem chainS_fine {next : PS → Cond × PS} (hn : Fine next) (kind : Int) (word : ByteArray) : Fine (chainS T kind word next) := ⟨fun s => by
  have h1 := hn.mono s
  have h2 := (chainL_fine (T := T) hn word (T.length + 1) [(next s).1] (next s).2).1
  show s.pos ≤ (chainL T next word (T.length + 1) [(next s).1] (next s).2).2.pos
  omega, fun s h => by
  have h1 := hn.stuck s h
  show (chainL T next word (T.length + 1) [(next s).1] (next s).2).2 = s
  rw [h1, (chainL_fine hn word _ _ s).2 h]⟩
theorem notS_fine : ∀ d, Fine (notS T d)
  | 0 => ⟨fun s => by
    unfold notS
    split
    · show _ ≤ (failS s 14).pos; rw [fail_pos]; omega
    · exact (cmpS_fine (T := T)).mono s, fun s h => by
    unfold notS
    simp only [sees_stuck h]
    rw [if_neg (by simp)]
    exact (cmpS_fine (T := T)).stuck s h⟩
  | d + 1 => by
    have hd := notS_fine d
    have ho : Fine (chainS T 2 wOr (chainS T 1 wAnd (notS T d))) := chainS_fine (chainS_fine hd 1 wAnd) 2 wOr
    refine ⟨fun s => ?_, fun s h => ?_⟩
    · unfold notS
      split
      · have := hd.mono (adv s)
        rw [adv_pos] at this
        show _ ≤ (notS T d (adv s)).2.pos; omega
      split
      · have h1 := ho.mono (adv s)
        have h2 := must_mono (T := T) 4 mShut (chainS T 2 wOr (chainS T 1 wAnd (notS T d)) (adv s)).2
        rw [adv_pos] at h1
        show _ ≤ (mustS T 4 mShut _).pos; omega
      · exact (cmpS_fine (T := T)).mono s
    · unfold notS
      simp only [sees_stuck h]
      rw [if_neg (by simp), if_neg (by simp)]
      exact (cmpS_fine (T := T)).stuck s h
theorem andS_fine (d : Nat) : Fine (andS T d) := chainS_fine (notS_fine d) _ _
theorem orS_fine (d : Nat) : Fine (orS T d) := chainS_fine (andS_fine d) _ _
/-- Fuel enough. -/
theorem chainL_more {next : PS → Cond × PS} (hn : Fine next) (word : ByteArray) : ∀ (f : Nat) (l : List Cond) (s : PS), T.length + 1 ≤ f + s.pos → seesB T 1 word s = true → ∃ f', f = f' + 1 ∧ T.length + 1 ≤ f' + (next (adv s)).2.pos ∧ chainL T next word f l s = chainL T next word f' (l ++ [(next (adv s)).1]) (next (adv s)).2 := by
  intro f l s hf hs
  have h1 := sees_ok hs
  have h2 := hn.mono (adv s)
  rw [adv_pos] at h2
  obtain ⟨f', rfl⟩ : ∃ f', f = f' + 1 := ⟨f - 1, by omega⟩
  refine ⟨f', rfl, by omega, ?_⟩
  rw [chainL, if_pos hs]
theorem chainL_end {next : PS → Cond × PS} (word : ByteArray) (f : Nat) (l : List Cond) (s : PS) (hs : seesB T 1 word s = false) : chainL T next word f l s = (l, s) := by
  cases f with
  | zero => rfl
  | succ f => rw [chainL, hs]; rfl
end
end Go.Proofs.YtobnaokknkmlcaaDoor
/-
  Tokens parsed, in plain Lean, second part: patterns, options, links, clauses, rules, types, books.
-/
namespace Go.Proofs.YtobnaokknkmlcaaDoor
open Go.RowKit
set_option linter.unusedVariables false
set_option linter.unusedSimpArgs false

structure Pat where
  var : ByteArray
  type : ByteArray
  wher : Cond
  window : Int
  n : Int
structure Opt where
  rel : Int
  lo : Int
  hi : Int
structure Many where
  count : Int
  field : ByteArray
  pat : Pat
structure Lnk where
  left : ByteArray
  opts : List Opt
  right : ByteArray
structure Rul where
  name : ByteArray
  whens : List Pat
  nots : List Pat
  manies : List Many
  links : List Lnk
  etype : ByteArray
  evals : List Opd
structure Typ where
  name : ByteArray
  fields : List Fld
structure Bok where
  types : List Typ
  rules : List Rul

def mColon : ByteArray := ⟨#[58]⟩
def mComma : ByteArray := ⟨#[44]⟩
def mEnd : ByteArray := ⟨#[59]⟩
def mIn : ByteArray := ⟨#[91]⟩
def mOut : ByteArray := ⟨#[93]⟩
def mLeft : ByteArray := ⟨#[123]⟩
def mRight : ByteArray := ⟨#[125]⟩
def wAny : ByteArray := ⟨#[97, 110, 121]⟩
def wEmit : ByteArray := ⟨#[101, 109, 105, 116]⟩
def wInt : ByteArray := ⟨#[105, 110, 116]⟩
def wLast : ByteArray := ⟨#[108, 97, 115, 116]⟩
def wMany : ByteArray := ⟨#[109, 97, 110, 121]⟩
def wOf : ByteArray := ⟨#[111, 102]⟩
def wOver : ByteArray := ⟨#[111, 118, 101, 114]⟩
def wRule : ByteArray := ⟨#[114, 117, 108, 101]⟩
def wText : ByteArray := ⟨#[116, 101, 120, 116]⟩
def wTime : ByteArray := ⟨#[116, 105, 109, 101]⟩
def wType : ByteArray := ⟨#[116, 121, 112, 101]⟩
def wWhen : ByteArray := ⟨#[119, 104, 101, 110]⟩
def wWhere : ByteArray := ⟨#[119, 104, 101, 114, 101]⟩
def wWithin : ByteArray := ⟨#[119, 105, 116, 104, 105, 110]⟩

section
variable (T : List Tok)
/-- Things with a sign between each two: as long as the sign comes. -/
def manyL {α : Type} (k : Int) (x : ByteArray) (next : PS → α × PS) : Nat → List α → PS → List α × PS
  | 0, l, s => (l, s)
  | f + 1, l, s => if seesB T k x s = true then manyL k x next f (l ++ [(next (adv s)).1]) (next (adv s)).2 else (l, s)
def manyS {α : Type} (k : Int) (x : ByteArray) (next : PS → α × PS) (s : PS) : List α × PS := manyL T k x next (T.length + 1) [(next s).1] (next s).2
def patS (s : PS) : Pat × PS :=
  if seesB T 4 mIn (nameS T (mustS T 4 mColon (nameS T s).2)).2 = true then
    (⟨(nameS T s).1, (nameS T (mustS T 4 mColon (nameS T s).2)).1, (orS T 7 (adv (nameS T (mustS T 4 mColon (nameS T s).2)).2)).1, 0, 0⟩, mustS T 4 mOut (orS T 7 (adv (nameS T (mustS T 4 mColon (nameS T s).2)).2)).2)
  else (⟨(nameS T s).1, (nameS T (mustS T 4 mColon (nameS T s).2)).1, cond0, 0, 0⟩, (nameS T (mustS T 4 mColon (nameS T s).2)).2)
def relO (s : PS) : Int :=
  match nxt T s with
  | some t => if t.kind = 1 then behV relsL t.text else 0
  | none => 0
def gapS (r : Int) (s : PS) : Opt × PS :=
  if seesB T 4 mOpen s = true then
    (if seesB T 1 wAny (mustS T 4 mComma (numS T (adv s)).2) = true then (⟨r, (numS T (adv s)).1, -1⟩, mustS T 4 mShut (adv (mustS T 4 mComma (numS T (adv s)).2)))
     else (⟨r, (numS T (adv s)).1, (numS T (mustS T 4 mComma (numS T (adv s)).2)).1⟩, mustS T 4 mShut (numS T (mustS T 4 mComma (numS T (adv s)).2)).2))
  else (⟨r, 0, -1⟩, s)
def optS (s : PS) : Opt × PS := if relO T s = 0 then (⟨0, 0, -1⟩, missS T s) else gapS T (relO T s) (adv s)
def lnkS (s : PS) : Lnk × PS :=
  (⟨(nameS T s).1, (manyS T 1 wOr (optS T) (nameS T s).2).1, (nameS T (manyS T 1 wOr (optS T) (nameS T s).2).2).1⟩, (nameS T (manyS T 1 wOr (optS T) (nameS T s).2).2).2)
def emiS (s : PS) : (ByteArray × List Opd) × PS :=
  if seesB T 4 mShut (mustS T 4 mOpen (nameS T s).2) = true then (((nameS T s).1, []), adv (mustS T 4 mOpen (nameS T s).2))
  else (((nameS T s).1, (manyS T 4 mComma (opdS T) (mustS T 4 mOpen (nameS T s).2)).1), mustS T 4 mShut (manyS T 4 mComma (opdS T) (mustS T 4 mOpen (nameS T s).2)).2)
/-- A pattern's window. -/
def winS (p : Pat) (s : PS) : Pat × PS :=
  if seesB T 1 wOver s = true then
    (if seesB T 1 wLast (adv s) = true then (⟨p.var, p.type, p.wher, 2, (numS T (adv (adv s))).1⟩, (numS T (adv (adv s))).2)
     else (⟨p.var, p.type, p.wher, 1, (numS T (mustS T 1 wTime (adv s))).1⟩, (numS T (mustS T 1 wTime (adv s))).2))
  else (p, s)
def ofS (s : PS) : ByteArray × PS := if seesB T 1 wOf s = true then nameS T (adv s) else (ByteArray.empty, s)
def manS (s : PS) : Many × PS :=
  let c := numS T s
  let f := ofS T c.2
  let p := patS T f.2
  let n := numS T (mustS T 1 wWithin p.2)
  (⟨c.1, f.1, ⟨p.1.var, p.1.type, p.1.wher, 1, n.1⟩⟩, n.2)
/-- A clause, but for its end. -/
def claS (x : Rul) (s : PS) : Rul × PS :=
  if seesB T 1 wWhen s = true then
    ({ x with whens := x.whens ++ [(winS T (patS T (adv s)).1 (patS T (adv s)).2).1] }, (winS T (patS T (adv s)).1 (patS T (adv s)).2).2)
  else if seesB T 1 wNot s = true then ({ x with nots := x.nots ++ [(patS T (adv s)).1] }, (patS T (adv s)).2)
  else if seesB T 1 wMany s = true then ({ x with manies := x.manies ++ [(manS T (adv s)).1] }, (manS T (adv s)).2)
  else if seesB T 1 wWhere s = true then ({ x with links := x.links ++ [(lnkS T (adv s)).1] }, (lnkS T (adv s)).2)
  else if x.etype = ByteArray.empty ∧ seesB T 1 wEmit s = true then ({ x with etype := (emiS T (adv s)).1.1, evals := (emiS T (adv s)).1.2 }, (emiS T (adv s)).2)
  else (x, missS T s)
def clauseS (x : Rul) (s : PS) : Rul × PS := ((claS T x s).1, mustS T 4 mEnd (claS T x s).2)
def clausesL : Nat → Rul → PS → Rul × PS
  | 0, x, s => (x, s)
  | f + 1, x, s => if s.e = 0 then (if seesB T 4 mRight s = true then (x, adv s) else clausesL f (clauseS T x s).1 (clauseS T x s).2) else (x, s)
def kindS (s : PS) : Int × PS := if seesB T 1 wInt s = true then (1, adv s) else (2, mustS T 1 wText s)
def fldS (s : PS) : Fld × PS := (⟨(nameS T s).1, (kindS T (mustS T 4 mColon (nameS T s).2)).1⟩, (kindS T (mustS T 4 mColon (nameS T s).2)).2)
def fldsS (s : PS) : List Fld × PS :=
  if seesB T 4 mRight (mustS T 4 mLeft s) = true then ([], adv (mustS T 4 mLeft s))
  else ((manyS T 4 mComma (fldS T) (mustS T 4 mLeft s)).1, mustS T 4 mRight (manyS T 4 mComma (fldS T) (mustS T 4 mLeft s)).2)
def typS (s : PS) : Typ × PS := (⟨(nameS T s).1, (fldsS T (nameS T s).2).1⟩, (fldsS T (nameS T s).2).2)
def rul0 (nm : ByteArray) : Rul := ⟨nm, [], [], [], [], ByteArray.empty, []⟩
def rulS (s : PS) : Rul × PS := clausesL T (T.length + 2) (rul0 (nameS T s).1) (mustS T 4 mLeft (nameS T s).2)
def bookL : Nat → Bok → PS → Bok × PS
  | 0, b, s => (b, s)
  | f + 1, b, s =>
    if s.e = 0 ∧ s.pos < T.length then
      (if seesB T 1 wType s = true then bookL f { b with types := b.types ++ [(typS T (adv s)).1] } (typS T (adv s)).2
       else if seesB T 1 wRule s = true then bookL f { b with rules := b.rules ++ [(rulS T (adv s)).1] } (rulS T (adv s)).2
       else bookL f b (missS T s))
    else (b, s)
def bookS : Bok × PS := bookL T (T.length + 2) ⟨[], []⟩ ⟨0, 0⟩
end

section
variable {T : List Tok}
theorem manyL_fine {α : Type} {next : PS → α × PS} (hn : Fine next) (k : Int) (x : ByteArray) : ∀ (f : Nat) (l : List α) (s : PS), s.pos ≤ (manyL T k x next f l s).2.pos ∧ (s.e ≠ 0 → manyL T k x next f l s = (l, s))
  | 0, l, s => ⟨Nat.le_refl _, fun _ => rfl⟩
  | f + 1, l, s => by
    unfold manyL
    split
    · rename_i h
      have h1 := hn.mono (adv s)
      have h2 := (manyL_fine hn k x f (l ++ [(next (adv s)).1]) (next (adv s)).2).1
      rw [adv_pos] at h1
      exact ⟨by omega, fun he => absurd (sees_ok h).1 he⟩
    · exact ⟨Nat.le_refl _, fun _ => rfl⟩
theorem manyS_fine {α : Type} {next : PS → α × PS} (hn : Fine next) (k : Int) (x : ByteArray) : Fine (manyS T k x next) := ⟨fun s => by
  have h1 := hn.mono s
  have h2 := (manyL_fine (T := T) hn k x (T.length + 1) [(next s).1] (next s).2).1
  show s.pos ≤ (manyL T k x next (T.length + 1) [(next s).1] (next s).2).2.pos
  omega, fun s h => by
  have h1 := hn.stuck s h
  show (manyL T k x next (T.length + 1) [(next s).1] (next s).2).2 = s
  rw [h1, (manyL_fine hn k x _ _ s).2 h]⟩
theorem manyL_more {α : Type} {next : PS → α × PS} (hn : Fine next) (k : Int) (x : ByteArray) : ∀ (f : Nat) (l : List α) (s : PS), T.length + 1 ≤ f + s.pos → seesB T k x s = true → ∃ f', f = f' + 1 ∧ T.length + 1 ≤ f' + (next (adv s)).2.pos ∧ manyL T k x next f l s = manyL T k x next f' (l ++ [(next (adv s)).1]) (next (adv s)).2 := by
  intro f l s hf hs
  have h1 := sees_ok hs
  have h2 := hn.mono (adv s)
  rw [adv_pos] at h2
  obtain ⟨f', rfl⟩ : ∃ f', f = f' + 1 := ⟨f - 1, by omega⟩
  refine ⟨f', rfl, by omega, ?_⟩
  rw [manyL, if_pos hs]
theorem manyL_end {α : Type} {next : PS → α × PS} (k : Int) (x : ByteArray) (f : Nat) (l : List α) (s : PS) (hs : seesB T k x s = false) : manyL T k x next f l s = (l, s) := by
  cases f with
  | zero => rfl
  | succ f => rw [manyL, hs]; rfl
theorem patS_fine : Fine (patS T) := ⟨fun s => by
  have h1 := (nameS_fine (T := T)).mono s
  have h2 := must_mono (T := T) 4 mColon (nameS T s).2
  have h3 := (nameS_fine (T := T)).mono (mustS T 4 mColon (nameS T s).2)
  unfold patS
  split
  · have h4 := (orS_fine (T := T) 7).mono (adv (nameS T (mustS T 4 mColon (nameS T s).2)).2)
    have h5 := must_mono (T := T) 4 mOut (orS T 7 (adv (nameS T (mustS T 4 mColon (nameS T s).2)).2)).2
    rw [adv_pos] at h4
    show _ ≤ (mustS T 4 mOut _).pos
    omega
  · show _ ≤ (nameS T _).2.pos
    omega, fun s h => by
  unfold patS
  rw [(nameS_fine (T := T)).stuck s h, must_stuck h, (nameS_fine (T := T)).stuck s h, sees_stuck h]
  rfl⟩
theorem relO_ok {s : PS} (h : relO T s ≠ 0) : s.e = 0 ∧ s.pos < T.length := by
  unfold relO nxt at h
  by_cases he : s.e = 0
  · refine ⟨he, ?_⟩
    rw [if_pos he] at h
    by_cases hp : s.pos < T.length
    · exact hp
    · rw [List.getElem?_eq_none (by omega)] at h
      exact absurd rfl h
  · rw [if_neg he] at h; exact absurd rfl h
theorem gapS_fine (r : Int) : Fine (gapS T r) := ⟨fun s => by
  have h1 := (numS_fine (T := T)).mono (adv s)
  have h2 := must_mono (T := T) 4 mComma (numS T (adv s)).2
  have h3 := (numS_fine (T := T)).mono (mustS T 4 mComma (numS T (adv s)).2)
  rw [adv_pos] at h1
  unfold gapS
  split
  · split
    · have h4 := must_mono (T := T) 4 mShut (adv (mustS T 4 mComma (numS T (adv s)).2))
      rw [adv_pos] at h4
      show _ ≤ (mustS T 4 mShut _).pos
      omega
    · have h4 := must_mono (T := T) 4 mShut (numS T (mustS T 4 mComma (numS T (adv s)).2)).2
      show _ ≤ (mustS T 4 mShut _).pos
      omega
  · exact Nat.le_refl _, fun s h => by
  unfold gapS
  rw [sees_stuck h]
  rfl⟩
theorem optS_fine : Fine (optS T) := ⟨fun s => by
  have h1 := (gapS_fine (T := T) (relO T s)).mono (adv s)
  rw [adv_pos] at h1
  unfold optS
  split
  · show _ ≤ (missS T s).pos; rw [miss_pos]; omega
  · omega, fun s h => by
  unfold optS
  rw [if_pos (Classical.byContradiction fun hn => h (relO_ok hn).1)]
  exact miss_stuck h⟩
theorem lnkS_fine : Fine (lnkS T) := ⟨fun s => by
  have h1 := (nameS_fine (T := T)).mono s
  have h2 := (manyS_fine (T := T) (optS_fine (T := T)) 1 wOr).mono (nameS T s).2
  have h3 := (nameS_fine (T := T)).mono (manyS T 1 wOr (optS T) (nameS T s).2).2
  show _ ≤ (nameS T (manyS T 1 wOr (optS T) (nameS T s).2).2).2.pos
  omega, fun s h => by
  show (nameS T (manyS T 1 wOr (optS T) (nameS T s).2).2).2 = s
  rw [(nameS_fine (T := T)).stuck s h, (manyS_fine (T := T) (optS_fine (T := T)) 1 wOr).stuck s h, (nameS_fine (T := T)).stuck s h]⟩
theorem emiS_fine : Fine (emiS T) := ⟨fun s => by
  have h1 := (nameS_fine (T := T)).mono s
  have h2 := must_mono (T := T) 4 mOpen (nameS T s).2
  unfold emiS
  split
  · show _ ≤ (mustS T 4 mOpen (nameS T s).2).pos + 1
    omega
  · have h3 := (manyS_fine (T := T) (opdS_fine (T := T)) 4 mComma).mono (mustS T 4 mOpen (nameS T s).2)
    have h4 := must_mono (T := T) 4 mShut (manyS T 4 mComma (opdS T) (mustS T 4 mOpen (nameS T s).2)).2
    show _ ≤ (mustS T 4 mShut _).pos
    omega, fun s h => by
  unfold emiS
  rw [(nameS_fine (T := T)).stuck s h, must_stuck h, sees_stuck h]
  show mustS T 4 mShut (manyS T 4 mComma (opdS T) s).2 = s
  rw [(manyS_fine (T := T) (opdS_fine (T := T)) 4 mComma).stuck s h, must_stuck h]⟩
theorem winS_fine (p : Pat) : Fine (winS T p) := ⟨fun s => by
  unfold winS
  split
  · split
    · have h1 := (numS_fine (T := T)).mono (adv (adv s))
      rw [adv_pos, adv_pos] at h1
      show _ ≤ (numS T (adv (adv s))).2.pos
      omega
    · have h1 := must_mono (T := T) 1 wTime (adv s)
      have h2 := (numS_fine (T := T)).mono (mustS T 1 wTime (adv s))
      rw [adv_pos] at h1
      show _ ≤ (numS T _).2.pos
      omega
  · exact Nat.le_refl _, fun s h => by
  unfold winS
  rw [sees_stuck h]
  rfl⟩
theorem ofS_fine : Fine (ofS T) := ⟨fun s => by
  have h1 := (nameS_fine (T := T)).mono (adv s)
  rw [adv_pos] at h1
  unfold ofS
  split
  · omega
  · exact Nat.le_refl _, fun s h => by
  unfold ofS
  rw [sees_stuck h]
  rfl⟩
theorem manS_fine : Fine (manS T) := ⟨fun s => by
  have h1 := (numS_fine (T := T)).mono s
  have h2 := (ofS_fine (T := T)).mono (numS T s).2
  have h3 := (patS_fine (T := T)).mono (ofS T (numS T s).2).2
  have h4 := must_mono (T := T) 1 wWithin (patS T (ofS T (numS T s).2).2).2
  have h5 := (numS_fine (T := T)).mono (mustS T 1 wWithin (patS T (ofS T (numS T s).2).2).2)
  show _ ≤ (numS T (mustS T 1 wWithin (patS T (ofS T (numS T s).2).2).2)).2.pos
  omega, fun s h => by
  show (numS T (mustS T 1 wWithin (patS T (ofS T (numS T s).2).2).2)).2 = s
  rw [(numS_fine (T := T)).stuck s h, (ofS_fine (T := T)).stuck s h, (patS_fine (T := T)).stuck s h, must_stuck h, (numS_fine (T := T)).stuck s h]⟩
theorem claS_fine (x : Rul) : Fine (claS T x) := ⟨fun s => by
  have h1 := (patS_fine (T := T)).mono (adv s)
  have h2 := (winS_fine (T := T) (patS T (adv s)).1).mono (patS T (adv s)).2
  have h3 := (manS_fine (T := T)).mono (adv s)
  have h4 := (lnkS_fine (T := T)).mono (adv s)
  have h5 := (emiS_fine (T := T)).mono (adv s)
  have h6 := miss_pos (T := T) s
  rw [adv_pos] at h1 h3 h4 h5
  unfold claS
  split
  · show _ ≤ (winS T _ _).2.pos; omega
  split
  · show _ ≤ (patS T _).2.pos; omega
  split
  · show _ ≤ (manS T _).2.pos; omega
  split
  · show _ ≤ (lnkS T _).2.pos; omega
  split
  · show _ ≤ (emiS T _).2.pos; omega
  · show _ ≤ (missS T s).pos; omega, fun s h => by
  unfold claS
  simp only [sees_stuck h]
  rw [if_neg (by simp), if_neg (by simp), if_neg (by simp), if_neg (by simp), if_neg (by simp)]
  exact miss_stuck h⟩
/-- A clause takes a token, or something is wrong. -/
theorem cla_goes (x : Rul) (s : PS) : s.pos < (claS T x s).2.pos ∨ (claS T x s).2.e ≠ 0 := by
  have h1 := (patS_fine (T := T)).mono (adv s)
  have h2 := (winS_fine (T := T) (patS T (adv s)).1).mono (patS T (adv s)).2
  have h3 := (manS_fine (T := T)).mono (adv s)
  have h4 := (lnkS_fine (T := T)).mono (adv s)
  have h5 := (emiS_fine (T := T)).mono (adv s)
  rw [adv_pos] at h1 h3 h4 h5
  unfold claS
  split
  · left; show _ < (winS T _ _).2.pos; omega
  split
  · left; show _ < (patS T _).2.pos; omega
  split
  · left; show _ < (manS T _).2.pos; omega
  split
  · left; show _ < (lnkS T _).2.pos; omega
  split
  · left; show _ < (emiS T _).2.pos; omega
  · right; exact miss_bad s
theorem clauseS_fine (x : Rul) : Fine (clauseS T x) := ⟨fun s => by
  have h1 := (claS_fine (T := T) x).mono s
  have h2 := must_mono (T := T) 4 mEnd (claS T x s).2
  show _ ≤ (mustS T 4 mEnd (claS T x s).2).pos
  omega, fun s h => by
  show mustS T 4 mEnd (claS T x s).2 = s
  rw [(claS_fine (T := T) x).stuck s h, must_stuck h]⟩
theorem clause_goes (x : Rul) (s : PS) : s.pos < (clauseS T x s).2.pos ∨ (clauseS T x s).2.e ≠ 0 := by
  show s.pos < (mustS T 4 mEnd (claS T x s).2).pos ∨ (mustS T 4 mEnd (claS T x s).2).e ≠ 0
  have h2 := must_mono (T := T) 4 mEnd (claS T x s).2
  rcases cla_goes (T := T) x s with h | h
  · left; omega
  · right; rw [must_stuck h]; exact h
theorem clausesL_mono : ∀ (f : Nat) (x : Rul) (s : PS), s.pos ≤ (clausesL T f x s).2.pos ∧ (s.e ≠ 0 → clausesL T f x s = (x, s))
  | 0, x, s => ⟨Nat.le_refl _, fun _ => rfl⟩
  | f + 1, x, s => by
    unfold clausesL
    refine ⟨?_, fun h => by rw [if_neg h]⟩
    split
    · split
      · show _ ≤ s.pos + 1; omega
      · have h1 := (clauseS_fine (T := T) x).mono s
        have h2 := (clausesL_mono f (clauseS T x s).1 (clauseS T x s).2).1
        omega
    · exact Nat.le_refl _
theorem kindS_fine : Fine (kindS T) := ⟨fun s => by
  have h1 := must_mono (T := T) 1 wText s
  unfold kindS
  split
  · show _ ≤ s.pos + 1; omega
  · exact h1, fun s h => by
  unfold kindS
  rw [sees_stuck h]
  exact must_stuck h⟩
theorem fldS_fine : Fine (fldS T) := ⟨fun s => by
  have h1 := (nameS_fine (T := T)).mono s
  have h2 := must_mono (T := T) 4 mColon (nameS T s).2
  have h3 := (kindS_fine (T := T)).mono (mustS T 4 mColon (nameS T s).2)
  show _ ≤ (kindS T (mustS T 4 mColon (nameS T s).2)).2.pos
  omega, fun s h => by
  show (kindS T (mustS T 4 mColon (nameS T s).2)).2 = s
  rw [(nameS_fine (T := T)).stuck s h, must_stuck h, (kindS_fine (T := T)).stuck s h]⟩
theorem fldsS_fine : Fine (fldsS T) := ⟨fun s => by
  have h1 := must_mono (T := T) 4 mLeft s
  unfold fldsS
  split
  · show _ ≤ (mustS T 4 mLeft s).pos + 1; omega
  · have h2 := (manyS_fine (T := T) (fldS_fine (T := T)) 4 mComma).mono (mustS T 4 mLeft s)
    have h3 := must_mono (T := T) 4 mRight (manyS T 4 mComma (fldS T) (mustS T 4 mLeft s)).2
    show _ ≤ (mustS T 4 mRight _).pos
    omega, fun s h => by
  unfold fldsS
  rw [must_stuck h, sees_stuck h]
  show mustS T 4 mRight (manyS T 4 mComma (fldS T) s).2 = s
  rw [(manyS_fine (T := T) (fldS_fine (T := T)) 4 mComma).stuck s h, must_stuck h]⟩
theorem typS_fine : Fine (typS T) := ⟨fun s => by
  have h1 := (nameS_fine (T := T)).mono s
  have h2 := (fldsS_fine (T := T)).mono (nameS T s).2
  show _ ≤ (fldsS T (nameS T s).2).2.pos
  omega, fun s h => by
  show (fldsS T (nameS T s).2).2 = s
  rw [(nameS_fine (T := T)).stuck s h, (fldsS_fine (T := T)).stuck s h]⟩
theorem rulS_fine : Fine (rulS T) := ⟨fun s => by
  have h1 := (nameS_fine (T := T)).mono s
  have h2 := must_mono (T := T) 4 mLeft (nameS T s).2
  have h3 := (clausesL_mono (T := T) (T.length + 2) (rul0 (nameS T s).1) (mustS T 4 mLeft (nameS T s).2)).1
  show _ ≤ (clausesL T _ _ (mustS T 4 mLeft (nameS T s).2)).2.pos
  omega, fun s h => by
  show (clausesL T (T.length + 2) (rul0 (nameS T s).1) (mustS T 4 mLeft (nameS T s).2)).2 = s
  rw [(nameS_fine (T := T)).stuck s h, must_stuck h, (clausesL_mono _ _ s).2 h]⟩
/-- How much is left to be read. -/
def left_ (T : List Tok) (s : PS) : Nat := T.length - s.pos + (if s.e = 0 then 1 else 0)
theorem left_less {s s' : PS} (h : s.e = 0) (hm : s.pos ≤ s'.pos) (hg : (s.pos < s'.pos ∧ s.pos < T.length) ∨ s'.e ≠ 0) : left_ T s' < left_ T s := by
  unfold left_
  rw [if_pos h]
  rcases hg with hg | hg
  · split <;> omega
  · rw [if_neg hg]; omega
end
end Go.Proofs.YtobnaokknkmlcaaDoor
