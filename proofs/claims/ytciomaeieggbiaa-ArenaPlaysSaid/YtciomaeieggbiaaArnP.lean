/-
  Numbers kept in places, plain: the reference's way (boxes and a stack of free ones), the program's (cells, the free ones in a chain); that they are the same.
-/
import Derived.Test.YtciomaeieggbiaaPlain
namespace Go.Proofs.Ytciomaeieggbiaa
set_option linter.unusedVariables false

structure Jb where
  kind : Int
  number : Int
  place : Int
  turn : Int
structure Fd where
  code : Int
  number : Int
  place : Int
  turn : Int
structure Bx where
  turn : Nat
  number : Int
instance : Inhabited Bx := ⟨⟨0, 0⟩⟩
structure Cl where
  used : Bool
  turn : Nat
  number : Int
  next : Int
instance : Inhabited Cl := ⟨⟨false, 0, 0, -1⟩⟩

/-- The reference's step. -/
def boxFault (bs : List Bx) (p t : Int) : Int :=
  if (0 ≤ p ∧ p ≤ (bs.length : Int) - 1) ∧ (1 ≤ t ∧ t ≤ ((bs.getD p.toNat default).turn : Int)) then
    (if (bs.getD p.toNat default).number = 0 ∨ ((bs.getD p.toNat default).turn : Int) ≠ t then 17 else 0) else 6
def lendS (bs : List Bx) (fr : List Nat) (n : Int) : (List Bx × List Nat) × Fd :=
  if 1 ≤ n ∧ n ≤ 1048576 then
    (if 120 ≤ bs.length - fr.length then ((bs, fr), ⟨8, 0, 0, 0⟩)
     else match fr with
      | [] => ((bs ++ [⟨1, n⟩], []), ⟨0, 0, bs.length, 1⟩)
      | a :: r => ((bs.set a ⟨(bs.getD a default).turn + 1, n⟩, r), ⟨0, 0, a, ((bs.getD a default).turn + 1 : Nat)⟩))
  else ((bs, fr), ⟨2, 0, 0, 0⟩)
def stepS (bs : List Bx) (fr : List Nat) (j : Jb) : (List Bx × List Nat) × Fd :=
  if j.kind = 1 then lendS bs fr j.number
  else if j.kind = 4 then ((bs, fr), ⟨0, (bs.length - fr.length : Nat), 0, 0⟩)
  else if j.kind = 2 ∨ j.kind = 3 then
    (if boxFault bs j.place j.turn = 0 then
      ((if j.kind = 3 then (bs.set j.place.toNat ⟨(bs.getD j.place.toNat default).turn, 0⟩, j.place.toNat :: fr) else (bs, fr)), ⟨0, (bs.getD j.place.toNat default).number, 0, 0⟩)
     else ((bs, fr), ⟨boxFault bs j.place j.turn, 0, 0, 0⟩))
  else ((bs, fr), ⟨3, 0, 0, 0⟩)
def runS : List Bx → List Nat → List Jb → List Fd
  | _, _, [] => []
  | bs, fr, j :: l => (stepS bs fr j).2 :: runS (stepS bs fr j).1.1 (stepS bs fr j).1.2 l
def playV (l : List Jb) : List Fd := if 2000 < l.length then [] else runS [] [] l
theorem runS_at {bs : List Bx} {fr : List Nat} {l : List Jb} {k : Nat} (h : k < l.length) : runS bs fr (l.drop k) = (stepS bs fr l[k]).2 :: runS (stepS bs fr l[k]).1.1 (stepS bs fr l[k]).1.2 (l.drop (k + 1)) := by
  rw [List.drop_eq_getElem_cons h]; rfl
theorem runS_end {bs : List Bx} {fr : List Nat} {l : List Jb} {k : Nat} (h : l.length ≤ k) : runS bs fr (l.drop k) = [] := by
  rw [List.drop_of_length_le h]; rfl

def Cl.box (c : Cl) : Bx := ⟨c.turn, c.number⟩
/-- From f on, the free ones in a chain. -/
def chain (cs : List Cl) : Int → List Nat → Prop
  | f, [] => f = -1
  | f, a :: r => f = a ∧ chain cs (cs.getD a default).next r
/-- The program's state stands for the reference's; k: how many jobs there were. -/
structure Stands (k : Nat) (cs : List Cl) (f : Int) (c : Nat) (bs : List Bx) (fr : List Nat) : Prop where
  boxes : bs = cs.map Cl.box
  used : ∀ x ∈ cs, x.used = decide (x.number ≠ 0)
  turns : ∀ x ∈ cs, x.turn ≤ k
  count : c + fr.length = bs.length
  most : c ≤ 120
  nodup : fr.Nodup
  free : ∀ a ∈ fr, a < cs.length ∧ (cs.getD a default).number = 0
  link : chain cs f fr
  many : bs.length ≤ k
theorem stands_new : Stands 0 [] (-1) 0 [] [] := ⟨rfl, by simp, by simp, rfl, by omega, List.nodup_nil, by simp, rfl, Nat.le_refl _⟩
theorem Stands.later {k : Nat} {cs : List Cl} {f : Int} {c : Nat} {bs : List Bx} {fr : List Nat} (h : Stands k cs f c bs fr) : Stands (k + 1) cs f c bs fr :=
  ⟨h.1, h.2, fun x hx => Nat.le_succ_of_le (h.3 x hx), h.4, h.5, h.6, h.7, h.8, Nat.le_succ_of_le h.9⟩
theorem box_getD (cs : List Cl) (i : Nat) : (cs.map Cl.box).getD i default = (cs.getD i default).box := by
  rw [List.getD_eq_getElem?_getD, List.getD_eq_getElem?_getD, List.getElem?_map]
  cases cs[i]? <;> rfl
theorem chain_set {cs : List Cl} {p : Nat} {x : Cl} : ∀ {f : Int} {fr : List Nat}, p ∉ fr → chain cs f fr → chain (cs.set p x) f fr
  | f, [], _, h => h
  | f, a :: r, hp, h => by
    obtain ⟨h1, h2⟩ := h
    have hpa : p ≠ a := fun e => hp (by simp [e])
    refine ⟨h1, ?_⟩
    have e : (cs.set p x).getD a default = cs.getD a default := by
      rw [List.getD_eq_getElem?_getD, List.getD_eq_getElem?_getD, List.getElem?_set_ne hpa]
    rw [e]
    exact chain_set (fun h => hp (List.mem_cons_of_mem _ h)) h2
theorem chain_snoc {cs : List Cl} {x : Cl} : ∀ {f : Int} {fr : List Nat}, (∀ a ∈ fr, a < cs.length) → chain cs f fr → chain (cs ++ [x]) f fr
  | f, [], _, h => h
  | f, a :: r, hp, h => by
    obtain ⟨h1, h2⟩ := h
    refine ⟨h1, ?_⟩
    have ha := hp a (by simp)
    have e : (cs ++ [x]).getD a default = cs.getD a default := by
      rw [List.getD_eq_getElem?_getD, List.getD_eq_getElem?_getD, List.getElem?_append_left ha]
    rw [e]
    exact chain_snoc (fun b hb => hp b (by simp [hb])) h2
theorem getD_set_ne {cs : List Cl} {p a : Nat} {x : Cl} (h : p ≠ a) : (cs.set p x).getD a default = cs.getD a default := by
  rw [List.getD_eq_getElem?_getD, List.getD_eq_getElem?_getD, List.getElem?_set_ne h]
theorem mem_set' {cs : List Cl} {p : Nat} {x y : Cl} (h : y ∈ cs.set p x) : y ∈ cs ∨ y = x := List.mem_or_eq_of_mem_set h

/-- A number lent, a new cell. -/
theorem stands_lend_new {k : Nat} {cs : List Cl} {f : Int} {c : Nat} {bs : List Bx} {fr : List Nat} (h : Stands k cs f c bs fr) (hf : f < 0) (n : Int) (hn : 1 ≤ n ∧ n ≤ 1048576) (hc : c ≠ 120) :
    fr = [] ∧ f = -1 ∧ lendS bs fr n = ((bs ++ [⟨1, n⟩], []), ⟨0, 0, cs.length, 1⟩) ∧ Stands (k + 1) (cs ++ [⟨true, 1, n, -1⟩]) (-1) (c + 1) (bs ++ [⟨1, n⟩]) [] := by
  have hfr : fr = [] := by
    cases fr with
    | nil => rfl
    | cons a r => have := h.link.1; omega
  subst hfr
  have hcl : bs.length = cs.length := by rw [h.boxes, List.length_map]
  have hc0 := h.count
  have hm := h.most
  simp only [List.length_nil, Nat.add_zero] at hc0
  refine ⟨rfl, h.link, ?_, ?_⟩
  · unfold lendS
    rw [if_pos hn, if_neg (by simp only [List.length_nil]; omega), hcl]
  · refine ⟨by rw [h.boxes]; simp [Cl.box], fun x hx => ?_, fun x hx => ?_, by simp; omega, by omega, List.nodup_nil, by simp, rfl, by simp; have := h.many; omega⟩
    · rcases List.mem_append.1 hx with hx | hx
      · exact h.used x hx
      · rw [List.mem_singleton.1 hx]; simp; omega
    · rcases List.mem_append.1 hx with hx | hx
      · exact Nat.le_succ_of_le (h.turns x hx)
      · rw [List.mem_singleton.1 hx]; simp
/-- .. a cell used anew. -/
theorem stands_lend_old {k : Nat} {cs : List Cl} {f : Int} {c : Nat} {bs : List Bx} {fr : List Nat} (h : Stands k cs f c bs fr) (hf : ¬ f < 0) (n : Int) (hn : 1 ≤ n ∧ n ≤ 1048576) (hc : c ≠ 120) :
    ∃ (i : Nat) (r : List Nat) (hi : i < cs.length), f = i ∧ fr = i :: r ∧ cs[i].turn ≤ k ∧
      lendS bs fr n = ((bs.set i ⟨cs[i].turn + 1, n⟩, r), ⟨0, 0, i, (cs[i].turn + 1 : Nat)⟩) ∧ Stands (k + 1) (cs.set i ⟨true, cs[i].turn + 1, n, cs[i].next⟩) cs[i].next (c + 1) (bs.set i ⟨cs[i].turn + 1, n⟩) r := by
  cases fr with
  | nil => have : f = -1 := h.link; omega
  | cons i r =>
    obtain ⟨h1, h2⟩ := h.link
    obtain ⟨hi, hz⟩ := h.free i (by simp)
    have hcl : bs.length = cs.length := by rw [h.boxes, List.length_map]
    have hgd : cs.getD i default = cs[i] := by simp [List.getD, List.getElem?_eq_getElem hi]
    rw [hgd] at h2 hz
    have hnd := List.nodup_cons.1 h.nodup
    have hc0 := h.count
    have hm := h.most
    simp only [List.length_cons] at hc0
    have hti : cs[i].turn ≤ k := h.turns _ (List.getElem_mem hi)
    have hbg : (bs.getD i default).turn = cs[i].turn := by rw [h.boxes, box_getD, hgd]; rfl
    refine ⟨i, r, hi, h1, rfl, hti, ?_, ?_⟩
    · unfold lendS
      rw [if_pos hn, if_neg (by simp only [List.length_cons]; omega)]
      simp only [hbg]
    · refine ⟨by rw [h.boxes, List.map_set]; rfl, fun x hx => ?_, fun x hx => ?_, by simp; omega, by omega, hnd.2, fun a ha => ?_, ?_, by simp; have := h.many; omega⟩
      · rcases mem_set' hx with hx | rfl
        · exact h.used x hx
        · simp; omega
      · rcases mem_set' hx with hx | rfl
        · exact Nat.le_succ_of_le (h.turns x hx)
        · show cs[i].turn + 1 ≤ k + 1; omega
      · have hne : i ≠ a := fun e => hnd.1 (e ▸ ha)
        rw [List.length_set, getD_set_ne hne]
        exact h.free a (by simp [ha])
      · exact chain_set hnd.1 h2
/-- A place given back. -/
theorem stands_back {k : Nat} {cs : List Cl} {f : Int} {c : Nat} {bs : List Bx} {fr : List Nat} (h : Stands k cs f c bs fr) (p : Nat) (hp : p < cs.length) (hn : cs[p].number ≠ 0) :
    1 ≤ c ∧ Stands (k + 1) (cs.set p ⟨false, cs[p].turn, 0, f⟩) p (c - 1) (bs.set p ⟨cs[p].turn, 0⟩) (p :: fr) := by
  have hgd : cs.getD p default = cs[p] := by simp [List.getD, List.getElem?_eq_getElem hp]
  have hpf : p ∉ fr := fun hm => hn (by have := (h.free p hm).2; rwa [hgd] at this)
  have hcl : bs.length = cs.length := by rw [h.boxes, List.length_map]
  have hlt : fr.length < cs.length := by
    have h1 : (p :: fr).Nodup := List.nodup_cons.2 ⟨hpf, h.nodup⟩
    have h2 : (p :: fr) ⊆ List.range cs.length := fun a ha => by
      rcases List.mem_cons.1 ha with rfl | ha
      · exact List.mem_range.2 hp
      · exact List.mem_range.2 (h.free a ha).1
    have h3 := List.Nodup.length_le_of_subset h1 h2
    simp at h3; omega
  have hc0 := h.count
  refine ⟨by omega, by rw [h.boxes, List.map_set]; rfl, fun x hx => ?_, fun x hx => ?_, by simp; omega, by have := h.most; omega, List.nodup_cons.2 ⟨hpf, h.nodup⟩, fun a ha => ?_, ⟨rfl, ?_⟩, by simp; have := h.many; omega⟩
  · rcases mem_set' hx with hx | rfl
    · exact h.used x hx
    · simp
  · rcases mem_set' hx with hx | rfl
    · exact Nat.le_succ_of_le (h.turns x hx)
    · show cs[p].turn ≤ k + 1; have := h.turns _ (List.getElem_mem hp); omega
  · rcases List.mem_cons.1 ha with rfl | ha
    · rw [List.length_set]
      exact ⟨hp, by simp [List.getD, hp]⟩
    · have hne : p ≠ a := fun e => hpf (e ▸ ha)
      rw [List.length_set, getD_set_ne hne]
      exact h.free a ha
  · have e : ((cs.set p ⟨false, cs[p].turn, 0, f⟩).getD p default).next = f := by simp [List.getD, hp]
    rw [e]
    exact chain_set hpf h.link
end Go.Proofs.Ytciomaeieggbiaa
