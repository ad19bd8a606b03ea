/-
  slices.SortFunc of timers of one's own, by time and order.
-/
import Derived.Test.YtpnhkkjjdcjmgaaWiD
import Derived.Test.YtpnhkkjjdcjmgaaWiB
import Derived.Test.YtpnhkkjjdcjmgaaShelf
namespace Go.Proofs.Ytpnhkkjjdcjmgaa
open Go.RowKit Go.Shelf Go.Lib Go.Sort
set_option linter.unusedVariables false
set_option linter.unusedSimpArgs false

theorem ltOf_key (x y : TmB) : Go.Proofs.ltOf cmpT x y = true ↔ keyLt x.1 y.1 := by
  unfold Go.Proofs.ltOf cmpT keyLt
  rw [decide_eq_true_eq]
  by_cases h : (x.1.at_ : Int) - y.1.at_ = 0
  · rw [if_pos h]; omega
  · rw [if_neg h]; omega
theorem swoT : SWO (Go.Proofs.ltOf cmpT) where
  irrefl x := by
    have := ltOf_key x x
    unfold keyLt at this
    cases h : Go.Proofs.ltOf cmpT x x with
    | false => rfl
    | true => have := this.1 h; omega
  trans x y z h1 h2 := by
    have a := (ltOf_key x y).1 h1
    have b := (ltOf_key y z).1 h2
    refine (ltOf_key x z).2 ?_
    unfold keyLt at *
    omega
  ntrans x y z h1 h2 := by
    have a : ¬ keyLt x.1 y.1 := fun h => by rw [(ltOf_key x y).2 h] at h1; cases h1
    have b : ¬ keyLt y.1 z.1 := fun h => by rw [(ltOf_key y z).2 h] at h2; cases h2
    cases h : Go.Proofs.ltOf cmpT x z with
    | false => rfl
    | true =>
      have c := (ltOf_key x z).1 h
      unfold keyLt at *
      omega
theorem cmpLaysT (blk off size : Nat) (w : World) : CmpLays Try.prog 23 #[] tmE 3 cmpT blk off size w :=
  fun _ _ _ _ x y => byTime_any x y _
section
variable {g : Nat} {w0 : World}
theorem sort_any {w : World} {v : Value} {xs : List Tm} {L : List Ent} (M : Mem (StaysB g w0) g w0 w ⟨0, 0⟩ (slc w0.heap.size 60 3 tmF v xs :: L)) (hb : ∀ t ∈ xs, t.at_ ≤ 1099511627776 ∧ t.ord ≤ 1099511627776) (hn : xs.length ≤ 1000000) :
    Calls Try.prog 22 #[v, .func (.func 23) #[] #[]] w fun e w' => e = .returned (.tuple #[]) ∧ ∃ ys : List Tm, ys.Perm xs ∧ (∀ i j (hi : i < ys.length) (hj : j < ys.length), i < j → ¬ keyLt ys[j] ys[i]) ∧ Mem (StaysB g w0) g w0 w' ⟨0, 0⟩ (slc w0.heap.size 60 3 tmF v ys :: L) := by
  by_cases hx : xs = []
  · subst hx
    obtain ⟨ra, rc, hv⟩ := slc_slice M (i := 0) rfl
    subst hv
    have h := AnyF.slices_SortFunc_none { Try.sortTm with } ra rc (.func (.func 23) #[] #[]) w
    refine Calls.mono (P := Try.prog) h ?_
    rintro e w' ⟨rfl, rfl⟩
    exact ⟨rfl, [], List.Perm.refl _, fun i j hi => absurd hi (Nat.not_lt_zero i), M⟩
  · obtain ⟨z, sp, rc, rfl, hl, hnr, hmr, M2⟩ := M.opened hx
    have hlist := boundL_list xs hb
    have hsize := boundL_size xs hb
    generalize boundL xs hb = d at hlist hsize
    rw [← hlist] at M2
    have hne := M2.ne (List.mem_cons_self ..)
    have eg : ∀ args w, (callFunc 23 args).run Try.prog w = .ok (.enter 23 args) w := enters_of Try.func23 (by kernel_rfl) rfl
    have h := AnyQ.slices_SortFunc Try.sortTm 3 (fun w => by kernel_rfl) (fun w => by kernel_rfl) tmE (fun _ => rfl) (fun x q hq => one_cons rfl (one_cons rfl (one_cons rfl one_nil)) q hq) cmpT swoT 23 #[] z 0 rc d w eg (cmpLaysT z 0 d.size w) M2.holdsK hne.2.2 (by omega)
    rw [hsize] at h
    refine Calls.mono (P := Try.prog) h ?_
    rintro e w' ⟨rfl, d', nn, os, hp, hs, rfl⟩
    have hs1 : d'.size = d.size := hp.1
    have hpl : d'.toList.Perm d.toList := by
      have h3 := hp.2.2
      rwa [← hsize, Array.extract_size, ← hs1, Array.extract_size] at h3
    have M3 := M2.sorted_ (d' := d') (n := nn) (os := os) hs1
    refine ⟨rfl, d'.toList.map Subtype.val, ?_, fun i j hi hj hij hk => ?_, ?_⟩
    · rw [← hlist]; exact hpl.map _
    · have hi2 : i < d'.size := by simpa using hi
      have hj2 : j < d'.size := by simpa using hj
      have h4 := hs i j (Nat.zero_le _) hij (by omega)
      have h5 := (ltOf_key d'[j]! d'[i]!).2 (by
        rw [getElem!_pos d' j hj2, getElem!_pos d' i hi2]
        simpa using hk)
      rw [h5] at h4
      cases h4
    · have hlen : (d'.toList.map Subtype.val).length = xs.length := by simp [hs1, hsize]
      have h6 := M3.closed (rc := rc) (by
        rw [List.length_append, rowsC_len] at hl ⊢
        rw [hlen]; exact hl) (by rw [hlen]; exact hnr) hmr
      rw [hlen] at h6
      exact h6
end
end Go.Proofs.Ytpnhkkjjdcjmgaa
