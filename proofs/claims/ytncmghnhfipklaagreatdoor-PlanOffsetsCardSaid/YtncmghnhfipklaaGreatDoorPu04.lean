/-
  The least bounds that come of a matrix's own, in plain Lean: a matrix that is tightened in rounds comes to the same as one that is tightened in place, point by point.
-/
import Derived.Test.YtncmghnhfipklaaGreatDoorPu03
import Derived.Test.YtncmghnhfipklaaGreatDoorPu01
import Derived.StillTailTactics
namespace Go.Proofs.YtncmghnhfipklaaGreatDoor
open Go Go.RowKit
set_option linter.unusedVariables false
set_option linter.unusedSimpArgs false
def cellT(k i:Nat)(s:Mx×Bool)(j:Nat):Mx×Bool:=
 if s.1 i k=NOB∨s.1 k j=NOB then s else if wrap64 (s.1 i k+s.1 k j)<s.1 i j then(setB s.1 i j (wrap64 (s.1 i k+s.1 k j)),true)else s
def stepT(n i:Nat)(s:Mx×Bool)(k:Nat):Mx×Bool:=(List.range n).foldl (cellT k i) s
def rowT(n:Nat)(s:Mx×Bool)(i:Nat):Mx×Bool:=(List.range n).foldl (stepT n i) s
def passT(n:Nat)(g:Mx):Mx×Bool:=(List.range n).foldl (rowT n) (g,false)
def negB(n:Nat)(g:Mx):Bool:=(List.range n).any fun i=>decide (g i i<0)
def tight(n:Nat):Nat→Mx→Option Mx
 |0,g=>some g
 |r+1,g=>if negB n (passT n g).1=true then none else if(passT n g).2=true then tight n r (passT n g).1 else some (passT n g).1
theorem cellT_le(k i:Nat)(s:Mx×Bool)(j:Nat):LeM (cellT k i s j).1 s.1:=by
 unfold cellT
 split
 ·exact LeM.refl _
 ·split
  ·rename_i h;exact setB_le (by omega)
  ·exact LeM.refl _
theorem stepT_le(n i:Nat)(s:Mx×Bool)(k:Nat):LeM (stepT n i s k).1 s.1:=fold_inv _ (fun _ t=>LeM t.1 s.1) n s (LeM.refl _) fun j t _ h=>(cellT_le k i t j).trans h
theorem rowT_le(n:Nat)(s:Mx×Bool)(i:Nat):LeM (rowT n s i).1 s.1:=fold_inv _ (fun _ t=>LeM t.1 s.1) n s (LeM.refl _) fun k t _ h=>(stepT_le n i t k).trans h
theorem passT_le(n:Nat)(g:Mx):LeM (passT n g).1 g:=fold_inv _ (fun _ t=>LeM t.1 g) n (g,false) (LeM.refl _) fun i t _ h=>(rowT_le n t i).trans h
theorem stepT_low{I:Mx×Bool→Prop}{n i k:Nat}(hi:i<n)(hk:k<n)(D:Mx)
  (hI: ∀ t j,j<n→I t→I (cellT k i t j))(hw: ∀ t j,j<n→I t→t.1 i k≠NOB→t.1 k j≠NOB→wrap64 (t.1 i k+t.1 k j)=t.1 i k+t.1 k j)
  (hN: ∀ t,I t→ ∀ b,b<n→t.1 i b≤NOB)(s:Mx×Bool)(hs:I s)(hDN: ∀ b,b<n→D i b≤NOB∧D k b≤NOB)(h1: ∀ b,b<n→s.1 i b≤D i b)(h2: ∀ b,b<n→s.1 k b≤D k b):
  I (stepT n i s k)∧ ∀ b,b<n→(stepT n i s k).1 i b≤lyr D k i b:=by
 have H:=fold_inv (cellT k i) (fun j t=>I t∧LeM t.1 s.1∧ ∀ b,b<j→b<n→t.1 i b≤smB (D i k) (D k b)) n s ⟨hs,LeM.refl _,fun b hb=>absurd hb (Nat.not_lt_zero b)⟩ (fun j t hj ht=>by
  obtain⟨a1,a2,a3⟩:=ht
  have c1:=hI t j hj a1
  have c2:=cellT_le k i t j
  refine⟨c1,c2.trans a2,fun b hb hbn=>?_⟩
  by_cases e:b=j
  ·subst e
   unfold smB
   split
   ·exact hN _ c1 b hbn
   ·rename_i hnn
    have n1:D i k≠NOB:=fun h=>hnn (Or.inl h)
    have n2:D k b≠NOB:=fun h=>hnn (Or.inr h)
    have l1:t.1 i k≤D i k:=Int.le_trans (a2 i k) (h1 k hk)
    have l2:t.1 k b≤D k b:=Int.le_trans (a2 k b) (h2 b hbn)
    have m1:=(hDN k hk).1
    have m2:=(hDN b hbn).2
    have f1:t.1 i k≠NOB:=fun h=>by rw[h]at l1;omega
    have f2:t.1 k b≠NOB:=fun h=>by rw[h]at l2;omega
    have w:=hw t b hj a1 f1 f2
    unfold cellT
    rw[if_neg (by intro h;rcases h with h|h;exact f1 h;exact f2 h),w]
    split
    ·show setB t.1 i b _ i b≤_
     unfold setB
     rw[if_pos ⟨rfl,rfl⟩];omega
    ·rename_i hh
     show t.1 i b≤_
     omega
  ·exact Int.le_trans (c2 i b) (a3 b (by omega) hbn))
 obtain⟨b1,b2,b3⟩:=H
 refine⟨b1,fun b hb=>?_⟩
 unfold lyr
 exact Int.le_min.2 ⟨Int.le_trans (b2 i b) (h1 b hb),b3 b hb hb⟩
theorem Fs_no{n:Nat}{g:Mx}(hg:RB n 0 g)(k a b:Nat)(ha:a<n)(hb:b<n):Fs g k a b≤NOB:=
 Int.le_trans (Fs_anti g 0 k (Nat.zero_le _) a b) ((hg.rg (by omega)) a b ha hb).2
theorem rowT_low{I:Mx×Bool→Prop}{n i m:Nat}(hi:i<n)(hm:m≤n){g:Mx}(hg:RB n 0 g)
  (hI: ∀ i k t j,i<n→k<n→j<n→I t→I (cellT k i t j))(hw: ∀ i k t j,i<n→k<n→j<n→I t→t.1 i k≠NOB→t.1 k j≠NOB→wrap64 (t.1 i k+t.1 k j)=t.1 i k+t.1 k j)
  (hN: ∀ t,I t→ ∀ a b,a<n→b<n→t.1 a b≤NOB)(s:Mx×Bool)(hs:I s)(h0: ∀ b,b<n→s.1 i b≤g i b)(hr: ∀ x,x<m→ ∀ b,b<n→s.1 x b≤Fs g x x b):
  I (rowT n s i)∧ ∀ b,b<n→(rowT n s i).1 i b≤Fs g m i b:=by
 have H:=fold_inv (stepT n i) (fun k t=>I t∧LeM t.1 s.1∧ ∀ b,b<n→t.1 i b≤Fs g (min k m) i b) n s ⟨hs,LeM.refl _,fun b hb=>by rw[Nat.zero_min];exact h0 b hb⟩ (fun k t hk ht=>by
  obtain⟨a1,a2,a3⟩:=ht
  by_cases e:k<m
  ·rw[Nat.min_eq_left (by omega)]at a3
   rw[Nat.min_eq_left (by omega)]
   have:=stepT_low hi hk (Fs g k) (fun t j hj h=>hI i k t j hi hk hj h) (fun t j hj h=>hw i k t j hi hk hj h) (fun t h b hb=>hN t h i b hi hb) t a1 (fun b hb=>⟨Fs_no hg k i b hi hb,Fs_no hg k k b hk hb⟩) a3 (fun b hb=>Int.le_trans (a2 k b) (hr k e b hb))
   exact⟨this.1,(stepT_le n i t k).trans a2,this.2⟩
  ·rw[Nat.min_eq_right (by omega)]at a3
   rw[Nat.min_eq_right (by omega)]
   have c:=fold_inv (cellT k i) (fun _ t=>I t) n t a1 (fun j t hj h=>hI i k t j hi hk hj h)
   exact⟨c,(stepT_le n i t k).trans a2,fun b hb=>Int.le_trans (stepT_le n i t k i b) (a3 b hb)⟩)
 obtain⟨b1,b2,b3⟩:=H
 rw[Nat.min_eq_right hm]at b3
 exact⟨b1,b3⟩
def Btw(n:Nat)(F:Mx)(s:Mx×Bool):Prop:= ∀ a b,a<n→b<n→F a b≤s.1 a b∧s.1 a b≤NOB
structure Shut (n:Nat) (F:Mx):Prop where
 tri:Tri n n F
 diag: ∀ i,i<n→F i i=0
 low: ∀ a b,a<n→b<n→F a b=NOB∨(-8796093022208≤F a b∧F a b≤8796093022208)
theorem Btw.sum{n:Nat}{F:Mx}(hF:Shut n F){s:Mx×Bool}(h:Btw n F s){i k j:Nat}(hi:i<n)(hk:k<n)(hj:j<n)(f1:s.1 i k≠NOB)(f2:s.1 k j≠NOB):
  wrap64 (s.1 i k+s.1 k j)=s.1 i k+s.1 k j∧F i j≤s.1 i k+s.1 k j:=by
 obtain⟨a1,a2⟩:=h i k hi hk
 obtain⟨b1,b2⟩:=h k j hk hj
 have g1:F i k≠NOB:=fun e=>by rw[e]at a1;omega
 have g2:F k j≠NOB:=fun e=>by rw[e]at b1;omega
 have l1:=(hF.low i k hi hk).resolve_left g1
 have l2:=(hF.low k j hk hj).resolve_left g2
 have tr:=smB_le (hF.tri k hk i j hi hj) g1 g2
 unfold NOB at *
 exact⟨IntWalk.wrap64_in _ (by omega),by omega⟩
theorem Btw.cell{n:Nat}{F:Mx}(hF:Shut n F){s:Mx×Bool}(h:Btw n F s){i k j:Nat}(hi:i<n)(hk:k<n)(hj:j<n):Btw n F (cellT k i s j):=by
 unfold cellT
 split
 ·exact h
 ·rename_i hnn
  have S:=h.sum hF hi hk hj (fun e=>hnn (Or.inl e)) (fun e=>hnn (Or.inr e))
  rw[S.1]
  split
  ·rename_i hl
   intro a b ha hb
   have hab:=h a b ha hb
   have hij:=h i j hi hj
   show F a b≤setB s.1 i j _ a b∧setB s.1 i j _ a b≤NOB
   unfold setB
   split
   ·rename_i e;obtain⟨rfl,rfl⟩:=e
    exact⟨S.2,by omega⟩
   ·exact hab
  ·exact h
theorem shut_Fs{n:Nat}{g:Mx}(hn:n≤12)(hg:RB n 0 g)(hG:Good g n):Shut n (Fs g n):=
 ⟨Fs_tri hn hg n (Nat.le_refl _) hG,Fs_diag hn hg n (Nat.le_refl _) hG,fun a b ha hb=>by
  have hp:=pow_le12 hn
  rcases Fs_bound hg n (Nat.le_refl _) a b ha hb with e|e
  ·exact Or.inl e
  ·right;omega⟩
theorem pass_one{n:Nat}{g:Mx}(hn:n≤12)(hg:RB n 0 g)(hG:Good g n):Btw n (Fs g n) (passT n g)∧ ∀ x,x<n→ ∀ b,b<n→(passT n g).1 x b≤Fs g x x b:=by
 have hF:=shut_Fs hn hg hG
 have H:=fold_inv (rowT n) (fun i s=>Btw n (Fs g n) s∧LeM s.1 g∧ ∀ x,x<i→ ∀ b,b<n→s.1 x b≤Fs g x x b) n (g,false)
  ⟨fun a b ha hb=>⟨Fs_anti g 0 n (Nat.zero_le _) a b,Fs_no hg 0 a b ha hb⟩,LeM.refl _,fun x hx=>absurd hx (Nat.not_lt_zero x)⟩ (fun i s hi hs=>by
   obtain⟨a1,a2,a3⟩:=hs
   have R:=rowT_low (I:=Btw n (Fs g n)) hi (m:=i) (by omega) hg (fun i k t j hi hk hj h=>h.cell hF hi hk hj) (fun i k t j hi hk hj h f1 f2=>(h.sum hF hi hk hj f1 f2).1) (fun t h a b ha hb=>(h a b ha hb).2) s a1 (fun b hb=>a2 i b) a3
   refine⟨R.1,(rowT_le n s i).trans a2,fun x hx b hb=>?_⟩
   by_cases e:x=i
   ·rw[e];exact R.2 b hb
   ·exact Int.le_trans (rowT_le n s i x b) (a3 x (by omega) b hb))
 exact⟨H.1,H.2.2⟩
theorem pass_two{n:Nat}{g d:Mx}(hn:n≤12)(hg:RB n 0 g)(hG:Good g n)(hd:Btw n (Fs g n) (d,false))(hdg:LeM d g)(h1: ∀ x,x<n→ ∀ b,b<n→d x b≤Fs g x x b):
  ∀ a b,a<n→b<n→(passT n d).1 a b=Fs g n a b:=by
 have hF:=shut_Fs hn hg hG
 have H:=fold_inv (rowT n) (fun i s=>Btw n (Fs g n) s∧LeM s.1 d∧ ∀ x,x<i→ ∀ b,b<n→s.1 x b≤Fs g n x b) n (d,false)
  ⟨hd,LeM.refl _,fun x hx=>absurd hx (Nat.not_lt_zero x)⟩ (fun i s hi hs=>by
   obtain⟨a1,a2,a3⟩:=hs
   have R:=rowT_low (I:=Btw n (Fs g n)) hi (m:=n) (Nat.le_refl _) hg (fun i k t j hi hk hj h=>h.cell hF hi hk hj) (fun i k t j hi hk hj h f1 f2=>(h.sum hF hi hk hj f1 f2).1) (fun t h a b ha hb=>(h a b ha hb).2) s a1 (fun b hb=>Int.le_trans (a2 i b) (hdg i b)) (fun x hx b hb=>Int.le_trans (a2 x b) (h1 x hx b hb))
   refine⟨R.1,(rowT_le n s i).trans a2,fun x hx b hb=>?_⟩
   by_cases e:x=i
   ·rw[e];exact R.2 b hb
   ·exact Int.le_trans (rowT_le n s i x b) (a3 x (by omega) b hb))
 intro a b ha hb
 have h2:=H.2.2 a ha b hb
 have h3:=(H.1 a b ha hb).1
 exact Int.le_antisymm h2 h3
theorem pass_still{n:Nat}{F d:Mx}(hF:Shut n F)(hd: ∀ a b,a<n→b<n→d a b=F a b):passT n d=(d,false):=by
 have hN: ∀ a b,a<n→b<n→F a b≤NOB:=fun a b ha hb=>by
  rcases hF.low a b ha hb with e|e
  ·rw[e];exact Int.le_refl _
  ·unfold NOB;omega
 have hB:Btw n F (d,false):=fun a b ha hb=>by rw[show(d,false).1 a b=d a b from rfl,hd a b ha hb];exact⟨Int.le_refl _,hN a b ha hb⟩
 refine fold_inv (rowT n) (fun _ s=>s=(d,false)) n (d,false) rfl (fun i s hi hs=>?_)
 subst hs
 refine fold_inv (stepT n i) (fun _ s=>s=(d,false)) n (d,false) rfl (fun k s hk hs=>?_)
 subst hs
 refine fold_inv (cellT k i) (fun _ s=>s=(d,false)) n (d,false) rfl (fun j s hj hs=>?_)
 subst hs
 unfold cellT
 split
 ·rfl
 ·rename_i hnn
  have S:=hB.sum hF hi hk hj (fun e=>hnn (Or.inl e)) (fun e=>hnn (Or.inr e))
  rw[S.1,if_neg]
  have:=hd i j hi hj
  have:=S.2
  show ¬ (_<d i j)
  omega
theorem pass_flag(n:Nat)(g:Mx)(h:(passT n g).2=false):(passT n g).1=g:=by
 have H:=fold_inv (rowT n) (fun _ s=>s.2=false→s.1=g) n (g,false) (fun _=>rfl) (fun i s _ hs=>by
  refine fold_inv (stepT n i) (fun _ s=>s.2=false→s.1=g) n s hs (fun k s _ hs=>?_)
  refine fold_inv (cellT k i) (fun _ s=>s.2=false→s.1=g) n s hs (fun j s _ hs=>?_)
  unfold cellT
  split
  ·exact hs
  ·split
   ·intro h;exact absurd (show true=false from h) (by decide)
   ·exact hs)
 exact H h
theorem negB_not{n:Nat}{F:Mx}(hF:Shut n F){s:Mx×Bool}(h:Btw n F s):negB n s.1=false:=by
 unfold negB
 rw[List.any_eq_false]
 intro i hi
 have hi:=List.mem_range.1 hi
 have h1:=(h i i hi hi).1
 rw[hF.diag i hi]at h1
 simp;omega
theorem tight_good{n:Nat}{g:Mx}(hn:n≤12)(hg:RB n 0 g)(hG:Good g n): ∃ d,tight n (n+1) g=some d∧ ∀ a b,a<n→b<n→d a b=Fs g n a b:=by
 have hF:=shut_Fs hn hg hG
 obtain⟨p1,p2⟩:=pass_one hn hg hG
 have pf:Btw n (Fs g n) ((passT n g).1,false):=p1
 have P2:=pass_two hn hg hG pf (passT_le n g) p2
 have B2:Btw n (Fs g n) (passT n (passT n g).1):=fun a b ha hb=>by rw[P2 a b ha hb];exact⟨Int.le_refl _,Fs_no hg n a b ha hb⟩
 unfold tight
 rw[if_neg (by rw[negB_not hF p1];decide)]
 by_cases c1:(passT n g).2=true
 ·rw[if_pos c1]
  cases n with
  |zero=>exact⟨_,rfl,fun a b ha=>absurd ha (Nat.not_lt_zero a)⟩
  |succ n=>
   unfold tight
   rw[if_neg (by rw[negB_not hF B2];decide)]
   by_cases c2:(passT (n+1) (passT (n+1) g).1).2=true
   ·rw[if_pos c2]
    cases n with
    |zero=>exact⟨_,rfl,P2⟩
    |succ n=>
     have P3:=pass_still hF P2
     unfold tight
     rw[P3]
     rw[if_neg (by rw[show(((passT (n+1+1) (passT (n+1+1) g).1).1,false):Mx×Bool).1=(passT (n+1+1) (passT (n+1+1) g).1).1 from rfl,negB_not hF B2];decide)]
     exact⟨_,rfl,P2⟩
   ·rw[if_neg c2]
    exact⟨_,rfl,P2⟩
 ·rw[if_neg c1]
  have e:=pass_flag n g (by simpa using c1)
  rw[e]at P2 ⊢
  rw[e]at P2
  exact⟨_,rfl,P2⟩
end Go.Proofs.YtncmghnhfipklaaGreatDoor
/-
  The least bounds that come of a matrix's own, in plain Lean: where a way comes back below 0, the rounds find it, too.
-/
namespace Go.Proofs.YtncmghnhfipklaaGreatDoor
open Go Go.RowKit
set_option linter.unusedVariables false
set_option linter.unusedSimpArgs false
def dead(n:Nat)(g:Mx):Prop:= ∃ x,x<n∧g x x<0
theorem dead_le{n:Nat}{a b:Mx}(h:dead n b)(hl:LeM a b):dead n a:=by
 obtain⟨x,hx,h⟩:=h
 exact⟨x,hx,by have:=hl x x;omega⟩
theorem stepT_bad{n i k:Nat}(hi:i<n)(hk:k<n)(s:Mx×Bool)(hd: ∀ x,x<n→s.1 x x=0)(hN: ∀ a b,a<n→b<n→s.1 a b≤NOB)(L Q:Int)(hL:0≤L)(hQ:0≤Q)(hLQ:L+Q≤1152921504606846976)
  (l1: ∀ b,b<n→ -L≤s.1 i b)(l2: ∀ b,b<n→ -Q≤s.1 k b)(D:Mx)(hDN: ∀ b,b<n→D i b≤NOB∧D k b≤NOB)(e1: ∀ b,b<n→s.1 i b≤D i b)(e2: ∀ b,b<n→s.1 k b≤D k b):
  (∀ x b,x≠i→(stepT n i s k).1 x b=s.1 x b)∧(∀ b,b<n→ -(L+Q)≤(stepT n i s k).1 i b)∧(k=i→ ∀ b,b<n→(stepT n i s k).1 i b=s.1 i b)∧ ∀ b,b<n→(stepT n i s k).1 i b≤lyr D k i b:=by
 have H:=stepT_low (I:=fun t=>(∀ x b,x≠i→t.1 x b=s.1 x b)∧t.1 i k=s.1 i k∧(∀ b,b<n→ -(L+Q)≤t.1 i b∧t.1 i b≤NOB)∧(k=i→ ∀ b,b<n→t.1 i b=s.1 i b)) hi hk D (fun t j hj ht=>by
   obtain⟨a1,a2,a3,a4⟩:=ht
   by_cases hch:(cellT k i t j)=t
   ·rw[hch];exact⟨a1,a2,a3,a4⟩
   ·have hfin:t.1 i k≠NOB∧t.1 k j≠NOB∧wrap64 (t.1 i k+t.1 k j)<t.1 i j:=by
     unfold cellT at hch
     by_cases c:t.1 i k=NOB∨t.1 k j=NOB
     ·rw[if_pos c]at hch;exact absurd rfl hch
     ·rw[if_neg c]at hch
      by_cases c2:wrap64 (t.1 i k+t.1 k j)<t.1 i j
      ·exact⟨fun e=>c (Or.inl e),fun e=>c (Or.inr e),c2⟩
      ·rw[if_neg c2]at hch;exact absurd rfl hch
    obtain⟨f1,f2,f3⟩:=hfin
    have tik:=l1 k hk
    rw[←a2]at tik
    have tikN:=(a3 k hk).2
    by_cases hki:k=i
    ·exfalso
     subst hki
     have h0:t.1 k k=0:=by rw[a2];exact hd k hk
     have hj2:=a3 j hj
     rw[h0,Int.zero_add,IntWalk.wrap64_in _ (by unfold NOB at hj2;omega)]at f3
     omega
    ·have rk:t.1 k j=s.1 k j:=a1 k j hki
     have lk:=l2 j hj
     have hkN:=hN k j hk hj
     rw[rk]at f2 f3
     rw[IntWalk.wrap64_in _ (by unfold NOB at *;omega)]at f3
     have hjk:j≠k:=fun e=>by
      rw[e,hd k hk]at f3;omega
     have hval:(cellT k i t j)=(setB t.1 i j (t.1 i k+s.1 k j),true):=by
      unfold cellT
      rw[if_neg (by rw[rk];intro h;rcases h with h|h;exact f1 h;exact f2 h),rk,IntWalk.wrap64_in _ (by unfold NOB at *;omega),if_pos f3]
     rw[hval]
     refine⟨fun x b hx=>?_,?_,fun b hb=>?_,fun e=>absurd e hki⟩
     ·show setB t.1 i j _ x b=_
      unfold setB;rw[if_neg (fun e=>hx e.1)];exact a1 x b hx
     ·show setB t.1 i j _ i k=_
      unfold setB;rw[if_neg (fun e=>hjk e.2.symm)];exact a2
     ·show -(L+Q)≤setB t.1 i j _ i b∧setB t.1 i j _ i b≤NOB
      unfold setB
      split
      ·have:=(a3 j hj).2;omega
      ·exact a3 b hb)
  (fun t j hj ht f1 f2=>by
   obtain⟨a1,a2,a3,a4⟩:=ht
   have tik:=l1 k hk
   rw[←a2]at tik
   have tikN:=(a3 k hk).2
   by_cases hki:k=i
   ·subst hki
    have q1:=a3 j hj
    have q2:=a3 k hk
    exact IntWalk.wrap64_in _ (by unfold NOB at *;omega)
   ·have rk:t.1 k j=s.1 k j:=a1 k j hki
    have lk:=l2 j hj
    have hkN:=hN k j hk hj
    rw[rk]
    exact IntWalk.wrap64_in _ (by unfold NOB at *;omega))
  (fun t ht b hb=>(ht.2.2.1 b hb).2) s ⟨fun _ _ _=>rfl,rfl,fun b hb=>⟨by have:=l1 b hb;omega,hN i b hi hb⟩,fun _ _ _=>rfl⟩ hDN e1 e2
 exact⟨H.1.1,fun b hb=>(H.1.2.2.1 b hb).1,H.1.2.2.2,H.2⟩
def Cq(k:Nat):Int:=25769803776*3^k
def Lq(i k:Nat):Int:=Cq (min k i)+2147483648*k
def Bq(k:Nat):Int:=Cq k+25769803776
theorem Cq_succ(k:Nat):Cq (k+1)=3*Cq k:=by unfold Cq;rw[Int.pow_succ];omega
theorem Cq_low(k:Nat):25769803776≤Cq k:=by
 unfold Cq
 have h:(0:Int)<3^k:=Int.pow_pos (by decide)
 omega
theorem Cq_high{k:Nat}(h:k≤12):Cq k≤13695180088508416:=by
 unfold Cq
 match k,h with
 |0,_|1,_|2,_|3,_|4,_|5,_|6,_|7,_|8,_|9,_|10,_|11,_|12,_=>decide
theorem zero_diag{n:Nat}{g d:Mx}(h0: ∀ x,x<n→g x x=0)(hl:LeM d g)(hd: ¬ dead n d): ∀ x,x<n→d x x=0:=fun x hx=>by
 have h1:=hl x x
 rw[h0 x hx]at h1
 have h2: ¬ d x x<0:=fun h=>hd ⟨x,hx,h⟩
 omega
theorem rowT_bad{n i:Nat}(hn:n≤12)(hi:i<n){g:Mx}(hg:RB n 0 g)(h0: ∀ x,x<n→g x x=0)(s:Mx×Bool)(hle:LeM s.1 g)
  (hlow: ∀ x,x<i→ ∀ b,b<n→ -(Bq x)≤s.1 x b∧s.1 x b≤Fs g x x b)(hnew: ∀ x,i≤x→x<n→ ∀ b,b<n→s.1 x b=g x b):
  dead n (rowT n s i).1∨((∀ x b,x≠i→(rowT n s i).1 x b=s.1 x b)∧ ∀ b,b<n→ -(Bq i)≤(rowT n s i).1 i b∧(rowT n s i).1 i b≤Fs g i i b):=by
 have hR:=hg.rg (k:=0) (by omega)
 have gl: ∀ a b,a<n→b<n→ -2147483648≤g a b:=fun a b ha hb=>by
  rcases hg a b ha hb with e|e
  ·rw[e];unfold NOB;omega
  ·have:=e.1;simpa using this
 have H:=fold_inv (stepT n i) (fun k t=>dead n t.1∨(LeM t.1 s.1∧(∀ x b,x≠i→t.1 x b=s.1 x b)∧ ∀ b,b<n→ -(Lq i k)≤t.1 i b∧t.1 i b≤Fs g (min k i) i b)) n s
  (Or.inr ⟨LeM.refl _,fun _ _ _=>rfl,fun b hb=>by
   rw[Nat.zero_min,hnew i (Nat.le_refl _) hi b hb]
   refine⟨?_,Int.le_refl _⟩
   have h1:=gl i b hi hb
   have h2:=Cq_low 0
   unfold Lq
   rw[Nat.zero_min]
   omega⟩) (fun k t hk ht=>by
  rcases ht with ht|⟨a1,a2,a3⟩
  ·exact Or.inl (dead_le ht (stepT_le n i t k))
  ·by_cases hdd:dead n t.1
   ·exact Or.inl (dead_le hdd (stepT_le n i t k))
   ·right
    have hz:=zero_diag h0 (a1.trans hle) hdd
    have hN: ∀ a b,a<n→b<n→t.1 a b≤NOB:=fun a b ha hb=>Int.le_trans ((a1.trans hle) a b) (hR a b ha hb).2
    have kI:(k:Int)≤12:=by omega
    have k0:(0:Int)≤k:=by omega
    rcases Nat.lt_trichotomy k i with hki|hki|hki
    ·have m1:min k i=k:=Nat.min_eq_left (by omega)
     have m2:min (k+1) i=k+1:=Nat.min_eq_left (by omega)
     rw[m1]at a3
     have c1:=Cq_low k
     have c2:=Cq_high (k:=k) (by omega)
     have c3:=Cq_succ k
     have S:=stepT_bad hi hk t hz hN (Lq i k) (Bq k) (by unfold Lq;rw[m1];omega) (by unfold Bq;omega) (by unfold Lq Bq;rw[m1];omega) (fun b hb=>(a3 b hb).1)
      (fun b hb=>by rw[a2 k b (by omega)];exact(hlow k hki b hb).1) (Fs g k) (fun b hb=>⟨Fs_no hg k i b hi hb,Fs_no hg k k b hk hb⟩) (fun b hb=>(a3 b hb).2) (fun b hb=>by rw[a2 k b (by omega)];exact(hlow k hki b hb).2)
     refine⟨(stepT_le n i t k).trans a1,fun x b hx=>(S.1 x b hx).trans (a2 x b hx),fun b hb=>⟨?_,?_⟩⟩
     ·have:=S.2.1 b hb
      unfold Lq at *
      unfold Bq at this
      rw[m1]at this
      rw[m2,c3]
      have:((k+1:Nat):Int)=(k:Int)+1:=by omega
      omega
     ·rw[m2];exact S.2.2.2 b hb
    ·subst hki
     rw[Nat.min_self]at a3
     have m2:min (k+1) k=k:=Nat.min_eq_right (by omega)
     have c1:=Cq_low k
     have c2:=Cq_high (k:=k) (by omega)
     have S:=stepT_bad hi hk t hz hN (Lq k k) (Lq k k) (by unfold Lq;rw[Nat.min_self];omega) (by unfold Lq;rw[Nat.min_self];omega) (by unfold Lq;rw[Nat.min_self];omega) (fun b hb=>(a3 b hb).1) (fun b hb=>(a3 b hb).1)
      (fun _ _=>NOB) (fun b hb=>⟨Int.le_refl _,Int.le_refl _⟩) (fun b hb=>hN k b hi hb) (fun b hb=>hN k b hi hb)
     refine⟨(stepT_le n k t k).trans a1,fun x b hx=>(S.1 x b hx).trans (a2 x b hx),fun b hb=>?_⟩
     rw[S.2.2.1 rfl b hb,m2]
     refine⟨?_,(a3 b hb).2⟩
     have:=(a3 b hb).1
     unfold Lq at *
     rw[Nat.min_self]at this
     rw[m2]
     have:((k+1:Nat):Int)=(k:Int)+1:=by omega
     omega
    ·have m1:min k i=i:=Nat.min_eq_right (by omega)
     have m2:min (k+1) i=i:=Nat.min_eq_right (by omega)
     rw[m1]at a3
     have c1:=Cq_low i
     have c2:=Cq_high (k:=i) (by omega)
     have S:=stepT_bad hi hk t hz hN (Lq i k) 2147483648 (by unfold Lq;rw[m1];omega) (by omega) (by unfold Lq;rw[m1];omega) (fun b hb=>(a3 b hb).1)
      (fun b hb=>by rw[a2 k b (by omega),hnew k (by omega) hk b hb];exact gl k b hk hb) (fun _ _=>NOB) (fun b hb=>⟨Int.le_refl _,Int.le_refl _⟩) (fun b hb=>hN i b hi hb) (fun b hb=>hN k b hk hb)
     refine⟨(stepT_le n i t k).trans a1,fun x b hx=>(S.1 x b hx).trans (a2 x b hx),fun b hb=>⟨?_,?_⟩⟩
     ·have:=S.2.1 b hb
      unfold Lq at *
      rw[m1]at this
      rw[m2]
      have:((k+1:Nat):Int)=(k:Int)+1:=by omega
      omega
     ·rw[m2];exact Int.le_trans (stepT_le n i t k i b) (a3 b hb).2)
 rcases H with H|⟨a1,a2,a3⟩
 ·exact Or.inl H
 ·right
  rw[Nat.min_eq_right (by omega)]at a3
  refine⟨a2,fun b hb=>⟨?_,(a3 b hb).2⟩⟩
  have this: -(Lq i n)≤(rowT n s i).1 i b:=(a3 b hb).1
  unfold Lq at this
  rw[Nat.min_eq_right (by omega)]at this
  unfold Bq
  have:(n:Int)≤12:=by omega
  omega
theorem pass_first{n:Nat}(hn:n≤12){g:Mx}(hg:RB n 0 g)(h0: ∀ x,x<n→g x x=0):dead n (passT n g).1∨ ∀ x,x<n→ ∀ b,b<n→(passT n g).1 x b≤Fs g x x b:=by
 have H:=fold_inv (rowT n) (fun i s=>dead n s.1∨(LeM s.1 g∧(∀ x,x<i→ ∀ b,b<n→ -(Bq x)≤s.1 x b∧s.1 x b≤Fs g x x b)∧ ∀ x,i≤x→x<n→ ∀ b,b<n→s.1 x b=g x b)) n (g,false)
  (Or.inr ⟨LeM.refl _,fun x hx=>absurd hx (Nat.not_lt_zero x),fun _ _ _ _ _=>rfl⟩) (fun i s hi hs=>by
   rcases hs with hs|⟨a1,a2,a3⟩
   ·exact Or.inl (dead_le hs (rowT_le n s i))
   ·rcases rowT_bad hn hi hg h0 s a1 a2 a3 with h|⟨b1,b2⟩
    ·exact Or.inl h
    ·right
     refine⟨(rowT_le n s i).trans a1,fun x hx b hb=>?_,fun x hx hxn b hb=>?_⟩
     ·by_cases e:x=i
      ·rw[e];exact b2 b hb
      ·rw[b1 x b e];exact a2 x (by omega) b hb
     ·rw[b1 x b (by omega)];exact a3 x (by omega) hxn b hb)
 rcases H with H|H
 ·exact Or.inl H
 ·exact Or.inr fun x hx b hb=>(H.2.1 x hx b hb).2
theorem tight_bad{n k:Nat}{g:Mx}(hn:n≤12)(hg:RB n 0 g)(h0: ∀ x,x<n→g x x=0)(hk:k<n)(hb:Fs g k k k<0):tight n (n+1) g=none:=by
 have hd:dead n (passT n g).1:=by
  rcases pass_first hn hg h0 with h|h
  ·exact h
  ·exact⟨k,hk,by have:=h k hk k hk;omega⟩
 obtain⟨x,hx,hl⟩:=hd
 unfold tight
 rw[if_pos]
 unfold negB
 rw[List.any_eq_true]
 exact⟨x,List.mem_range.2 hx,by simpa using hl⟩
theorem close_same{n:Nat}{g:Mx}(hn:n≤12)(hg:RB n 0 g)(h0: ∀ x,x<n→g x x=0):
  (okM n (shutF n g)∧ ∃ d,tight n (n+1) g=some d∧ ∀ a b,a<n→b<n→d a b=shutF n g a b)∨(¬ okM n (shutF n g)∧tight n (n+1) g=none):=by
 rcases good_or h0 with hG|⟨k,hk,hG,hb⟩
 ·left
  obtain⟨s1,s2⟩:=shut_good hn hg hG
  obtain⟨d,t1,t2⟩:=tight_good hn hg hG
  exact⟨s1,d,t1,fun a b ha hb=>by rw[t2 a b ha hb,s2 a b ha hb]⟩
 ·right
  exact⟨shut_bad hn hg hk hG hb,tight_bad hn hg h0 hk hb⟩
end Go.Proofs.YtncmghnhfipklaaGreatDoor
/-
  The walk of package bound's shut: a matrix of the call's own is tightened in place.
-/
namespace Go.Proofs.YtncmghnhfipklaaGreatDoor
open Go.RowKit
set_option linter.unusedVariables false
set_option linter.unusedSimpArgs false
theorem sum_any(a b:Int)(w:World):Calls Tryz.prog 100 #[.int .i64 a,.int .i64 b] w fun e w' =>e= .returned (.int .i64 (stB a b))∧w' =w:=by
 unfold stB NOB
 by_cases ha:a=1152921504606846976
 ·subst ha
  rw[if_pos (Or.inl rfl)]
  go_enter Tryz.func100,Tryz.ntmps100
  go_wp2
  all_goals
   go_ret
   exact⟨rfl,rfl⟩
 ·have q1:(a==1152921504606846976)=false:=by simpa using ha
  by_cases hb:b=1152921504606846976
  ·subst hb
   rw[if_pos (Or.inr rfl)]
   clear ha
   go_enter Tryz.func100,Tryz.ntmps100
   go_wp2
   all_goals
    go_ret
    exact⟨rfl,rfl⟩
  ·have q2:(b==1152921504606846976)=false:=by simpa using hb
   rw[if_neg (by intro h;rcases h with h|h;exact ha h;exact hb h)]
   clear ha hb
   go_enter Tryz.func100,Tryz.ntmps100
   go_wp2
   all_goals
    go_ret
    exact⟨rfl,rfl⟩
theorem fold_more{σ:Type}(f:σ→Nat→σ)(s:σ)(k:Nat):(List.range (k+1)).foldl f s=f ((List.range k).foldl f s) k:=by
 rw[List.range_succ,List.foldl_append];rfl
def okb(n:Nat)(g:Mx):Bool:=(List.range n).all fun i=>decide (0≤g i i)
theorem okb_iff{n:Nat}{g:Mx}:okb n g=true↔okM n g:=by
 unfold okb okM
 rw[List.all_eq_true]
 constructor
 ·intro h i hi;simpa using h i (List.mem_range.2 hi)
 ·intro h i hi;simpa using h i (List.mem_range.1 hi)
set_option maxHeartbeats 4000000 in
set_option maxRecDepth 100000 in
theorem shut_any(B:Nat)(ao:Option Addr)(n cap:Nat)(gs:Nat→Nat)(g:Mx)(w:World)(hB:B≤w.heap.size)(hG:Grid (from_ B) w ao n cap gs g):
  Calls Tryz.prog 81 #[.slice ao n cap] w fun e w' =>e= .returned (.bool (okb n (shutF n g)))∧Below B w w' ∧Grid (from_ B) w' ao n cap gs (shutF n g):=by
 have HG:=Lib.hid hG
 have hle:=hG.le
 have hmax:=hG.max
 unfold maxLen at hmax
 clear hG
 go_enter Tryz.func81,Tryz.ntmps81
 go_wp2_with fail
 go_loopw [9] (fun k wr=> ∃ q:Nat,q≤n∧k= .int .i64 q∧Below B w wr∧Hid (Grid (from_ B) wr ao n cap gs ((List.range q).foldl (layF n) g))) (fun k _=>n - (intOf k).toNat)
 case atStart=>exact⟨0,by omega,rfl,Below.refl _ _,HG.out⟩
 case round=>
  obtain⟨k,hk,rfl,hbr,GR⟩:=hrel
  by_cases hkn:k<n
  ·have hk1:(k:Int)<n:=by omega
   generalize hgk:(List.range k).foldl (layF n) g=gk at GR
   have GK:=Lib.hid hgk
   clear hgk
   go_wp2_with fail
   go_loopw [14] (fun i wr=> ∃ p:Nat,p≤n∧i= .int .i64 p∧Below B w wr∧Hid (Grid (from_ B) wr ao n cap gs ((List.range p).foldl (rowF n k) gk))) (fun i _=>n - (intOf i).toNat)
   case atStart=>exact⟨0,by omega,rfl,hbr,GR⟩
   case round=>
    obtain⟨i,hi,rfl,hbi,GI⟩:=hrel
    clear GR hbr
    by_cases hin:i<n
    ·have hi1:(i:Int)<n:=by omega
     generalize hgi:(List.range i).foldl (rowF n k) gk=gi at GI
     have GJ:=Lib.hid hgi
     clear hgi
     go_wp2_with fail
     go_loopw [19] (fun j wr=> ∃ p:Nat,p≤n∧j= .int .i64 p∧Below B w wr∧Hid (Grid (from_ B) wr ao n cap gs ((List.range p).foldl (cellF k i) gi))) (fun j _=>n - (intOf j).toNat)
     case atStart=>exact⟨0,by omega,rfl,hbi,GI⟩
     case round=>
      obtain⟨j,hj,rfl,hbj,GC⟩:=hrel
      clear GI hbi
      by_cases hjn:j<n
      ·have hj1:(j:Int)<n:=by omega
       generalize hgc:(List.range j).foldl (cellF k i) gi=gc at GC
       have GD:=Lib.hid hgc
       clear hgc
       obtain⟨Ai,rci,hAlt,hglt,hF,hne,h1,h2,hix,hcell,hent⟩:=GC.out.at hin
       obtain⟨Ak,rck,hAlt',hglt',hF',hne',h1',h2',hix',hcell',hent'⟩:=GC.out.at hkn
       obtain⟨e1,e2,e3⟩:=hent j hjn
       obtain⟨e4,e5,e6⟩:=hent k hkn
       obtain⟨e7,e8,e9⟩:=hent' j hjn
       have hmin:(if stB (gc i k) (gc k j)<gc i j then stB (gc i k) (gc k j)else gc i j)=min (gc i j) (stB (gc i k) (gc k j)):=by
        split
        ·exact(Int.min_eq_right (by omega)).symm
        ·exact(Int.min_eq_left (by omega)).symm
       have GS:Hid (Grid (from_ B) (wr.setCell ⟨gs i,j,none⟩ (.int .i64 (if stB (gc i k) (gc k j)<gc i j then stB (gc i k) (gc k j)else gc i j))).drew ao n cap gs ((List.range (j+1)).foldl (cellF k i) gi)):=by
        show Grid _ _ _ _ _ _ _
        rw[fold_more,GD.out,hmin]
        exact(GC.out.store hin hjn (min (gc i j) (stB (gc i k) (gc k j)))).same (Same.drew)
       have hbS:Below B w (wr.setCell ⟨gs i,j,none⟩ (.int .i64 (if stB (gc i k) (gc k j)<gc i j then stB (gc i k) (gc k j)else gc i j))).drew:=(hbj.setCell (p:=⟨gs i,j,none⟩) hF _).drew
       clear hent hent' hmin
       go_wp2_with fail
       go_still_tail 29,(by kernel_rfl)
       still_call (sum_any _ _ _)
       repeat still_step
       refine wpStill_nil ?_
       change wpList _ _ _ _ _ wr.drew
       go_wp2
       go_roundw
       case rel=>exact⟨j+1,by omega,by go_num,hbS,GS⟩
       case measure=>simp[intOf];omega
      ·obtain rfl:j=n:=by omega
       have GN:Hid (Grid (from_ B) wr ao j cap gs ((List.range (i+1)).foldl (rowF j k) gk)):=by
        show Grid _ _ _ _ _ _ _
        rw[fold_more,GJ.out]
        exact GC.out
       clear GC
       go_wp2
       go_roundw
       case rel=>exact⟨i+1,by omega,by go_num,hbj,GN⟩
       case measure=>simp[intOf];omega
    ·obtain rfl:i=n:=by omega
     have GN:Hid (Grid (from_ B) wr ao i cap gs ((List.range (k+1)).foldl (layF i) g)):=by
      show Grid _ _ _ _ _ _ _
      rw[fold_more,GK.out]
      exact GI.out
     clear GI
     go_wp2
     go_roundw
     case rel=>exact⟨k+1,by omega,by go_num,hbi,GN⟩
     case measure=>simp[intOf];omega
  ·obtain rfl:k=n:=by omega
   have GZ:Hid (Grid (from_ B) wr ao k cap gs (shutF k g)):=GR.out
   clear GR
   obtain⟨wz,hwz⟩: ∃ wz:World,wz=wr:=⟨_,rfl⟩
   have WZ:=Lib.hid hwz
   clear hwz
   go_wp2_with fail
   go_loopw [56] (fun i wr=> ∃ q:Nat,q≤k∧i= .int .i64 q∧wr=wz∧Hid (∀ x,x<q→0≤shutF k g x x)) (fun i _=>k - (intOf i).toNat)
   case atStart=>exact⟨0,by omega,rfl,WZ.out.symm,fun x hx=>absurd hx (Nat.not_lt_zero x)⟩
   case round=>
    obtain⟨q,hq,rfl,rfl,HA⟩:=hrel
    rw[←WZ.out]at hbr GZ
    by_cases hqk:q<k
    ·have hq1:(q:Int)<k:=by omega
     obtain⟨Ai,rci,hAlt,hglt,hF,hne,h1,h2,hix,hcell,hent⟩:=GZ.out.at hqk
     obtain⟨e1,e2,e3⟩:=hent q hqk
     clear hent
     by_cases hneg:shutF k g q q<0
     ·go_wp2
      go_ret
      refine⟨ret_bool ?_,hbr,GZ.out⟩
      cases hc:okb k (shutF k g)with
      |false=>rfl
      |true=>exact absurd (okb_iff.1 hc q hqk) (by omega)
     ·go_wp2
      go_roundw
      case rel=>exact⟨q+1,by omega,by go_num,by first|rfl|trivial,fun x hx=>by
       by_cases e:x=q
       ·rw[e];omega
       ·exact HA.out x (by omega)⟩
      case measure=>simp[intOf];omega
    ·have hqk' : ¬ (q:Int)<k:=by omega
     go_wp2
     go_ret
     refine⟨ret_bool ?_,hbr,GZ.out⟩
     exact(okb_iff.2 (fun x hx=>HA.out x (by omega))).symm
end Go.Proofs.YtncmghnhfipklaaGreatDoor
/-
  The walks of package bound's less, same, far: bounds laid into a matrix of the call's own.
-/
namespace Go.Proofs.YtncmghnhfipklaaGreatDoor
open Go.RowKit
set_option linter.unusedVariables false
set_option linter.unusedSimpArgs false
def lessG(g:Mx)(x y:Nat)(n:Int):Mx:=setB g x y (min (g x y) (-n))
def sameG(g:Mx)(x y:Nat):Mx:=lessG (lessG g x y 0) y x 0
def farG(g:Mx)(x y:Nat)(lo hi:Int):Mx:=if 0≤hi then setB (lessG g x y lo) y x (min (lessG g x y lo y x) hi)else lessG g x y lo
set_option maxHeartbeats 1000000 in
set_option maxRecDepth 100000 in
theorem less_any(B:Nat)(ao:Option Addr)(k cap:Nat)(gs:Nat→Nat)(g:Mx)(x y:Nat)(n:Int)(w:World)(hB:B≤w.heap.size)(hG:Grid (from_ B) w ao k cap gs g)(hx:x<k)(hy:y<k)(hn: -4611686018427387904≤n∧n≤4611686018427387904):
  Calls Tryz.prog 105 #[.slice ao k cap,.int .i64 x,.int .i64 y,.int .i64 n] w fun e w' =>e= .returned (.tuple #[])∧Below B w w' ∧Grid (from_ B) w' ao k cap gs (lessG g x y n):=by
 have HG:=Lib.hid hG
 obtain⟨Ai,rci,hAlt,hglt,hF,hne,h1,h2,hix,hcell,hent⟩:=hG.at hx
 obtain⟨e1,e2,e3⟩:=hent y hy
 have hneg:IntKind.i64.wrap (-n)= -n:=IntWalk.i64_in _ (by omega)
 have KG:Hid (∀ v,v=min (g x y) (-n)→Below B w (w.setCell ⟨gs x,y,none⟩ (.int .i64 v)).drew∧Grid (from_ B) (w.setCell ⟨gs x,y,none⟩ (.int .i64 v)).drew ao k cap gs (lessG g x y n)):=fun v hv=>by
  rw[hv]
  exact⟨((Below.refl B w).setCell (p:=⟨gs x,y,none⟩) hF _).drew,(HG.out.store hx hy (min (g x y) (-n))).same Same.drew⟩
 obtain⟨hn1,hn2⟩:=hn
 have hle:=hG.le
 clear hG hent
 go_enter Tryz.func105,Tryz.ntmps105
 go_wp2_with fail
 go_still_tail 16,(by kernel_rfl)
 change wpList _ _ _ _ _ w.drew
 go_wp2
 all_goals
  go_end0
  exact⟨rfl,KG.out _ (by omega)⟩
set_option maxHeartbeats 1000000 in
theorem same_any(B:Nat)(ao:Option Addr)(k cap:Nat)(gs:Nat→Nat)(g:Mx)(x y:Nat)(w:World)(hB:B≤w.heap.size)(hG:Grid (from_ B) w ao k cap gs g)(hx:x<k)(hy:y<k):
  Calls Tryz.prog 113 #[.slice ao k cap,.int .i64 x,.int .i64 y] w fun e w' =>e= .returned (.tuple #[])∧Below B w w' ∧Grid (from_ B) w' ao k cap gs (sameG g x y):=by
 have HL:=Lib.hid (less_any B ao k cap gs g x y 0 w hB hG hx hy (by omega))
 clear hG
 go_enter Tryz.func113,Tryz.ntmps113
 go_wp2_with fail
 refine HL.out.mono ?_
 rintro e w1 ⟨rfl,hb1,hG1⟩
 go_wp2_with fail
 refine(less_any B ao k cap gs _ y x 0 w1 (Nat.le_trans hB hb1.size) hG1 hy hx (by omega)).mono ?_
 rintro e w2 ⟨rfl,hb2,hG2⟩
 go_wp2
 go_end0
 exact⟨rfl,hb1.trans hb2,hG2⟩
end Go.Proofs.YtncmghnhfipklaaGreatDoor
/-
  The walk of package bound's far.
-/
namespace Go.Proofs.YtncmghnhfipklaaGreatDoor
open Go.RowKit
set_option linter.unusedVariables false
set_option linter.unusedSimpArgs false
set_option maxHeartbeats 1000000 in
set_option maxRecDepth 100000 in
theorem far_any(B:Nat)(ao:Option Addr)(k cap:Nat)(gs:Nat→Nat)(g:Mx)(x y:Nat)(lo hi:Int)(w:World)(hB:B≤w.heap.size)(hG:Grid (from_ B) w ao k cap gs g)(hx:x<k)(hy:y<k)(hn: -4611686018427387904≤lo∧lo≤4611686018427387904):
  Calls Tryz.prog 107 #[.slice ao k cap,.int .i64 x,.int .i64 y,.int .i64 lo,.int .i64 hi] w fun e w' =>e= .returned (.tuple #[])∧Below B w w' ∧Grid (from_ B) w' ao k cap gs (farG g x y lo hi):=by
 have HL:=Lib.hid (less_any B ao k cap gs g x y lo w hB hG hx hy hn)
 have hle:=hG.le
 have hmx:=hG.max
 unfold maxLen at hmx
 unfold farG
 clear hG hn
 by_cases hh:0≤hi
 ·rw[if_pos hh]
  go_enter Tryz.func107,Tryz.ntmps107
  go_wp2_with fail
  refine HL.out.mono ?_
  rintro e w1 ⟨rfl,hb1,hG1⟩
  have HG:=Lib.hid hG1
  obtain⟨g1,hg1⟩: ∃ g1,Hid (g1=lessG g x y lo):=⟨_,rfl⟩
  rw[←hg1.out]at hG1 HG
  obtain⟨Ai,rci,hAlt,hglt,hF,hne,h1,h2,hix,hcell,hent⟩:=hG1.at hy
  obtain⟨e1,e2,e3⟩:=hent x hx
  have KG:Hid (∀ v,v=min (g1 y x) hi→Below B w (w1.setCell ⟨gs y,x,none⟩ (.int .i64 v)).drew∧Grid (from_ B) (w1.setCell ⟨gs y,x,none⟩ (.int .i64 v)).drew ao k cap gs (setB g1 y x (min (g1 y x) hi))):=fun v hv=>by
   rw[hv]
   exact⟨(hb1.setCell (p:=⟨gs y,x,none⟩) hF _).drew,(HG.out.store hy hx (min (g1 y x) hi)).same Same.drew⟩
  clear hG1 hent
  go_wp2_with fail
  go_still_tail 15,(by kernel_rfl)
  change wpList _ _ _ _ _ w1.drew
  go_wp2
  all_goals
   go_end0
   rw[←hg1.out]
   exact⟨rfl,KG.out _ (by omega)⟩
 ·rw[if_neg hh]
  go_enter Tryz.func107,Tryz.ntmps107
  go_wp2_with fail
  refine HL.out.mono ?_
  rintro e w1 ⟨rfl,hb1,hG1⟩
  go_wp2
  go_end0
  exact⟨rfl,hb1,hG1⟩
end Go.Proofs.YtncmghnhfipklaaGreatDoor
