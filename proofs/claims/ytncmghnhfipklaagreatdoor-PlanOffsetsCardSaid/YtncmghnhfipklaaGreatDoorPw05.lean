/-
  Options checked; the options of a list, one after another (plain).
-/
import Derived.Test.YtncmghnhfipklaaGreatDoorPw00
import Derived.Test.YtncmghnhfipklaaGreatDoorPw01
import Derived.Test.YtncmghnhfipklaaGreatDoorPw04
import Derived.Test.YtncmghnhfipklaaGreatDoorPu07
namespace Go.Proofs.YtncmghnhfipklaaGreatDoor
open Go.RowKit
set_option linter.unusedVariables false
set_option linter.unusedSimpArgs false
theorem optE_zero{r l h:Int}(k:optE r l h=0):(1≤r∧r≤13)∧(0≤l∧l≤1073741824)∧(-1≤h∧h≤1073741824):=by
 unfold optE at k
 (repeat' split at k)<;>omega
instance :Inhabited Opt:=⟨⟨0,0,0⟩⟩
def optF:(Nat→Prop)→World→List Value→Opt→Prop:=plainF optC
theorem optF_firm:Firm optF:=plainF_firm _
def optAt(os:List Opt)(j:Nat):Int:=optE (os.getD j default).rel (os.getD j default).lo (os.getD j default).hi
def optsE(os:List Opt):Int:=firstN (optAt os) os.length
def stepL(a:List (List Int))(o:Opt):List (List Int):=
 match optL o.rel o.lo o.hi with
 |none=>a
 |some m=>if a.isEmpty=true then m else joinM max a m
def accL(os:List Opt)(k:Nat):List (List Int):=(os.take k).foldl stepL []
theorem accL_next(os:List Opt)(k:Nat)(hk:k<os.length):accL os (k+1)=stepL (accL os k) os[k]:=by
 unfold accL
 rw[←List.take_append_getElem hk,List.foldl_append,List.foldl_cons,List.foldl_nil]
theorem slF_some{α:Type}{F:Nat→Prop}{w:World}{k:Nat}{R:(Nat→Prop)→World→List Value→α→Prop}{ao:Option Addr}{n cap:Nat}{xs:List α}(h:SlF F w k R ao n cap xs)(hx:xs≠[]): ∃ b o,ao=some ⟨b,o,none⟩:=by
 have:0<xs.length:=List.length_pos_iff.2 hx
 obtain⟨b,o,row,e,_⟩:=h.2.2.2.2 0 this
 exact⟨b,o,e⟩
theorem size_option:SizeIs Tryz.prog 128 3:=fun wx=>by
 have:(Tryz.prog.info? 128).map (·.size)=some 3:=by kernel_rfl
 cases h:Tryz.prog.info? 128 with
 |none=>rw[h]at this;cases this
 |some i=>rw[h]at this;simp at this;simp[sizeOf,typeInfo,h,this]
theorem nil_yes(wx:World):(binOp .eql 78 (.slice none 0 0) (.slice none 0 0)).run Tryz.prog wx= .ok (.bool true) wx:=by
 have h: ∀ d,(Op.equalIn (d+1) 78 (.slice none 0 0) (.slice none 0 0)).run Tryz.prog wx= .ok true wx:=fun d=>by simp[Op.equalIn,run_underlying Tryz.underlying78]
 have h2:(Op.equal 78 (.slice none 0 0) (.slice none 0 0)).run Tryz.prog wx= .ok true wx:=h 9999
 simp[binOp,h2]
theorem nil_no(b o n cap:Nat)(wx:World):(binOp .eql 78 (.slice (some ⟨b,o,none⟩) n cap) (.slice none 0 0)).run Tryz.prog wx= .ok (.bool false) wx:=by
 have h: ∀ d,(Op.equalIn (d+1) 78 (.slice (some ⟨b,o,none⟩) n cap) (.slice none 0 0)).run Tryz.prog wx= .ok false wx:=fun d=>by simp[Op.equalIn,run_underlying Tryz.underlying78]
 have h2:(Op.equal 78 (.slice (some ⟨b,o,none⟩) n cap) (.slice none 0 0)).run Tryz.prog wx= .ok false wx:=h 9999
 simp[binOp,h2]
structure Inv4 (h:Nat→Int) (U:Int) (tb:Nat→Nat→Nat) (g:Mx):Prop where
 lo: ∀ a b,a<4→b<4→h a - h b≤g a b
 up: ∀ a b,a<4→b<4→g a b≤NOB
 c0: ∀ a b,a<4→b<4→tb a b=0→g a b=NOB
 c1: ∀ a b,a<4→b<4→tb a b=1→g a b≤0
 c2: ∀ a b,a<4→b<4→tb a b=2→g a b=NOB∨g a b≤U
def tabOk(tb:Nat→Nat→Nat):Bool:=(List.range 4).all fun i=>(List.range 4).all fun j=>decide (tb i j≤2)&&(List.range 4).all fun k=>tb i j==1||tb i k==0||tb k j==0||(tb i j==2&&!(tb i k==2&&tb k j==2))
theorem tabOk_at{tb:Nat→Nat→Nat}(h:tabOk tb=true){i j k:Nat}(hi:i<4)(hj:j<4)(hk:k<4):tb i j≤2∧(tb i j=1∨tb i k=0∨tb k j=0∨(tb i j=2∧ ¬ (tb i k=2∧tb k j=2))):=by
 unfold tabOk at h
 have h1:=List.all_eq_true.1 (List.all_eq_true.1 h i (List.mem_range.2 hi)) j (List.mem_range.2 hj)
 rw[Bool.and_eq_true]at h1
 have h2:=List.all_eq_true.1 h1.2 k (List.mem_range.2 hk)
 refine⟨by simpa using h1.1,?_⟩
 simp at h2
 omega
theorem cell_inv{h:Nat→Int}{U:Int}{tb:Nat→Nat→Nat}(ht:tabOk tb=true)(hU:0≤U∧U≤1073741824)(hh: ∀ a,a<4→0≤h a∧h a≤1073741900){g:Mx}{k i j:Nat}(hk:k<4)(hi:i<4)(hj:j<4)(G:Inv4 h U tb g):Inv4 h U tb (cellF k i g j):=by
 have l1:=G.lo i k hi hk
 have l2:=G.lo k j hk hj
 have u1:=G.up i k hi hk
 have u2:=G.up k j hk hj
 have h1:=hh i hi
 have h2:=hh j hj
 have h3:=hh k hk
 have hs:stB (g i k) (g k j)=smB (g i k) (g k j):=stB_eq ⟨by omega,u1⟩ ⟨by omega,u2⟩
 have hT:=tabOk_at ht hi hj hk
 have key:h i - h j≤smB (g i k) (g k j)∧(smB (g i k) (g k j)=NOB∨(tb i j≠0∧(tb i j=2→smB (g i k) (g k j)≤U))):=by
  unfold smB
  by_cases e:g i k=NOB∨g k j=NOB
  ·rw[if_pos e]
   exact⟨by unfold NOB;omega,.inl rfl⟩
  ·rw[if_neg e]
   refine⟨by omega,.inr ⟨fun e0=>?_,fun e2=>?_⟩⟩
   ·rcases hT.2 with q|q|q|q
    ·omega
    ·exact e (.inl (G.c0 i k hi hk q))
    ·exact e (.inr (G.c0 k j hk hj q))
    ·omega
   ·have a1:tb i k≤2:=(tabOk_at ht hi hk hk).1
    have a2:tb k j≤2:=(tabOk_at ht hk hj hk).1
    have b1:tb i k=1→g i k≤0:=G.c1 i k hi hk
    have b2:tb k j=1→g k j≤0:=G.c1 k j hk hj
    have d1:tb i k=2→g i k=NOB∨g i k≤U:=G.c2 i k hi hk
    have d2:tb k j=2→g k j=NOB∨g k j≤U:=G.c2 k j hk hj
    have f1:tb i k≠0:=fun q=>e (.inl (G.c0 i k hi hk q))
    have f2:tb k j≠0:=fun q=>e (.inr (G.c0 k j hk hj q))
    have n1:g i k≠NOB:=fun q=>e (.inl q)
    have n2:g k j≠NOB:=fun q=>e (.inr q)
    omega
 have same: ∀ a b,cellF k i g j a b=if a=i∧b=j then min (g i j) (smB (g i k) (g k j))else g a b:=fun a b=>by
  unfold cellF setB
  rw[hs]
 refine⟨fun a b ha hb=>?_,fun a b ha hb=>?_,fun a b ha hb q=>?_,fun a b ha hb q=>?_,fun a b ha hb q=>?_⟩<;>rw[same]<;>split
 ·rename_i e;obtain⟨rfl,rfl⟩:=e;have:=G.lo a b ha hb;omega
 ·exact G.lo a b ha hb
 ·rename_i e;obtain⟨rfl,rfl⟩:=e;have:=G.up a b ha hb;omega
 ·exact G.up a b ha hb
 ·rename_i e;obtain⟨rfl,rfl⟩:=e
  have:=G.c0 a b ha hb q
  rcases key.2 with z|z
  ·rw[this,z,Int.min_self]
  ·exact absurd q z.1
 ·exact G.c0 a b ha hb q
 ·rename_i e;obtain⟨rfl,rfl⟩:=e;have:=G.c1 a b ha hb q;omega
 ·exact G.c1 a b ha hb q
 ·rename_i e;obtain⟨rfl,rfl⟩:=e
  have:=G.c2 a b ha hb q
  rcases key.2 with z|z
  ·rw[z]
   have:=G.up a b ha hb
   rcases this with _
   rcases G.c2 a b ha hb q with y|y
   ·left;rw[y,Int.min_self]
   ·right;omega
  ·right;have:=z.2 q;omega
 ·exact G.c2 a b ha hb q
theorem shut_inv{h:Nat→Int}{U:Int}{tb:Nat→Nat→Nat}(ht:tabOk tb=true)(hU:0≤U∧U≤1073741824)(hh: ∀ a,a<4→0≤h a∧h a≤1073741900){g:Mx}(G:Inv4 h U tb g):Inv4 h U tb (shutF 4 g):=
 fold_inv (layF 4) (fun _ t=>Inv4 h U tb t) 4 g G fun k t hk T=>
  fold_inv (rowF 4 k) (fun _ t=>Inv4 h U tb t) 4 t T fun i t hi T=>
   fold_inv (cellF k i) (fun _ t=>Inv4 h U tb t) 4 t T fun j t hj T=>cell_inv ht hU hh hk hi hj T
theorem Inv4.rb{h:Nat→Int}{U:Int}{tb:Nat→Nat→Nat}{g:Mx}(ht:tabOk tb=true)(hU:0≤U∧U≤1073741824)(hh: ∀ a,a<4→0≤h a∧h a≤1073741900)(G:Inv4 h U tb g):RB 4 0 g:=fun a b ha hb=>by
 have h1:=hh a ha
 have h2:=hh b hb
 have h3:=G.lo a b ha hb
 have h4:=(tabOk_at ht ha hb ha).1
 have h5:tb a b=0∨tb a b=1∨tb a b=2:=by omega
 rcases h5 with q|q|q
 ·exact .inl (G.c0 a b ha hb q)
 ·have:=G.c1 a b ha hb q;right;omega
 ·rcases G.c2 a b ha hb q with z|z
  ·exact .inl z
  ·right;omega
theorem two_dead{n:Nat}{g:Mx}(hn:n≤12)(hg:RB n 0 g)(h0: ∀ x,x<n→g x x=0){x y:Nat}(hx:x<n)(hy:y<n)(hs:g x y≠NOB∧g y x≠NOB∧g x y+g y x<0): ¬ okM n (shutF n g):=by
 rcases good_or h0 with hG|⟨k,hk,hG,hb⟩
 ·have h1:=Fs_diag hn hg n (Nat.le_refl _) hG x hx
  have h2:=Fs_tri hn hg n (Nat.le_refl _) hG y hy x x hx hx
  have h3:=Fs_anti g 0 n (Nat.zero_le _) x y
  have h4:=Fs_anti g 0 n (Nat.zero_le _) y x
  have h5:=(hg x y hx hy).resolve_left hs.1
  have h6:=(hg y x hy hx).resolve_left hs.2.1
  have e3:Fs g 0 x y=g x y:=rfl
  have e4:Fs g 0 y x=g y x:=rfl
  have h7:=smB_le h2 (by unfold NOB;omega) (by unfold NOB;omega)
  omega
 ·exact shut_bad hn hg hk hG hb
theorem four{a:Nat}(h:a<4):a=0∨a=1∨a=2∨a=3:=by omega
def Fine(g:Mx):Prop:=(∃ h U tb,tabOk tb=true∧(0≤U∧U≤1073741824)∧(∀ a,a<4→0≤h a∧h a≤1073741900)∧Inv4 h U tb g)∨ ∃ x y,x<4∧y<4∧g x y≠NOB∧g y x≠NOB∧g x y+g y x<0
def gr1(lo hi:Int):Mx:=farG (shapeG baseG 1) (shapeX 1) (shapeY 1) lo hi
theorem at1(lo hi:Int)(hl:0≤lo∧lo≤1073741824)(hh: -1≤hi∧hi≤1073741824):gr1 lo hi 0 0=(0:Int)∧gr1 lo hi 0 1=(0:Int)∧gr1 lo hi 0 2=NOB∧gr1 lo hi 0 3=NOB∧gr1 lo hi 1 0=NOB∧gr1 lo hi 1 1=(0:Int)∧gr1 lo hi 1 2=(min (-1) (-lo):Int)∧gr1 lo hi 1 3=NOB∧gr1 lo hi 2 0=NOB∧gr1 lo hi 2 1=(if 0≤hi then hi else NOB:Int)∧gr1 lo hi 2 2=(0:Int)∧gr1 lo hi 2 3=(0:Int)∧gr1 lo hi 3 0=NOB∧gr1 lo hi 3 1=NOB∧gr1 lo hi 3 2=NOB∧gr1 lo hi 3 3=(0:Int):=by
 unfold gr1 farG
 by_cases h0:0≤hi
 ·simp[h0,shapeG,shapeX,shapeY,sameG,lessG,setB,baseG,freeG,NOB]
  omega
 ·simp[h0,shapeG,shapeX,shapeY,sameG,lessG,setB,baseG,freeG,NOB]
  omega
theorem fine1(lo hi:Int)(hl:0≤lo∧lo≤1073741824)(hh: -1≤hi∧hi≤1073741824)(hlh:hi= -1∨lo≤hi):Fine (gr1 lo hi):=by
 obtain⟨e00,e01,e02,e03,e10,e11,e12,e13,e20,e21,e22,e23,e30,e31,e32,e33⟩:=at1 lo hi hl hh
 by_cases hc:0≤hi∧hi<1
 ·refine .inr ⟨1,2,by omega,by omega,?_⟩
  rw[e12,e21]
  unfold NOB
  split<;>omega
 ·refine .inl ⟨fun a=>([0,0,max 1 lo,max 1 lo]:List Int).getD a 0,max 0 hi,fun a b=>([[1,1,2,2],[0,1,1,2],[0,2,1,1],[0,0,0,1]].getD a []).getD b 0,by decide,by omega,fun a ha=>?_,?_⟩
  ·rcases four ha with rfl|rfl|rfl|rfl<;>simp<;>omega
  ·have hall: ∀ (p:Nat→Nat→Prop),(p 0 0∧p 0 1∧p 0 2∧p 0 3)∧(p 1 0∧p 1 1∧p 1 2∧p 1 3)∧(p 2 0∧p 2 1∧p 2 2∧p 2 3)∧(p 3 0∧p 3 1∧p 3 2∧p 3 3)→ ∀ a b,a<4→b<4→p a b:=fun p h a b ha hb=>by
    rcases four ha with rfl|rfl|rfl|rfl<;>rcases four hb with rfl|rfl|rfl|rfl<;>simp[h]
   refine⟨hall _ ?_,hall _ ?_,hall _ ?_,hall _ ?_,hall _ ?_⟩<;>simp only[e00,e01,e02,e03,e10,e11,e12,e13,e20,e21,e22,e23,e30,e31,e32,e33]<;>simp[NOB]<;>(repeat' apply And.intro)<;>(repeat' split)<;>omega
def gr3(lo hi:Int):Mx:=farG (shapeG baseG 3) (shapeX 3) (shapeY 3) lo hi
theorem at3(lo hi:Int)(hl:0≤lo∧lo≤1073741824)(hh: -1≤hi∧hi≤1073741824):gr3 lo hi 0 0=(0:Int)∧gr3 lo hi 0 1=(0:Int)∧gr3 lo hi 0 2=(-1:Int)∧gr3 lo hi 0 3=NOB∧gr3 lo hi 1 0=NOB∧gr3 lo hi 1 1=(0:Int)∧gr3 lo hi 1 2=(min (0) (-lo):Int)∧gr3 lo hi 1 3=(-1:Int)∧gr3 lo hi 2 0=NOB∧gr3 lo hi 2 1=(if 0≤hi then min (0) hi else 0:Int)∧gr3 lo hi 2 2=(0:Int)∧gr3 lo hi 2 3=(0:Int)∧gr3 lo hi 3 0=NOB∧gr3 lo hi 3 1=NOB∧gr3 lo hi 3 2=NOB∧gr3 lo hi 3 3=(0:Int):=by
 unfold gr3 farG
 by_cases h0:0≤hi
 ·simp[h0,shapeG,shapeX,shapeY,sameG,lessG,setB,baseG,freeG,NOB]
  omega
 ·simp[h0,shapeG,shapeX,shapeY,sameG,lessG,setB,baseG,freeG,NOB]
  omega
theorem fine3(lo hi:Int)(hl:0≤lo∧lo≤1073741824)(hh: -1≤hi∧hi≤1073741824)(hlh:hi= -1∨lo≤hi):Fine (gr3 lo hi):=by
 obtain⟨e00,e01,e02,e03,e10,e11,e12,e13,e20,e21,e22,e23,e30,e31,e32,e33⟩:=at3 lo hi hl hh
 by_cases hc:0<lo
 ·refine .inr ⟨1,2,by omega,by omega,?_⟩
  rw[e12,e21]
  unfold NOB
  split<;>omega
 ·refine .inl ⟨fun a=>([0,1,1,2]:List Int).getD a 0,max 0 hi,fun a b=>([[1,1,1,2],[0,1,1,1],[0,1,1,1],[0,0,0,1]].getD a []).getD b 0,by decide,by omega,fun a ha=>?_,?_⟩
  ·rcases four ha with rfl|rfl|rfl|rfl<;>simp<;>omega
  ·have hall: ∀ (p:Nat→Nat→Prop),(p 0 0∧p 0 1∧p 0 2∧p 0 3)∧(p 1 0∧p 1 1∧p 1 2∧p 1 3)∧(p 2 0∧p 2 1∧p 2 2∧p 2 3)∧(p 3 0∧p 3 1∧p 3 2∧p 3 3)→ ∀ a b,a<4→b<4→p a b:=fun p h a b ha hb=>by
    rcases four ha with rfl|rfl|rfl|rfl<;>rcases four hb with rfl|rfl|rfl|rfl<;>simp[h]
   refine⟨hall _ ?_,hall _ ?_,hall _ ?_,hall _ ?_,hall _ ?_⟩<;>simp only[e00,e01,e02,e03,e10,e11,e12,e13,e20,e21,e22,e23,e30,e31,e32,e33]<;>simp[NOB]<;>(repeat' apply And.intro)<;>(repeat' split)<;>omega
def gr5(lo hi:Int):Mx:=farG (shapeG baseG 5) (shapeX 5) (shapeY 5) lo hi
theorem at5(lo hi:Int)(hl:0≤lo∧lo≤1073741824)(hh: -1≤hi∧hi≤1073741824):gr5 lo hi 0 0=(0:Int)∧gr5 lo hi 0 1=(0:Int)∧gr5 lo hi 0 2=(-1:Int)∧gr5 lo hi 0 3=NOB∧gr5 lo hi 1 0=NOB∧gr5 lo hi 1 1=(0:Int)∧gr5 lo hi 1 2=(if 0≤hi then hi else NOB:Int)∧gr5 lo hi 1 3=(-1:Int)∧gr5 lo hi 2 0=NOB∧gr5 lo hi 2 1=(min (-1) (-lo):Int)∧gr5 lo hi 2 2=(0:Int)∧gr5 lo hi 2 3=(0:Int)∧gr5 lo hi 3 0=NOB∧gr5 lo hi 3 1=NOB∧gr5 lo hi 3 2=NOB∧gr5 lo hi 3 3=(0:Int):=by
 unfold gr5 farG
 by_cases h0:0≤hi
 ·simp[h0,shapeG,shapeX,shapeY,sameG,lessG,setB,baseG,freeG,NOB]
  omega
 ·simp[h0,shapeG,shapeX,shapeY,sameG,lessG,setB,baseG,freeG,NOB]
  omega
theorem fine5(lo hi:Int)(hl:0≤lo∧lo≤1073741824)(hh: -1≤hi∧hi≤1073741824)(hlh:hi= -1∨lo≤hi):Fine (gr5 lo hi):=by
 obtain⟨e00,e01,e02,e03,e10,e11,e12,e13,e20,e21,e22,e23,e30,e31,e32,e33⟩:=at5 lo hi hl hh
 by_cases hc:0≤hi∧hi<1
 ·refine .inr ⟨2,1,by omega,by omega,?_⟩
  rw[e21,e12]
  unfold NOB
  split<;>omega
 ·refine .inl ⟨fun a=>([0,max 1 lo+1,1,max 1 lo+2]:List Int).getD a 0,max 0 hi,fun a b=>([[1,1,1,2],[0,1,2,1],[0,1,1,1],[0,0,0,1]].getD a []).getD b 0,by decide,by omega,fun a ha=>?_,?_⟩
  ·rcases four ha with rfl|rfl|rfl|rfl<;>simp<;>omega
  ·have hall: ∀ (p:Nat→Nat→Prop),(p 0 0∧p 0 1∧p 0 2∧p 0 3)∧(p 1 0∧p 1 1∧p 1 2∧p 1 3)∧(p 2 0∧p 2 1∧p 2 2∧p 2 3)∧(p 3 0∧p 3 1∧p 3 2∧p 3 3)→ ∀ a b,a<4→b<4→p a b:=fun p h a b ha hb=>by
    rcases four ha with rfl|rfl|rfl|rfl<;>rcases four hb with rfl|rfl|rfl|rfl<;>simp[h]
   refine⟨hall _ ?_,hall _ ?_,hall _ ?_,hall _ ?_,hall _ ?_⟩<;>simp only[e00,e01,e02,e03,e10,e11,e12,e13,e20,e21,e22,e23,e30,e31,e32,e33]<;>simp[NOB]<;>(repeat' apply And.intro)<;>(repeat' split)<;>omega
def gr7(lo hi:Int):Mx:=farG (shapeG baseG 7) (shapeX 7) (shapeY 7) lo hi
theorem at7(lo hi:Int)(hl:0≤lo∧lo≤1073741824)(hh: -1≤hi∧hi≤1073741824):gr7 lo hi 0 0=(0:Int)∧gr7 lo hi 0 1=(0:Int)∧gr7 lo hi 0 2=(0:Int)∧gr7 lo hi 0 3=NOB∧gr7 lo hi 1 0=NOB∧gr7 lo hi 1 1=(0:Int)∧gr7 lo hi 1 2=NOB∧gr7 lo hi 1 3=(min (-1) (-lo):Int)∧gr7 lo hi 2 0=(0:Int)∧gr7 lo hi 2 1=NOB∧gr7 lo hi 2 2=(0:Int)∧gr7 lo hi 2 3=(0:Int)∧gr7 lo hi 3 0=NOB∧gr7 lo hi 3 1=(if 0≤hi then hi else NOB:Int)∧gr7 lo hi 3 2=NOB∧gr7 lo hi 3 3=(0:Int):=by
 unfold gr7 farG
 by_cases h0:0≤hi
 ·simp[h0,shapeG,shapeX,shapeY,sameG,lessG,setB,baseG,freeG,NOB]
  omega
 ·simp[h0,shapeG,shapeX,shapeY,sameG,lessG,setB,baseG,freeG,NOB]
  omega
theorem fine7(lo hi:Int)(hl:0≤lo∧lo≤1073741824)(hh: -1≤hi∧hi≤1073741824)(hlh:hi= -1∨lo≤hi):Fine (gr7 lo hi):=by
 obtain⟨e00,e01,e02,e03,e10,e11,e12,e13,e20,e21,e22,e23,e30,e31,e32,e33⟩:=at7 lo hi hl hh
 by_cases hc:0≤hi∧hi<1
 ·refine .inr ⟨1,3,by omega,by omega,?_⟩
  rw[e13,e31]
  unfold NOB
  split<;>omega
 ·refine .inl ⟨fun a=>([0,0,0,max 1 lo]:List Int).getD a 0,max 0 hi,fun a b=>([[1,1,1,2],[0,1,0,1],[1,2,1,1],[0,2,0,1]].getD a []).getD b 0,by decide,by omega,fun a ha=>?_,?_⟩
  ·rcases four ha with rfl|rfl|rfl|rfl<;>simp<;>omega
  ·have hall: ∀ (p:Nat→Nat→Prop),(p 0 0∧p 0 1∧p 0 2∧p 0 3)∧(p 1 0∧p 1 1∧p 1 2∧p 1 3)∧(p 2 0∧p 2 1∧p 2 2∧p 2 3)∧(p 3 0∧p 3 1∧p 3 2∧p 3 3)→ ∀ a b,a<4→b<4→p a b:=fun p h a b ha hb=>by
    rcases four ha with rfl|rfl|rfl|rfl<;>rcases four hb with rfl|rfl|rfl|rfl<;>simp[h]
   refine⟨hall _ ?_,hall _ ?_,hall _ ?_,hall _ ?_,hall _ ?_⟩<;>simp only[e00,e01,e02,e03,e10,e11,e12,e13,e20,e21,e22,e23,e30,e31,e32,e33]<;>simp[NOB]<;>(repeat' apply And.intro)<;>(repeat' split)<;>omega
def gr9(lo hi:Int):Mx:=farG (shapeG baseG 9) (shapeX 9) (shapeY 9) lo hi
theorem at9(lo hi:Int)(hl:0≤lo∧lo≤1073741824)(hh: -1≤hi∧hi≤1073741824):gr9 lo hi 0 0=(0:Int)∧gr9 lo hi 0 1=(0:Int)∧gr9 lo hi 0 2=(if 0≤hi then hi else NOB:Int)∧gr9 lo hi 0 3=NOB∧gr9 lo hi 1 0=NOB∧gr9 lo hi 1 1=(0:Int)∧gr9 lo hi 1 2=NOB∧gr9 lo hi 1 3=(-1:Int)∧gr9 lo hi 2 0=(min (-1) (-lo):Int)∧gr9 lo hi 2 1=NOB∧gr9 lo hi 2 2=(0:Int)∧gr9 lo hi 2 3=(0:Int)∧gr9 lo hi 3 0=NOB∧gr9 lo hi 3 1=NOB∧gr9 lo hi 3 2=NOB∧gr9 lo hi 3 3=(0:Int):=by
 unfold gr9 farG
 by_cases h0:0≤hi
 ·simp[h0,shapeG,shapeX,shapeY,sameG,lessG,setB,baseG,freeG,NOB]
  omega
 ·simp[h0,shapeG,shapeX,shapeY,sameG,lessG,setB,baseG,freeG,NOB]
  omega
theorem fine9(lo hi:Int)(hl:0≤lo∧lo≤1073741824)(hh: -1≤hi∧hi≤1073741824)(hlh:hi= -1∨lo≤hi):Fine (gr9 lo hi):=by
 obtain⟨e00,e01,e02,e03,e10,e11,e12,e13,e20,e21,e22,e23,e30,e31,e32,e33⟩:=at9 lo hi hl hh
 by_cases hc:0≤hi∧hi<1
 ·refine .inr ⟨2,0,by omega,by omega,?_⟩
  rw[e20,e02]
  unfold NOB
  split<;>omega
 ·refine .inl ⟨fun a=>([max 1 lo,max 1 lo,0,max 1 lo+1]:List Int).getD a 0,max 0 hi,fun a b=>([[1,1,2,2],[0,1,0,1],[1,2,1,1],[0,0,0,1]].getD a []).getD b 0,by decide,by omega,fun a ha=>?_,?_⟩
  ·rcases four ha with rfl|rfl|rfl|rfl<;>simp<;>omega
  ·have hall: ∀ (p:Nat→Nat→Prop),(p 0 0∧p 0 1∧p 0 2∧p 0 3)∧(p 1 0∧p 1 1∧p 1 2∧p 1 3)∧(p 2 0∧p 2 1∧p 2 2∧p 2 3)∧(p 3 0∧p 3 1∧p 3 2∧p 3 3)→ ∀ a b,a<4→b<4→p a b:=fun p h a b ha hb=>by
    rcases four ha with rfl|rfl|rfl|rfl<;>rcases four hb with rfl|rfl|rfl|rfl<;>simp[h]
   refine⟨hall _ ?_,hall _ ?_,hall _ ?_,hall _ ?_,hall _ ?_⟩<;>simp only[e00,e01,e02,e03,e10,e11,e12,e13,e20,e21,e22,e23,e30,e31,e32,e33]<;>simp[NOB]<;>(repeat' apply And.intro)<;>(repeat' split)<;>omega
def gr11(lo hi:Int):Mx:=farG (shapeG baseG 11) (shapeX 11) (shapeY 11) lo hi
theorem at11(lo hi:Int)(hl:0≤lo∧lo≤1073741824)(hh: -1≤hi∧hi≤1073741824):gr11 lo hi 0 0=(0:Int)∧gr11 lo hi 0 1=(0:Int)∧gr11 lo hi 0 2=(if 0≤hi then hi else NOB:Int)∧gr11 lo hi 0 3=NOB∧gr11 lo hi 1 0=NOB∧gr11 lo hi 1 1=(0:Int)∧gr11 lo hi 1 2=NOB∧gr11 lo hi 1 3=(0:Int)∧gr11 lo hi 2 0=(min (-1) (-lo):Int)∧gr11 lo hi 2 1=NOB∧gr11 lo hi 2 2=(0:Int)∧gr11 lo hi 2 3=(0:Int)∧gr11 lo hi 3 0=NOB∧gr11 lo hi 3 1=(0:Int)∧gr11 lo hi 3 2=NOB∧gr11 lo hi 3 3=(0:Int):=by
 unfold gr11 farG
 by_cases h0:0≤hi
 ·simp[h0,shapeG,shapeX,shapeY,sameG,lessG,setB,baseG,freeG,NOB]
  omega
 ·simp[h0,shapeG,shapeX,shapeY,sameG,lessG,setB,baseG,freeG,NOB]
  omega
theorem fine11(lo hi:Int)(hl:0≤lo∧lo≤1073741824)(hh: -1≤hi∧hi≤1073741824)(hlh:hi= -1∨lo≤hi):Fine (gr11 lo hi):=by
 obtain⟨e00,e01,e02,e03,e10,e11,e12,e13,e20,e21,e22,e23,e30,e31,e32,e33⟩:=at11 lo hi hl hh
 by_cases hc:0≤hi∧hi<1
 ·refine .inr ⟨2,0,by omega,by omega,?_⟩
  rw[e20,e02]
  unfold NOB
  split<;>omega
 ·refine .inl ⟨fun a=>([max 1 lo,max 1 lo,0,max 1 lo]:List Int).getD a 0,max 0 hi,fun a b=>([[1,1,2,2],[0,1,0,1],[1,2,1,1],[0,1,0,1]].getD a []).getD b 0,by decide,by omega,fun a ha=>?_,?_⟩
  ·rcases four ha with rfl|rfl|rfl|rfl<;>simp<;>omega
  ·have hall: ∀ (p:Nat→Nat→Prop),(p 0 0∧p 0 1∧p 0 2∧p 0 3)∧(p 1 0∧p 1 1∧p 1 2∧p 1 3)∧(p 2 0∧p 2 1∧p 2 2∧p 2 3)∧(p 3 0∧p 3 1∧p 3 2∧p 3 3)→ ∀ a b,a<4→b<4→p a b:=fun p h a b ha hb=>by
    rcases four ha with rfl|rfl|rfl|rfl<;>rcases four hb with rfl|rfl|rfl|rfl<;>simp[h]
   refine⟨hall _ ?_,hall _ ?_,hall _ ?_,hall _ ?_,hall _ ?_⟩<;>simp only[e00,e01,e02,e03,e10,e11,e12,e13,e20,e21,e22,e23,e30,e31,e32,e33]<;>simp[NOB]<;>(repeat' apply And.intro)<;>(repeat' split)<;>omega
def gr13(lo hi:Int):Mx:=farG (shapeG baseG 13) (shapeX 13) (shapeY 13) lo hi
theorem at13(lo hi:Int)(hl:0≤lo∧lo≤1073741824)(hh: -1≤hi∧hi≤1073741824):gr13 lo hi 0 0=(0:Int)∧gr13 lo hi 0 1=(0:Int)∧gr13 lo hi 0 2=(min (0) (-lo):Int)∧gr13 lo hi 0 3=NOB∧gr13 lo hi 1 0=NOB∧gr13 lo hi 1 1=(0:Int)∧gr13 lo hi 1 2=NOB∧gr13 lo hi 1 3=(0:Int)∧gr13 lo hi 2 0=(if 0≤hi then min (0) hi else 0:Int)∧gr13 lo hi 2 1=NOB∧gr13 lo hi 2 2=(0:Int)∧gr13 lo hi 2 3=(0:Int)∧gr13 lo hi 3 0=NOB∧gr13 lo hi 3 1=(0:Int)∧gr13 lo hi 3 2=NOB∧gr13 lo hi 3 3=(0:Int):=by
 unfold gr13 farG
 by_cases h0:0≤hi
 ·simp[h0,shapeG,shapeX,shapeY,sameG,lessG,setB,baseG,freeG,NOB]
  omega
 ·simp[h0,shapeG,shapeX,shapeY,sameG,lessG,setB,baseG,freeG,NOB]
  omega
theorem fine13(lo hi:Int)(hl:0≤lo∧lo≤1073741824)(hh: -1≤hi∧hi≤1073741824)(hlh:hi= -1∨lo≤hi):Fine (gr13 lo hi):=by
 obtain⟨e00,e01,e02,e03,e10,e11,e12,e13,e20,e21,e22,e23,e30,e31,e32,e33⟩:=at13 lo hi hl hh
 by_cases hc:0<lo
 ·refine .inr ⟨0,2,by omega,by omega,?_⟩
  rw[e02,e20]
  unfold NOB
  split<;>omega
 ·refine .inl ⟨fun a=>([0,0,0,0]:List Int).getD a 0,max 0 hi,fun a b=>([[1,1,1,2],[0,1,0,1],[1,2,1,1],[0,1,0,1]].getD a []).getD b 0,by decide,by omega,fun a ha=>?_,?_⟩
  ·rcases four ha with rfl|rfl|rfl|rfl<;>simp<;>omega
  ·have hall: ∀ (p:Nat→Nat→Prop),(p 0 0∧p 0 1∧p 0 2∧p 0 3)∧(p 1 0∧p 1 1∧p 1 2∧p 1 3)∧(p 2 0∧p 2 1∧p 2 2∧p 2 3)∧(p 3 0∧p 3 1∧p 3 2∧p 3 3)→ ∀ a b,a<4→b<4→p a b:=fun p h a b ha hb=>by
    rcases four ha with rfl|rfl|rfl|rfl<;>rcases four hb with rfl|rfl|rfl|rfl<;>simp[h]
   refine⟨hall _ ?_,hall _ ?_,hall _ ?_,hall _ ?_,hall _ ?_⟩<;>simp only[e00,e01,e02,e03,e10,e11,e12,e13,e20,e21,e22,e23,e30,e31,e32,e33]<;>simp[NOB]<;>(repeat' apply And.intro)<;>(repeat' split)<;>omega
def OptsPost(os:List Opt)(w:World)(x:Ending)(w' :World):Prop:=
 ∃ ao n cap l,x= .returned (.tuple #[.slice ao n cap,.int .i64 (if optsE os=0 then(if l.isEmpty=true then 16 else 0)else optsE os)])∧l=(if optsE os=0 then accL os os.length else [])∧Below w.heap.size w w' ∧SlF (from_ w.heap.size) w' 1 lineF ao n cap l
set_option maxHeartbeats 2000000 in
set_option maxRecDepth 100000 in
theorem options_any(F:Nat→Prop)(ao:Option Addr)(n cap:Nat)(os:List Opt)(w:World)(hO:SlF F w 3 optF ao n cap os):
  Calls Tryz.prog 78 #[.slice ao n cap] w (OptsPost os w):=by
 have NL:Hid (n=os.length):=hO.len
 have hle:=hO.le
 have eY:=nil_yes
 go_enter Tryz.func78,Tryz.ntmps78
 go_wp2_with fail
 go_loopw [14] (fun i wr=> ∃ k:Nat,k≤n∧i= .int .i64 k∧Below w.heap.size w wr∧Hid (AllZ (optAt os) k)) (fun i _=>n - (intOf i).toNat)
 case atStart=>exact⟨0,by omega,rfl,Below.refl _ _,allZ_zero _⟩
 case round=>
  obtain⟨k,hk,rfl,hbr,HA⟩:=hrel
  by_cases hlt:k<n
  ·have hkl:k<os.length:=by have:=NL.out;omega
   obtain⟨b,off,row,hix,hblt,hrow,hrr⟩:=(hO.below optF_firm hbr).toR.index (P:=Tryz.prog) Tryz.underlying95 size_option (i:=k) hkl
   obtain rfl:row=optC os[k]:=hrr
   obtain⟨c0,c1,c2⟩:=hrow.three
   have hk1:(k:Int)<n:=by omega
   go_wp2_with fail
   refine(optCheck_any _ _ _ _).mono ?_
   rintro e w1 ⟨rfl,hb1⟩
   have hbr1:Below w.heap.size w w1:=(hbr.trans ((Joins.below_alloc1 wr _).mono hbr.size)).trans (hb1.mono (by have:=hbr.size;simp;omega))
   have HE:Hid (optAt os k=optE os[k].rel os[k].lo os[k].hi):=by show _=_;unfold optAt;simp[List.getD,List.getElem?_eq_getElem hkl]
   by_cases hz:optE os[k].rel os[k].lo os[k].hi=0
   ·have hA2:Hid (AllZ (optAt os) (k+1)):=allZ_succ HA.out (by rw[HE.out];exact hz)
    go_wp2
    go_roundw
    case rel=>exact⟨k+1,by omega,by go_num,hbr1,hA2⟩
    case measure=>simp[intOf];omega
   ·have hf:optsE os=optE os[k].rel os[k].lo os[k].hi:=by
     unfold optsE
     rw[firstN_at HA.out hkl (by rw[HE.out];exact hz),HE.out]
    have hzb:(optE os[k].rel os[k].lo os[k].hi !=0)=true:=by simpa using hz
    have hz2: ¬ optsE os=0:=by rw[hf];exact hz
    have HF:=Lib.hid hf
    clear hf
    generalize optE os[k].rel os[k].lo os[k].hi=ee at *
    go_wp2
    go_ret2
    refine⟨none,0,0,[],?_,by rw[if_neg hz2],hbr1,SlF.nil⟩
    rw[if_neg hz2,HF.out]
    rfl
  ·obtain rfl:k=n:=by omega
   have hz:optsE os=0:=by unfold optsE;rw[←NL.out];exact firstN_zero HA.out
   have HZ:=Lib.hid hz
   have OKs:Hid (∀ j,j<k→optAt os j=0):=HA.out
   obtain⟨wl,hwl⟩: ∃ wl:World,Hid (wl=wr):=⟨_,rfl⟩
   clear hz HA
   go_wp2_with fail
   go_loopw [7,26] (fun o i wr=> ∃ q:Nat,q≤k∧i= .int .i64 q∧Below w.heap.size w wr∧ ∃ ao2 n2 cap2,o= .slice ao2 n2 cap2∧Hid (SlF (from_ w.heap.size) wr 1 lineF ao2 n2 cap2 (accL os q))∧Hid (accL os q=[]→ao2=none)) (fun _ i _=>k - (intOf i).toNat)
   case atStart=>exact⟨0,by omega,rfl,hbr,none,0,0,rfl,SlF.nil,fun _=>rfl⟩
   case round=>
    clear hbr hwl
    obtain⟨q,hq,rfl,hbr,ao2,n2,cap2,rfl,HS,HN⟩:=hrel
    by_cases hlt:q<k
    ·have hql:q<os.length:=by have:=NL.out;omega
     obtain⟨b,off,row,hix,hblt,hrow,hrr⟩:=(hO.below optF_firm hbr).toR.index (P:=Tryz.prog) Tryz.underlying95 size_option (i:=q) hql
     obtain rfl:row=optC os[q]:=hrr
     obtain⟨c0,c1,c2⟩:=hrow.three
     have hq1:(q:Int)<k:=by omega
     have hoq:optE os[q].rel os[q].lo os[q].hi=0:=by
      have:=OKs.out q hlt
      unfold optAt at this
      simpa[List.getD,List.getElem?_eq_getElem hql]using this
     obtain⟨v1,v2,v3⟩:=optE_zero hoq
     have HX:Hid (accL os (q+1)=stepL (accL os q) os[q]):=accL_next os q hql
     have hle2:=HS.out.le
     have hsr:=hbr.size
     go_wp2_with fail
     refine(one_any _ _ _ _ v1 v2).mono ?_
     rintro e w1 h1
     have HOP:Hid (OnePost (optL os[q].rel os[q].lo os[q].hi) (wr.alloc (.cells #[.int .i64 os[q].rel,.int .i64 os[q].lo,.int .i64 os[q].hi] 128)) e w1):=h1
     clear h1 hrow hix c0 c1 c2 hoq v1 v2 v3
     have hsa:(wr.alloc (.cells #[.int .i64 os[q].rel,.int .i64 os[q].lo,.int .i64 os[q].hi] 128)).heap.size=wr.heap.size+1:=World.size_alloc _ _
     rcases HOP.out with⟨hn,rfl,hb1⟩|⟨l,ao3,cap3,hn,hl4,rfl,hb1,hS3⟩
     ·have hb2:Below wr.heap.size wr w1:=(Joins.below_alloc1 wr _).trans (hb1.mono (by simp))
      have HS2:Hid (SlF (from_ w.heap.size) w1 1 lineF ao2 n2 cap2 (accL os (q+1))):=by
       show SlF _ _ _ _ _ _ _ _
       rw[HX.out]
       unfold stepL
       rw[hn]
       exact HS.out.below lineF_firm hb2
      have HN2:Hid (accL os (q+1)=[]→ao2=none):=by
       show _→_
       rw[HX.out]
       unfold stepL
       rw[hn]
       exact HN.out
      clear HS HN HX HOP hn hb1
      go_wp2
      go_roundw
      case rel=>exact⟨q+1,by omega,by go_num,hbr.trans (hb2.mono hsr),_,_,_,rfl,HS2,HN2⟩
      case measure=>simp[intOf];omega
     ·have hb2:Below wr.heap.size wr w1:=(Joins.below_alloc1 wr _).trans (hb1.mono (by simp))
      have hs2:=hb2.size
      have hS4:SlF (from_ w.heap.size) w1 1 lineF ao3 4 cap3 l:=hS3.wide lineF_firm (fun b hb _=>by unfold from_ at *;omega)
      have hl0:l≠[]:=fun e=>by rw[e]at hl4;cases hl4
      cases hacc:accL os q with
      |nil=>
       have hn2:n2=0:=by have:=HS.out.len;rw[hacc]at this;exact this
       have hao2:ao2=none:=HN.out hacc
       subst hn2 hao2
       have hcap2:cap2=0:=HS.out.2.2.2.1 rfl
       subst hcap2
       have HS2:Hid (SlF (from_ w.heap.size) w1 1 lineF ao3 4 cap3 (accL os (q+1))):=by
        show SlF _ _ _ _ _ _ _ _
        rw[HX.out]
        unfold stepL
        rw[hn,hacc]
        exact hS4
       have HN2:Hid (accL os (q+1)=[]→ao3=none):=by
        show _→_
        rw[HX.out]
        unfold stepL
        rw[hn,hacc]
        exact fun e=>absurd e hl0
       clear HS HN HX HOP hn hb1 hS3 hS4 hacc hl4
       go_wp2
       go_roundw
       case rel=>exact⟨q+1,by omega,by go_num,hbr.trans (hb2.mono hsr),_,_,_,rfl,HS2,HN2⟩
       case measure=>simp[intOf];omega
      |cons x xs=>
       have hne:accL os q≠[]:=by rw[hacc];exact List.cons_ne_nil _ _
       have hie:(accL os q).isEmpty=false:=by rw[hacc];rfl
       obtain⟨b5,o5,e5⟩:=slF_some HS.out hne
       subst e5
       have hS5:=HS.out.below lineF_firm hb2
       have eN:=nil_no b5 o5 n2 cap2
       have hn5: ¬ n2=0:=fun e=>hne (List.eq_nil_of_length_eq_zero (by rw[←HS.out.len,e]))
       have HXX:Hid (accL os (q+1)=joinM max (accL os q) l):=by
        show _=_
        rw[HX.out]
        unfold stepL
        rw[hn,hie]
        rfl
       have HS5:=Lib.hid hS5
       have HS4:=Lib.hid hS4
       have HNE:=Lib.hid hne
       clear HS HN HX HOP hn hb1 hS3 hS4 hacc hl4 hS5 hne hie
       go_wp2_with fail
       refine(either_more _ _ _ n2 cap2 (accL os q) ao3 4 cap3 l w1 HS5.out HS4.out HNE.out).mono ?_
       rintro e w3 ⟨ao6,n6,cap6,rfl,hb6,hS6,hN6⟩
       have HS6:Hid (SlF (from_ w.heap.size) w3 1 lineF ao6 n6 cap6 (accL os (q+1))):=by
        show SlF _ _ _ _ _ _ _ _
        rw[HXX.out]
        exact hS6.wide lineF_firm (fun b hb _=>by unfold from_ at *;omega)
       have HN6:Hid (accL os (q+1)=[]→ao6=none):=by
        show _→_
        rw[HXX.out]
        exact hN6
       clear hS6 hN6
       go_wp2
       go_roundw
       case rel=>exact⟨q+1,by omega,by go_num,(hbr.trans (hb2.mono hsr)).trans (hb6.mono (by omega)),_,_,_,rfl,HS6,HN6⟩
       case measure=>simp[intOf];omega
    ·obtain rfl:q=k:=by omega
     rw[NL.out]at HS HN
     have hle2:=HS.out.le
     cases hacc:accL os os.length with
     |nil=>
      have hn2:n2=0:=by have:=HS.out.len;rw[hacc]at this;exact this
      have hao2:ao2=none:=HN.out hacc
      subst hn2 hao2
      have hcap2:cap2=0:=HS.out.2.2.2.1 rfl
      subst hcap2
      have HC:=Lib.hid hacc
      clear hacc HS HN
      go_wp2
      go_ret2
      refine⟨none,0,0,[],?_,by rw[if_pos HZ.out,HC.out],hbr,SlF.nil⟩
      rw[if_pos HZ.out]
      rfl
     |cons x xs=>
      have hne:accL os os.length≠[]:=by rw[hacc];exact List.cons_ne_nil _ _
      obtain⟨b5,o5,e5⟩:=slF_some HS.out hne
      subst e5
      have eN:=nil_no b5 o5 n2 cap2
      have HC:Hid ((accL os os.length).isEmpty=false):=by show _=_;rw[hacc];rfl
      clear hacc HN hne
      go_wp2
      go_ret2
      refine⟨_,n2,cap2,accL os os.length,?_,by rw[if_pos HZ.out],hbr,HS.out⟩
      rw[if_pos HZ.out,HC.out]
      rfl
def codeO(os:List Opt)(l:List (List Int)):Int:=if optsE os=0 then(if l.isEmpty=true then 16 else 0)else optsE os
def listO(os:List Opt):List (List Int):=if optsE os=0 then accL os os.length else []
def OptsPost2(os:List Opt)(w:World)(x:Ending)(w' :World):Prop:=
 ∃ ao n cap,x= .returned (.tuple #[.slice ao n cap,.int .i64 (codeO os (listO os))])∧Below w.heap.size w w' ∧SlF (from_ w.heap.size) w' 1 lineF ao n cap (listO os)
theorem opts_two{os:List Opt}{w:World}{x:Ending}{w' :World}(h:OptsPost os w x w'):OptsPost2 os w x w' :=by
 obtain⟨ao,n,cap,l,h1,h2,h3,h4⟩:=h
 have h5:l=listO os:=h2
 subst h5
 exact⟨ao,n,cap,h1,h3,h4⟩
end Go.Proofs.YtncmghnhfipklaaGreatDoor
