/-
  The tuples of a rule, in plain Lean: found one by one with cuts, or all told and sifted.
-/
import Derived.Test.YtfahleafppfkaaaGreatDoorWf30
import Derived.Test.YtfahleafppfkaaaGreatDoorJuA
namespace Go.Proofs.YtfahleafppfkaaaGreatDoor
open Go.RowKit
set_option linter.unusedVariables false
set_option linter.unusedSimpArgs false
def numE(l:List Eve):Int:=l.foldl (fun n x=>if n<x.e.number then x.e.number else n) 0
theorem numE_snoc{l:List Eve}{j:Nat}(h:j<l.length):numE (l.take (j+1))=if numE (l.take j)<l[j].e.number then l[j].e.number else numE (l.take j):=by
 unfold numE
 rw[List.take_add_one,List.getElem?_eq_getElem h,List.foldl_append]
 rfl
def newerB(x:Eve)(top:Int)(y:Eve):Bool:=y.e.type==x.e.type&&(decide (x.e.number<y.e.number)&&decide (y.e.number≤top))
def newerN(all:List Eve)(x:Eve)(top:Int):Nat:=all.countP (newerB x top)
def winB(last top:Int)(all:List Eve)(p:Pat)(x:Eve):Bool:=
 if p.window=1 then !decide (p.n<last - x.e.stop)else if p.window=2 then !decide (p.n≤newerN all x top)else true
def windowsB(all:List Eve)(wh:List Pat)(l:List Eve):Bool:=(wh.zip l).all (fun z=>winB (lastE l) (numE l) all z.1 z.2)
def bothB(wh:List Pat)(k:Lnk):Bool:=decide (patI wh k.left<wh.length)&&decide (patI wh k.right<wh.length)
def spansB(wh:List Pat)(l:List Eve)(k:Lnk):Bool:=lnkB k (spanX (l.getD (patI wh k.left) default)) (spanX (l.getD (patI wh k.right) default))
def newL(wh:List Pat)(l:List Eve)(k:Lnk):Bool:=!(bothB wh k&&decide (max (patI wh k.left) (patI wh k.right)+1=l.length))||spansB wh l k
def linkedT(R:Rul)(l:List Eve):Bool:=R.links.all (newL R.whens l)
def stepB(ts:List Typ)(R:Rul)(l:List Eve)(x:Eve):Bool:=!inT l x&&(takenB ts R.whens l x (R.whens.getD l.length pat0)&&linkedT R (l++[x]))
def numsE(l:List Eve):List Int:=l.map fun x=>x.e.number
def addL(ts:List Typ)(R:Rul)(all:List Eve):Nat→List Eve→List (List Int)
 |0,l=>if windowsB all R.whens l=true then [numsE l]else []
 |n+1,l=>all.flatMap fun x=>if stepB ts R l x=true then addL ts R all n (l++[x])else []
def oldL(wh:List Pat)(l:List Eve)(k:Lnk):Bool:=!bothB wh k||spansB wh l k
def oneB(ts:List Typ)(wh:List Pat)(l:List Eve)(i:Nat):Bool:=!inT (l.take i) (l.getD i default)&&takenB ts wh (l.take i) (l.getD i default) (wh.getD i pat0)
def togB(ts:List Typ)(R:Rul)(all l:List Eve):Bool:=(List.range l.length).all (oneB ts R.whens l)&&(R.links.all (oldL R.whens l)&&windowsB all R.whens l)
def teamsL(m:Nat):Nat→List (List Nat)
 |0=>[[]]
 |n+1=>(teamsL m n).flatMap fun l=>(List.range m).map fun j=>l++[j]
def namesB(ts:List Typ)(wh:List Pat)(l:List Eve):Bool:=(wh.zip l).all (fun z=>sameS (evT ts z.2).name z.1.type)
def pickL(all:List Eve)(t:List Nat):List Eve:=t.map fun j=>all.getD j default
def toldL(ts:List Typ)(R:Rul)(all:List Eve)(t:List Nat):List (List Int):=if(namesB ts R.whens (pickL all t)&&togB ts R all (pickL all t))=true then [numsE (pickL all t)]else []
def tuplesL(ts:List Typ)(R:Rul)(all:List Eve):List (List Int):=(teamsL all.length R.whens.length).flatMap (toldL ts R all)
def prodR(all:List Eve):Nat→List (List Eve)
 |0=>[[]]
 |n+1=>(prodR all n).flatMap fun l=>all.map fun x=>l++[x]
theorem range_pick(all:List Eve):(List.range all.length).map (fun j=>all.getD j default)=all:=by
 refine List.ext_getElem (by simp) fun i h1 h2=>?_
 simp[List.getD,List.getElem?_eq_getElem h2]
theorem pick_snoc(all:List Eve)(l:List Nat)(j:Nat):pickL all (l++[j])=pickL all l++[all.getD j default]:=by simp[pickL]
theorem teams_R(all:List Eve): ∀ n,(teamsL all.length n).map (pickL all)=prodR all n
 |0=>rfl
 |n+1=>by
  show((teamsL all.length n).flatMap fun l=>(List.range all.length).map fun j=>l++[j]).map (pickL all)=(prodR all n).flatMap _
  rw[←teams_R all n,List.map_flatMap,List.flatMap_map]
  congr 1
  funext l
  rw[List.map_map]
  have:(pickL all∘fun j=>l++[j])=(fun x=>pickL all l++[x])∘(fun j=>all.getD j default):=by funext j;exact pick_snoc all l j
  rw[this,←List.map_map,range_pick]
theorem prodR_front(all:List Eve): ∀ n,prodR all (n+1)=all.flatMap fun x=>(prodR all n).map (x:: ·)
 |0=>by
  show([[]]:List (List Eve)).flatMap _=_
  rw[List.flatMap_singleton,List.map_eq_flatMap]
  rfl
 |n+1=>by
  show(prodR all (n+1)).flatMap (fun l=>all.map fun y=>l++[y])=all.flatMap fun x=>((prodR all n).flatMap fun l=>all.map fun y=>l++[y]).map (x:: ·)
  rw[prodR_front all n,List.flatMap_assoc]
  refine congrArg (fun f=>List.flatMap f all) (funext fun x=>?_)
  rw[List.flatMap_map,List.map_flatMap]
  refine congrArg (fun f=>List.flatMap f (prodR all n)) (funext fun l=>?_)
  rw[List.map_map]
  rfl
theorem prod_mem(all:List Eve): ∀ n t,t∈prodR all n→t.length=n∧ ∀ x∈t,x∈all
 |0,t,h=>by
  have:t=[]:=by simpa[prodR]using h
  subst this;simp
 |n+1,t,h=>by
  obtain⟨l,h1,h2⟩:=List.mem_flatMap.1 h
  obtain⟨x,h3,rfl⟩:=List.mem_map.1 h2
  obtain⟨h4,h5⟩:=prod_mem all n l h1
  refine⟨by simp[h4],fun y hy=>?_⟩
  rcases List.mem_append.1 hy with hy|hy
  ·exact h5 y hy
  ·rw[List.mem_singleton.1 hy];exact h3
def stepsB(ts:List Typ)(R:Rul):List Eve→List Eve→Bool
 |l,[]=>true
 |l,x::t=>stepB ts R l x&&stepsB ts R (l++[x]) t
theorem addL_all(ts:List Typ)(R:Rul)(all:List Eve): ∀ n l,addL ts R all n l=(prodR all n).flatMap fun t=>if(stepsB ts R l t&&windowsB all R.whens (l++t))=true then [numsE (l++t)]else []
 |0,l=>by simp[addL,prodR,stepsB]
 |n+1,l=>by
  rw[prodR_front,List.flatMap_assoc]
  show all.flatMap _=_
  congr 1
  funext x
  rw[List.flatMap_map]
  by_cases h:stepB ts R l x=true
  ·rw[if_pos h,addL_all ts R all n (l++[x])]
   congr 1
   funext t
   simp[stepsB,h]
  ·rw[if_neg h]
   symm
   rw[List.flatMap_eq_nil_iff]
   intro t ht
   simp[stepsB,h]
theorem stepsB_iff(ts:List Typ)(R:Rul): ∀ t l,stepsB ts R l t=true↔ ∀ i (h:i<t.length),stepB ts R (l++t.take i) t[i]=true
 |[],l=>by simp[stepsB]
 |x::t,l=>by
  rw[stepsB,Bool.and_eq_true,stepsB_iff ts R t (l++[x])]
  constructor
  ·rintro⟨h1,h2⟩ i h
   match i with
   |0=>simpa using h1
   |i+1=>have:=h2 i (by simpa using h);simpa using this
  ·intro h
   refine⟨by have:=h 0 (by simp);rw[List.take_zero,List.append_nil]at this;exact this,fun i hi=>?_⟩
   have:=h (i+1) (by simpa using hi)
   simpa using this
theorem getD_take{l:List Eve}{i n:Nat}(h:i<n):(l.take n).getD i default=l.getD i default:=by
 simp only[List.getD,List.getElem?_take,if_pos h]
theorem links_prefix{R:Rul}{t:List Eve}(ht:t.length=R.whens.length):(∀ i,i<t.length→linkedT R (t.take (i+1))=true)↔R.links.all (oldL R.whens t)=true:=by
 unfold linkedT
 simp only[List.all_eq_true]
 constructor
 ·intro h k hk
  unfold oldL
  cases hb:bothB R.whens k with
  |false=>rfl
  |true=>
   have h1:patI R.whens k.left<R.whens.length∧patI R.whens k.right<R.whens.length:=by simpa[bothB]using hb
   have h2:=h (max (patI R.whens k.left) (patI R.whens k.right)) (by omega) k hk
   unfold newL at h2
   rw[hb]at h2
   have h3:(t.take (max (patI R.whens k.left) (patI R.whens k.right)+1)).length=max (patI R.whens k.left) (patI R.whens k.right)+1:=by rw[List.length_take];omega
   rw[h3]at h2
   unfold spansB at h2 ⊢
   rw[getD_take (by omega),getD_take (by omega)]at h2
   simpa using h2
 ·intro h i hi k hk
  have h2:=h k hk
  unfold newL
  unfold oldL at h2
  cases hb:bothB R.whens k with
  |false=>rfl
  |true=>
   rw[hb]at h2
   have h1:patI R.whens k.left<R.whens.length∧patI R.whens k.right<R.whens.length:=by simpa[bothB]using hb
   by_cases he:max (patI R.whens k.left) (patI R.whens k.right)+1=(t.take (i+1)).length
   ·have h3:(t.take (i+1)).length=i+1:=by rw[List.length_take];omega
    rw[h3]at he
    have h4:spansB R.whens (t.take (i+1)) k=spansB R.whens t k:=by unfold spansB;rw[getD_take (by omega),getD_take (by omega)]
    have h5:spansB R.whens t k=true:=by simpa using h2
    rw[h4,h5,Bool.or_true]
   ·rw[decide_eq_false he];rfl
theorem tog_steps(ts:List Typ)(R:Rul)(all:List Eve){t:List Eve}(ht:t.length=R.whens.length):(namesB ts R.whens t&&togB ts R all t)=(stepsB ts R [] t&&windowsB all R.whens t):=by
 rw[Bool.eq_iff_iff,Bool.and_eq_true,Bool.and_eq_true,stepsB_iff]
 unfold togB
 rw[Bool.and_eq_true,Bool.and_eq_true,←links_prefix ht,List.all_eq_true]
 have e1: ∀ i (h:i<t.length),stepB ts R (([]:List Eve)++t.take i) t[i]=true↔(oneB ts R.whens t i=true∧linkedT R (t.take (i+1))=true):=fun i h=>by
  unfold stepB oneB
  have h1:(t.take i).length=i:=by rw[List.length_take];omega
  have h2:t.getD i default=t[i]:=by simp[List.getD,List.getElem?_eq_getElem h]
  rw[List.nil_append,h1,h2,List.take_append_getElem h,Bool.and_eq_true,Bool.and_eq_true,Bool.and_eq_true,and_assoc]
 constructor
 ·rintro⟨-,h1,h2,h3⟩
  exact⟨fun i h=>(e1 i h).2 ⟨h1 i (List.mem_range.2 h),h2 i h⟩,h3⟩
 ·rintro⟨h1,h3⟩
  refine⟨?_,fun i hi=>((e1 i (List.mem_range.1 hi)).1 (h1 i (List.mem_range.1 hi))).1,fun i hi=>((e1 i hi).1 (h1 i hi)).2,h3⟩
  unfold namesB
  rw[List.all_eq_true]
  intro z hz
  obtain⟨i,hi,rfl⟩:=List.mem_iff_getElem.1 hz
  have hil:i<t.length∧i<R.whens.length:=by simp only[List.length_zip]at hi;omega
  have:=((e1 i hil.1).1 (h1 i hil.1)).1
  unfold oneB takenB at this
  simp only[Bool.and_eq_true]at this
  simpa[List.getElem_zip,List.getD,List.getElem?_eq_getElem hil.1,List.getElem?_eq_getElem hil.2]using this.2.1
theorem flatMap_ext{α β:Type}{l:List α}{f g:α→List β}(h: ∀ x∈l,f x=g x):l.flatMap f=l.flatMap g:=by
 induction l with
 |nil=>rfl
 |cons a l ih=>rw[List.flatMap_cons,List.flatMap_cons,h a (List.mem_cons_self ..),ih fun x hx=>h x (List.mem_cons_of_mem _ hx)]
theorem tuples_same(ts:List Typ)(R:Rul)(all:List Eve):tuplesL ts R all=addL ts R all R.whens.length []:=by
 rw[addL_all,←teams_R,List.flatMap_map]
 unfold tuplesL
 refine flatMap_ext fun t ht=>?_
 have hm:=prod_mem all R.whens.length (pickL all t) (by rw[←teams_R];exact List.mem_map_of_mem ht)
 unfold toldL
 rw[tog_steps ts R all hm.1,List.nil_append]
end Go.Proofs.YtfahleafppfkaaaGreatDoor
/-
  Closures of join's teams, and searches with them. Printed by jtc.py.
-/
namespace Go.Proofs.YtfahleafppfkaaaGreatDoor
open Go.RowKit
set_option linter.unusedVariables false
set_option linter.unusedSimpArgs false
section
variable {g:Nat} {F:Nat→Prop} {ao:Option Addr} {n cap:Nat} {w0:World}
set_option maxRecDepth 8000 in
set_option maxHeartbeats 8000000 in
theorem numEqJ(hg:g<w0.heap.size)(y:Eve)(p:Option Addr)(q r zx:Nat)(k:Int)(hz:zx<w0.heap.size)(h0:w0.cell? ⟨zx,0,none⟩=some (.int .i64 k)):
  Calls Tryz.prog 36 #[.agg #[.int .i64 y.e.number,.int .i64 y.e.type,.int .i64 y.e.start,.int .i64 y.e.stop,.slice p q r],.pointer (some ⟨zx,0,none⟩)] w0 fun e w' =>e= .returned (.bool (y.e.number==k))∧Below w0.heap.size w0 w' :=by
 have M:=Mem.begin hg ⟨0,0⟩
 have HN0:=Lib.hid (keep_cell hz h0)
 clear hg hz h0
 go_enter Tryz.func36,Tryz.ntmps36
 go_wp2_with (with_reducible (first|(refine wB (L:=[]) M ?_;clear M;intro za w1 M)|refine wq M ?_|refine wC (HN0.out _ M.new) ?_))
 go_ret
 exact⟨rfl,M.new⟩
set_option maxRecDepth 8000 in
set_option maxHeartbeats 8000000 in
theorem varEqJ(hg:g<w0.heap.size)(y:Pat)(p:Option Addr)(q r zs:Nat)(nm:ByteArray)(hz:zs<w0.heap.size)(h0:w0.cell? ⟨zs,0,none⟩=some (.string nm)):
  Calls Tryz.prog 77 #[.agg (pat18 y p q r).toArray,.pointer (some ⟨zs,0,none⟩)] w0 fun e w' =>e= .returned (.bool (sameS y.var nm))∧Below w0.heap.size w0 w' :=by
 have M:=Mem.begin hg ⟨0,0⟩
 have HN0:=Lib.hid (keep_cell hz h0)
 unfold pat18
 clear hg hz h0
 go_enter Tryz.func77,Tryz.ntmps77
 go_wp2_with (with_reducible (first|(refine wB (L:=[]) M ?_;clear M;intro za w1 M)|refine wq M ?_|refine wC (HN0.out _ M.new) ?_))
 go_ret
 exact⟨rfl,M.new⟩
set_option maxRecDepth 8000 in
set_option maxHeartbeats 8000000 in
theorem ixEveJ(hg:g<w0.heap.size){l:List Eve}(hX:SlF F w0 5 eveF ao n cap l)(pr:Eve→Bool)(zx:Nat)(HC0: ∀ p∈l,∀ so sn sc wx,Below w0.heap.size w0 wx→Calls Tryz.prog 36 #[.agg #[.int .i64 p.e.number,.int .i64 p.e.type,.int .i64 p.e.start,.int .i64 p.e.stop,.slice so sn sc],.pointer (some ⟨zx,0,none⟩)] wx fun e w' =>e= .returned (.bool (pr p))∧Below wx.heap.size wx w'):
  Calls Tryz.prog 72 #[.slice ao n cap,.func (Fn.func 36) #[] #[.pointer (some ⟨zx,0,none⟩)]] w0 fun e w' =>e= .returned (.int .i64 (placeV (l.findIdx pr) l.length))∧Below w0.heap.size w0 w' :=by
 have NL:=Lib.hid hX.len
 have hle:=hX.le
 have M:=Mem.begin hg ⟨0,0⟩
 have HX:=Lib.hid hX
 replace HC0:=Lib.hid HC0
 clear hX hg
 go_enter Tryz.func72,Tryz.ntmps72
 go_wp2_with (with_reducible (first|refine wq M ?_|(refine wS M ?_;clear M;intro w M)|(refine wV M ?_;clear M;intro z w M)|(refine wR M ?_;clear M;intro q w M)))
 go_loopg [8] n (fun f i wr=> ∃ k:Nat,k+f=n∧i= .int .i64 k∧Mem (StaysB g w0) g w0 wr ⟨0,0⟩ []∧Hid (NoB l pr k))
 case atStart=>exact⟨0,by omega,rfl,M,noB_zero _ _⟩
 case round=>
  clear M
  obtain⟨k,hk,rfl,M,HB⟩:=hrel
  by_cases hlt:k<n
  ·have hkl:k<l.length:=by have:=NL.out;omega
   obtain⟨ca,oa,rowa,hixa, -,hrra,hwa⟩:=SlF.rowAt (P:=Tryz.prog) HX.out eveF_firm Tryz.underlying26 size_eve (i:=k) hkl
   obtain⟨p1,q1,s1,ea,u1⟩:=hrra
   subst ea
   have HC:=Lib.hid (HC0.out l[k] (List.getElem_mem hkl) p1 q1 s1)
   have HS:Hid (pr l[k]=true→placeV (l.findIdx pr) l.length=k):=fun h=>place_at HB.out hkl h
   have HT:Hid (pr l[k]=false→NoB l pr (k+1)):=fun h=>noB_succ HB.out hkl h
   have HR:=Lib.hid (fun wx hb=>(hwa wx hb).1)
   clear hwa HB
   generalize l[k]=p at HR HC HS HT
   cases hsm:pr p
   all_goals
    rw[hsm]at HC
    go_wp2_with (first|(with_reducible refine wA (HR.out _ M.new) ?_)|(go_at_call 36;with_reducible refine(HC.out _ M.new).mono ?_;rintro e w5 ⟨rfl,hb5⟩;replace M:=M.below hb5;clear hb5))
   ·have HV:=Lib.hid (HT.out hsm)
    go_roundg (n - (k+1))
    case measure=>omega
    case rel=>exact⟨k+1,by omega,by go_num,M,HV⟩
   ·have HV:=Lib.hid (HS.out hsm)
    go_ret
    rw[HV.out]
    exact⟨rfl,M.new⟩
  ·have HV:Hid (placeV (l.findIdx pr) l.length= -1):=by
    have e:k=l.length:=by have:=NL.out;omega
    exact place_none (e▸HB.out)
   go_wp2_with (with_reducible (first|refine wq M ?_|(refine wS M ?_;clear M;intro w M)|(refine wV M ?_;clear M;intro z w M)|(refine wR M ?_;clear M;intro q w M)))
   go_ret
   rw[HV.out]
   exact⟨rfl,M.new⟩
set_option maxRecDepth 8000 in
set_option maxHeartbeats 8000000 in
theorem conEveJ(hg:g<w0.heap.size){l:List Eve}(hX:SlF F w0 5 eveF ao n cap l)(pr:Eve→Bool)(zx:Nat)(HC0: ∀ p∈l,∀ so sn sc wx,Below w0.heap.size w0 wx→Calls Tryz.prog 36 #[.agg #[.int .i64 p.e.number,.int .i64 p.e.type,.int .i64 p.e.start,.int .i64 p.e.stop,.slice so sn sc],.pointer (some ⟨zx,0,none⟩)] wx fun e w' =>e= .returned (.bool (pr p))∧Below wx.heap.size wx w'):
  Calls Tryz.prog 35 #[.slice ao n cap,.func (Fn.func 36) #[] #[.pointer (some ⟨zx,0,none⟩)]] w0 fun e w' =>e= .returned (.bool (l.any pr))∧Below w0.heap.size w0 w' :=by
 have M:=Mem.begin hg ⟨0,0⟩
 have HI:Hid (∀ wx,Below w0.heap.size w0 wx→Calls Tryz.prog 72 #[.slice ao n cap,.func (Fn.func 36) #[] #[.pointer (some ⟨zx,0,none⟩)]] wx fun e w' =>e= .returned (.int .i64 (placeV (l.findIdx pr) l.length))∧Below wx.heap.size wx w'):=fun wx hb=>
  ixEveJ (Nat.lt_of_lt_of_le hg hb.size) (hX.below eveF_firm hb) pr zx (fun p hp so sn sc wy hby=>HC0 p hp so sn sc wy (hb.trans (hby.mono hb.size)))
 rw[←any_idx]
 generalize placeV (l.findIdx pr) l.length=v at HI ⊢
 clear hg hX HC0
 go_enter Tryz.func35,Tryz.ntmps35
 go_wp2_with (go_at_call 72;with_reducible refine(HI.out _ M.new).mono ?_;rintro e w5 ⟨rfl,hb5⟩;replace M:=M.below hb5;clear hb5)
 go_ret
 exact⟨rfl,M.new⟩
set_option maxRecDepth 8000 in
set_option maxHeartbeats 8000000 in
theorem ixPatJ(hg:g<w0.heap.size){l:List Pat}(hX:SlF F w0 18 patF ao n cap l)(pr:Pat→Bool)(zs:Nat)(HC0: ∀ p∈l,∀ so sn sc wx,Below w0.heap.size w0 wx→Calls Tryz.prog 77 #[.agg (pat18 p so sn sc).toArray,.pointer (some ⟨zs,0,none⟩)] wx fun e w' =>e= .returned (.bool (pr p))∧Below wx.heap.size wx w'):
  Calls Tryz.prog 76 #[.slice ao n cap,.func (Fn.func 77) #[] #[.pointer (some ⟨zs,0,none⟩)]] w0 fun e w' =>e= .returned (.int .i64 (placeV (l.findIdx pr) l.length))∧Below w0.heap.size w0 w' :=by
 have NL:=Lib.hid hX.len
 have hle:=hX.le
 have M:=Mem.begin hg ⟨0,0⟩
 have HX:=Lib.hid hX
 replace HC0:=Lib.hid HC0
 clear hX hg
 go_enter Tryz.func76,Tryz.ntmps76
 go_wp2_with (with_reducible (first|refine wq M ?_|(refine wS M ?_;clear M;intro w M)|(refine wV M ?_;clear M;intro z w M)|(refine wR M ?_;clear M;intro q w M)))
 go_loopg [8] n (fun f i wr=> ∃ k:Nat,k+f=n∧i= .int .i64 k∧Mem (StaysB g w0) g w0 wr ⟨0,0⟩ []∧Hid (NoB l pr k))
 case atStart=>exact⟨0,by omega,rfl,M,noB_zero _ _⟩
 case round=>
  clear M
  obtain⟨k,hk,rfl,M,HB⟩:=hrel
  by_cases hlt:k<n
  ·have hkl:k<l.length:=by have:=NL.out;omega
   obtain⟨ca,oa,rowa,hixa, -,hrra,hwa⟩:=SlF.rowAt (P:=Tryz.prog) HX.out patF_firm Tryz.underlying53 size_pat (i:=k) hkl
   obtain⟨p1,q1,s1,ea,u1⟩:=patF.open18 hrra
   subst ea
   have HC:=Lib.hid (HC0.out l[k] (List.getElem_mem hkl) p1 q1 s1)
   have HS:Hid (pr l[k]=true→placeV (l.findIdx pr) l.length=k):=fun h=>place_at HB.out hkl h
   have HT:Hid (pr l[k]=false→NoB l pr (k+1)):=fun h=>noB_succ HB.out hkl h
   have HR:=Lib.hid (fun wx hb=>(hwa wx hb).1)
   clear hwa HB
   unfold pat18 at HR HC
   generalize l[k]=p at HR HC HS HT
   cases hsm:pr p
   all_goals
    rw[hsm]at HC
    go_wp2_with (first|(with_reducible refine wA (HR.out _ M.new) ?_)|(go_at_call 77;with_reducible refine(HC.out _ M.new).mono ?_;rintro e w5 ⟨rfl,hb5⟩;replace M:=M.below hb5;clear hb5))
   ·have HV:=Lib.hid (HT.out hsm)
    go_roundg (n - (k+1))
    case measure=>omega
    case rel=>exact⟨k+1,by omega,by go_num,M,HV⟩
   ·have HV:=Lib.hid (HS.out hsm)
    go_ret
    rw[HV.out]
    exact⟨rfl,M.new⟩
  ·have HV:Hid (placeV (l.findIdx pr) l.length= -1):=by
    have e:k=l.length:=by have:=NL.out;omega
    exact place_none (e▸HB.out)
   go_wp2_with (with_reducible (first|refine wq M ?_|(refine wS M ?_;clear M;intro w M)|(refine wV M ?_;clear M;intro z w M)|(refine wR M ?_;clear M;intro q w M)))
   go_ret
   rw[HV.out]
   exact⟨rfl,M.new⟩
set_option maxRecDepth 8000 in
set_option maxHeartbeats 8000000 in
theorem ixOptJ(hg:g<w0.heap.size){l:List Opt}(hX:SlF F w0 3 (plainF optC) ao n cap l)(pr:Opt→Bool)(za:Nat)(zb zc:Nat)(HC0: ∀ p∈l,∀ wx,Below w0.heap.size w0 wx→Calls Tryz.prog 79 #[.agg #[.int .i64 p.rel,.int .i64 p.lo,.int .i64 p.hi],.pointer (some ⟨za,0,none⟩),.pointer (some ⟨zb,0,none⟩),.pointer (some ⟨zc,0,none⟩)] wx fun e w' =>e= .returned (.bool (pr p))∧Below wx.heap.size wx w'):
  Calls Tryz.prog 119 #[.slice ao n cap,.func (Fn.func 79) #[] #[.pointer (some ⟨za,0,none⟩),.pointer (some ⟨zb,0,none⟩),.pointer (some ⟨zc,0,none⟩)]] w0 fun e w' =>e= .returned (.int .i64 (placeV (l.findIdx pr) l.length))∧Below w0.heap.size w0 w' :=by
 have NL:=Lib.hid hX.len
 have hle:=hX.le
 have M:=Mem.begin hg ⟨0,0⟩
 have HX:=Lib.hid hX
 replace HC0:=Lib.hid HC0
 clear hX hg
 go_enter Tryz.func119,Tryz.ntmps119
 go_wp2_with (with_reducible (first|refine wq M ?_|(refine wS M ?_;clear M;intro w M)|(refine wV M ?_;clear M;intro z w M)|(refine wR M ?_;clear M;intro q w M)))
 go_loopg [8] n (fun f i wr=> ∃ k:Nat,k+f=n∧i= .int .i64 k∧Mem (StaysB g w0) g w0 wr ⟨0,0⟩ []∧Hid (NoB l pr k))
 case atStart=>exact⟨0,by omega,rfl,M,noB_zero _ _⟩
 case round=>
  clear M
  obtain⟨k,hk,rfl,M,HB⟩:=hrel
  by_cases hlt:k<n
  ·have hkl:k<l.length:=by have:=NL.out;omega
   obtain⟨ca,oa,rowa,hixa, -,hrra,hwa⟩:=SlF.rowAt (P:=Tryz.prog) HX.out (plainF_firm _) Tryz.underlying132 szOpt (i:=k) hkl
   have ea:rowa=optC l[k]:=hrra
   subst ea
   have HC:=Lib.hid (HC0.out l[k] (List.getElem_mem hkl))
   have HS:Hid (pr l[k]=true→placeV (l.findIdx pr) l.length=k):=fun h=>place_at HB.out hkl h
   have HT:Hid (pr l[k]=false→NoB l pr (k+1)):=fun h=>noB_succ HB.out hkl h
   have HR:=Lib.hid (fun wx hb=>(hwa wx hb).1)
   clear hwa HB
   unfold optC at HR
   generalize l[k]=p at HR HC HS HT
   cases hsm:pr p
   all_goals
    rw[hsm]at HC
    go_wp2_with (first|(with_reducible refine wA (HR.out _ M.new) ?_)|(go_at_call 79;with_reducible refine(HC.out _ M.new).mono ?_;rintro e w5 ⟨rfl,hb5⟩;replace M:=M.below hb5;clear hb5))
   ·have HV:=Lib.hid (HT.out hsm)
    go_roundg (n - (k+1))
    case measure=>omega
    case rel=>exact⟨k+1,by omega,by go_num,M,HV⟩
   ·have HV:=Lib.hid (HS.out hsm)
    go_ret
    rw[HV.out]
    exact⟨rfl,M.new⟩
  ·have HV:Hid (placeV (l.findIdx pr) l.length= -1):=by
    have e:k=l.length:=by have:=NL.out;omega
    exact place_none (e▸HB.out)
   go_wp2_with (with_reducible (first|refine wq M ?_|(refine wS M ?_;clear M;intro w M)|(refine wV M ?_;clear M;intro z w M)|(refine wR M ?_;clear M;intro q w M)))
   go_ret
   rw[HV.out]
   exact⟨rfl,M.new⟩
set_option maxRecDepth 8000 in
set_option maxHeartbeats 8000000 in
theorem conOptJ(hg:g<w0.heap.size){l:List Opt}(hX:SlF F w0 3 (plainF optC) ao n cap l)(pr:Opt→Bool)(za:Nat)(zb zc:Nat)(HC0: ∀ p∈l,∀ wx,Below w0.heap.size w0 wx→Calls Tryz.prog 79 #[.agg #[.int .i64 p.rel,.int .i64 p.lo,.int .i64 p.hi],.pointer (some ⟨za,0,none⟩),.pointer (some ⟨zb,0,none⟩),.pointer (some ⟨zc,0,none⟩)] wx fun e w' =>e= .returned (.bool (pr p))∧Below wx.heap.size wx w'):
  Calls Tryz.prog 78 #[.slice ao n cap,.func (Fn.func 79) #[] #[.pointer (some ⟨za,0,none⟩),.pointer (some ⟨zb,0,none⟩),.pointer (some ⟨zc,0,none⟩)]] w0 fun e w' =>e= .returned (.bool (l.any pr))∧Below w0.heap.size w0 w' :=by
 have M:=Mem.begin hg ⟨0,0⟩
 have HI:Hid (∀ wx,Below w0.heap.size w0 wx→Calls Tryz.prog 119 #[.slice ao n cap,.func (Fn.func 79) #[] #[.pointer (some ⟨za,0,none⟩),.pointer (some ⟨zb,0,none⟩),.pointer (some ⟨zc,0,none⟩)]] wx fun e w' =>e= .returned (.int .i64 (placeV (l.findIdx pr) l.length))∧Below wx.heap.size wx w'):=fun wx hb=>
  ixOptJ (Nat.lt_of_lt_of_le hg hb.size) (hX.below (plainF_firm _) hb) pr za zb zc (fun p hp wy hby=>HC0 p hp wy (hb.trans (hby.mono hb.size)))
 rw[←any_idx]
 generalize placeV (l.findIdx pr) l.length=v at HI ⊢
 clear hg hX HC0
 go_enter Tryz.func78,Tryz.ntmps78
 go_wp2_with (go_at_call 119;with_reducible refine(HI.out _ M.new).mono ?_;rintro e w5 ⟨rfl,hb5⟩;replace M:=M.below hb5;clear hb5)
 go_ret
 exact⟨rfl,M.new⟩
end
end Go.Proofs.YtfahleafppfkaaaGreatDoor
/-
  Teams of join: what one holds; do the newest one's links hold? Printed by jtl.py.
-/
namespace Go.Proofs.YtfahleafppfkaaaGreatDoor
open Go.RowKit
set_option linter.unusedVariables false
set_option linter.unusedSimpArgs false
instance iOneTm:OneI Tryz.prog 48:=⟨⟨by kernel_rfl,_,Tryz.underlying48,rfl⟩⟩
class ZeV (P:Program) (ty:TypeId) (v:outParam Value):Prop where
 zero:(P.info? ty).map (·.zero)=some (some v)
 cells:v.cells= #[v]
instance iZeVInt:ZeV Tryz.prog 3 (.int .i64 0):=⟨by kernel_rfl,rfl⟩
theorem q_vari{P:Program}{dst:Option Tmp}{oty:TypeId}{pos:String}{after:Array Edge}{g:Option (Nat×Bool)}{l:List Value}{ds:List Deferred}{Q:Exit→Act→World→Prop}{K:Act→World→Prop}{At:PS→World→Prop}{b:Nat}{u w:World}{s:PS}{L:List Ent}{ty:Nat}{v:Value}
  (M:Mem At b u w s L)[hT:ZeV P ty v]{F:Nat→List Value}[hd: ∀ z,PutI l dst (.pointer (some ⟨z,0,none⟩)) (F z)](h: ∀ z w',Mem At b u w' s (own z [v] ty::L)→K ⟨(F z).toArray,ds⟩ w'):OWP P ⟨dst,.alloc ty,oty,pos,after,g⟩ ⟨l.toArray,ds⟩ w K Q:=
 owp_of (op_var M ty rfl [v] v hT.cells hT.zero (fun z w' M' =>by rw[(hd z).put];exact h z w' M'))
theorem Mem.ltH{At:PS→World→Prop}{b:Nat}{u w:World}{s:PS}{L:List Ent}{i:Nat}{cs:List Value}{t:TypeId}(M:Mem At b u w s L)(z:Nat)[h:Has L z i cs t]:z<w.heap.size:=M.lt0 h.at_
theorem Mem.cellN{At:PS→World→Prop}{b:Nat}{u w:World}{s:PS}{L:List Ent}{i:Nat}{cs:List Value}{t:TypeId}(M:Mem At b u w s L)(z o:Nat){c:Value}[h:Has L z i cs t][hk:Nth cs o c]:w.cell? ⟨z,o,none⟩=some c:=by rw[(M.own_ (Mem.of_get h.at_)).cell];exact hk.nth
structure Tm (F:Nat→Prop) (w:World) (zg:Nat) (v:GA) (ov:Value) (b:Bok) (rule:Nat) (R:Rul) (l all:List Eve):Prop where
 lt:zg<w.heap.size
 cells:w.rangeAt zg 0 [.slice v.a1 v.n1 v.c1,.slice v.a2 v.n2 v.c2,.int .i64 rule,.slice v.a4 v.n4 v.c4,.slice v.a3 v.n3 v.c3,ov]
 env:Env F w
 far: ∀ b,F b→b<w.heap.size
 types:SlF F w 2 typF v.a1 v.n1 v.c1 b.types
 rules:SlF F w 7 rulF v.a2 v.n2 v.c2 b.rules
 tup:SlF (under w.heap.size) w 5 eveF v.a3 v.n3 v.c3 l
 alls:SlF (under w.heap.size) w 5 eveF v.a4 v.n4 v.c4 all
 okT: ∀ t∈b.types,typOk t
 okR: ∀ x∈b.rules,RulFit x
 okE: ∀ x∈b.rules,x.etype.size≤maxLen
 sub: ∀ x∈l,x∈all
 okA: ∀ x∈all,eveOk x
 fewA:all.length≤120
 book:bookE b=0
 is:b.rules[rule]?=some R
 few:l.length≤R.whens.length
 mis:AllZ (misE b.types R.whens l) l.length
 evA: ∀ x∈all,eventE b.types x.e x.vals=0
section
variable {F:Nat→Prop} {w0:World} {zg:Nat} {v:GA} {ov:Value} {b:Bok} {rule:Nat} {R:Rul} {l all:List Eve}
theorem Tm.below{w' :World}(h:Tm F w0 zg v ov b rule R l all)(hb:Below w0.heap.size w0 w'):Tm F w' zg v ov b rule R l all:=
 {h with
  lt:=Nat.lt_of_lt_of_le h.lt hb.size
  cells:=keep_range h.lt h.cells w' hb
  env:=h.env.below hb
  far:=fun k hk=>Nat.lt_of_lt_of_le (h.far k hk) hb.size
  types:=h.types.below typF_firm hb
  rules:=h.rules.below rulF_firm hb
  tup:=(h.tup.below eveF_firm hb).wide eveF_firm (fun b hb2 _=>Nat.lt_of_lt_of_le hb2 hb.size)
  alls:=(h.alls.below eveF_firm hb).wide eveF_firm (fun b hb2 _=>Nat.lt_of_lt_of_le hb2 hb.size)}
theorem Tm.rl(h:Tm F w0 zg v ov b rule R l all):rule<b.rules.length∧ ∀ hr:rule<b.rules.length,b.rules[rule]=R:=by
 obtain⟨h1,h2⟩:=List.getElem?_eq_some_iff.1 h.is
 exact⟨h1,fun _=>h2⟩
theorem Tm.zero(h:Tm F w0 zg v ov b rule R l all):ruleE b.types R=0:=by
 obtain⟨h1,h2⟩:=h.rl
 have:=rule_zero h.book h1
 rwa[h2 h1]at this
theorem rule_few{ts:List Typ}{R:Rul}(hz:ruleE ts R=0):R.whens.length≤3∧R.links.length≤6:=by
 unfold ruleE at hz
 by_cases h1:freeE R.name≠0
 ·rw[if_pos h1]at hz;exact absurd hz h1
 rw[if_neg h1]at hz
 by_cases h2:sizeB R=true
 ·rw[if_pos h2]at hz;exact absurd hz (by decide)
 simp[sizeB]at h2
 omega
theorem Tm.rule0(h:Tm F w0 zg v ov b rule R l all): ∃ (cr or:Nat) (b1:Option Addr) (m1 e1:Nat) (b2:Option Addr) (m2 e2:Nat) (b3:Option Addr) (m3 e3:Nat) (b4:Option Addr) (m4 e4:Nat) (b6:Option Addr) (m6 e6:Nat),
  (∀ wx,(Instr.indexAt 23 (.slice v.a2 v.n2 v.c2) (.int .i64 rule)).run Tryz.prog wx= .ok (.pointer (some ⟨cr,or,none⟩)) wx)∧
  (∀ wx,Below w0.heap.size w0 wx→wx.rangeAt cr or [.string R.name,.slice b1 m1 e1,.slice b2 m2 e2,.slice b3 m3 e3,.slice b4 m4 e4,.string R.etype,.slice b6 m6 e6])∧
  SlF F w0 18 patF b1 m1 e1 R.whens∧SlF F w0 3 lnkF b4 m4 e4 R.links:=by
 obtain⟨h1,h2⟩:=h.rl
 obtain⟨cr,or,rowr,hixr, -,hrrr,hwr⟩:=SlF.rowAt (P:=Tryz.prog) h.rules rulF_firm Tryz.underlying23 size_rul (i:=rule) h1
 obtain⟨b1,m1,e1,b2,m2,e2,b3,m3,e3,b4,m4,e4,b6,m6,e6,er,Y1,Y2,Y3,Y4, -⟩:=hrrr
 subst er
 rw[h2 h1]at Y1 Y4 hwr
 exact⟨cr,or,b1,m1,e1,b2,m2,e2,b3,m3,e3,b4,m4,e4,b6,m6,e6,hixr,fun wx hb=>(hwr wx hb).1,Y1,Y4⟩
theorem Tm.cell(h:Tm F w0 zg v ov b rule R l all){i:Nat}{c:Value}(hi:[Value.slice v.a1 v.n1 v.c1,.slice v.a2 v.n2 v.c2,.int .i64 rule,.slice v.a4 v.n4 v.c4,.slice v.a3 v.n3 v.c3,ov][i]?=some c): ∀ wx,Below w0.heap.size w0 wx→wx.cell? ⟨zg,i,none⟩=some c:=keep_cell h.lt (by have:=h.cells i c hi;simpa using this)
set_option maxRecDepth 8000 in
set_option maxHeartbeats 8000000 in
theorem optFitJ(G:Tm F w0 zg v ov b rule R l all)(o:Opt)(zt zi zj i j:Nat)(hi:i<l.length)(hj:j<l.length)(ht:zt<w0.heap.size)(h0:w0.cell? ⟨zt,0,none⟩=some (.pointer (some ⟨zg,0,none⟩)))(hzi:zi<w0.heap.size)(h1:w0.cell? ⟨zi,0,none⟩=some (.int .i64 i))(hzj:zj<w0.heap.size)(h2:w0.cell? ⟨zj,0,none⟩=some (.int .i64 j))(ho:optE o.rel o.lo o.hi=0):
  Calls Tryz.prog 79 #[.agg #[.int .i64 o.rel,.int .i64 o.lo,.int .i64 o.hi],.pointer (some ⟨zt,0,none⟩),.pointer (some ⟨zi,0,none⟩),.pointer (some ⟨zj,0,none⟩)] w0 fun e w' =>e= .returned (.bool (fitB o.rel o.lo o.hi (spanX l[i]).1 (spanX l[i]).2 (spanX l[j]).1 (spanX l[j]).2))∧Below w0.heap.size w0 w' :=by
 have M:=Mem.begin G.lt ⟨0,0⟩
 have HT:=Lib.hid (keep_cell ht h0)
 have HI:=Lib.hid (keep_cell hzi h1)
 have HJ:=Lib.hid (keep_cell hzj h2)
 have HG4:=Lib.hid (G.cell (i:=4) rfl)
 obtain⟨c1,o1,row1,hix1, -,hrr1,hw1⟩:=SlF.rowAt (P:=Tryz.prog) G.tup eveF_firm Tryz.underlying26 size_eve (i:=i) hi
 obtain⟨p1,q1,s1,ea1, -⟩:=hrr1
 subst ea1
 obtain⟨c2,o2,row2,hix2, -,hrr2,hw2⟩:=SlF.rowAt (P:=Tryz.prog) G.tup eveF_firm Tryz.underlying26 size_eve (i:=j) hj
 obtain⟨p2,q2,s2,ea2, -⟩:=hrr2
 subst ea2
 have HA:Hid (∀ wx,Below w0.heap.size w0 wx→wx.rangeAt c1 (o1+2) [.int .i64 l[i].e.start,.int .i64 l[i].e.stop]):=fun wx hb=>range_sub (hw1 wx hb).1 2 _ rfl
 have HB:Hid (∀ wx,Below w0.heap.size w0 wx→wx.rangeAt c2 (o2+2) [.int .i64 l[j].e.start,.int .i64 l[j].e.stop]):=fun wx hb=>range_sub (hw2 wx hb).1 2 _ rfl
 have hs:bothE l[i].e.start l[i].e.stop l[j].e.start l[j].e.stop=0:=bothE_of (span_of (G.evA _ (G.sub _ (List.getElem_mem hi)))) (span_of (G.evA _ (G.sub _ (List.getElem_mem hj))))
 unfold spanX
 have HF:Hid (∀ wx,Below w0.heap.size w0 wx→Calls Tryz.prog 80 #[.agg #[.int .i64 o.rel,.int .i64 o.lo,.int .i64 o.hi],.agg #[.int .i64 l[i].e.start,.int .i64 l[i].e.stop],.agg #[.int .i64 l[j].e.start,.int .i64 l[j].e.stop]] wx fun e w' =>e= .returned (.tuple #[.bool (fitB o.rel o.lo o.hi l[i].e.start l[i].e.stop l[j].e.start l[j].e.stop),.int .i64 0])∧Below wx.heap.size wx w'):=fun wx hb=>fits_any _ _ _ _ _ _ _ wx ho hs
 dsimp only
 generalize fitB o.rel o.lo o.hi l[i].e.start l[i].e.stop l[j].e.start l[j].e.stop=fb at HF ⊢
 generalize l[i]=x at HA HF
 generalize l[j]=y at HB HF
 clear G hi hj ht h0 hzi h1 hzj h2 ho hs hw1 hw2
 go_enter Tryz.func79,Tryz.ntmps79
 go_wp2_with (with_reducible (refine wB (L:=[]) M ?_;clear M;intro za w1 M))
 ((refine wp_region_calm M (by kernel_rfl) (by kernel_rfl) ?_);(repeat((with_reducible refine c_list rfl fun K hK=>?_);(first|(refine c_load (l' :=?_) ⟨_,M⟩ (fun w M=>?_) ?_;rotate_left;focus((first|(refine q_cellat (HT.out _ M.new) ?_)|(refine q_cellat (HI.out _ M.new) ?_)|(refine q_cellat (HJ.out _ M.new) ?_)|(refine q_cellat (HG4.out _ M.new) ?_)|(refine q_at (HA.out _ M.new) (by rfl) ?_)|(refine q_at (HB.out _ M.new) (by rfl) ?_)|refine q_all M (by rfl) ?_);refine⟨rfl,?_⟩;with_reducible rfl))|(refine c_call (n:=80) (args:=?_) (v:=?_) (fun w=>?_) (fun w M=>?_) ?_;rotate_left 2;(focus(go_simp;try with_reducible rfl));(focus(with_reducible refine(HF.out _ M.new).mono ?_;rintro e w5 ⟨rfl,hb5⟩;refine⟨?_,M.below hb5⟩;with_reducible rfl)))|(refine c_pure (v:=?_) (fun w=>?_) ?_;rotate_left;focus(go_simp;try with_reducible rfl)));(try go_simp);with_reducible refine hK _ ?_;clear hK K));(refine wpQuiet_nil ?_);clear M;intro w M)
 go_wp2_with (with_reducible (first|refine wq M ?_|(refine wS M ?_;clear M;intro w M)|(refine wV M ?_;clear M;intro z w M)|(refine wR M ?_;clear M;intro q w M)))
 go_ret
 exact⟨rfl,M.new⟩
set_option maxRecDepth 8000 in
set_option maxHeartbeats 8000000 in
theorem placeJ{g:Nat}(hg:g<w0.heap.size){b1:Option Addr}{m1 e1 zr:Nat}{wh:List Pat}(s:ByteArray)(Y1:SlF F w0 18 patF b1 m1 e1 wh)(hr:zr<w0.heap.size)(h3:w0.cell? ⟨zr,1,none⟩=some (.slice b1 m1 e1)):
  Calls Tryz.prog 75 #[.string s,.pointer (some ⟨zr,0,none⟩)] w0 fun e w' =>e= .returned (.int .i64 (placeV (patI wh s) wh.length))∧Below w0.heap.size w0 w' :=by
 have M:=Mem.begin hg ⟨0,0⟩
 have HR1:=Lib.hid (keep_cell hr h3)
 have HIX:Hid (∀ wx zs,Below w0.heap.size w0 wx→zs<wx.heap.size→wx.cell? ⟨zs,0,none⟩=some (.string s)→Calls Tryz.prog 76 #[.slice b1 m1 e1,.func (Fn.func 77) #[] #[.pointer (some ⟨zs,0,none⟩)]] wx fun e w' =>e= .returned (.int .i64 (placeV (patI wh s) wh.length))∧Below wx.heap.size wx w'):=fun wx zs hb hz hc=>
  ixPatJ hz (Y1.below patF_firm hb) (fun p=>sameS p.var s) zs (fun p _ so sn sc wy hby=>varEqJ (Nat.lt_of_lt_of_le hz hby.size) p so sn sc zs s (Nat.lt_of_lt_of_le hz hby.size) (keep_cell hz hc wy hby))
 generalize placeV (patI wh s) wh.length=pv at HIX ⊢
 clear hg Y1 hr h3
 go_enter Tryz.func75,Tryz.ntmps75
 go_wp2_with (first|(with_reducible (first|(refine w_ (q_boxv M ?_);clear M;intro zs w M)|refine wC (HR1.out _ M.new) ?_|refine w_ (q_funcs _ ?_)))|(go_at_call 76;with_reducible refine(HIX.out _ _ M.new (M.lt0 (i:=0) rfl) (M.cell0 (i:=0) rfl)).mono ?_;rintro e w5 ⟨rfl,hb5⟩;replace M:=M.below hb5;clear hb5))
 go_ret
 exact⟨rfl,M.new⟩
theorem max_if(a b:Nat):(if(a:Int)<(b:Int)then(b:Int)else(a:Int))=((max a b:Nat):Int):=by split<;>omega
theorem newL_skip{wh:List Pat}{l:List Eve}{k:Lnk}(h:bothB wh k=false):newL wh l k=true:=by unfold newL;rw[h];rfl
theorem newL_old{wh:List Pat}{l:List Eve}{k:Lnk}(h:max (patI wh k.left) (patI wh k.right)+1≠l.length):newL wh l k=true:=by unfold newL;simp[h]
theorem newL_new{wh:List Pat}{l:List Eve}{k:Lnk}(h0:bothB wh k=true)(h:max (patI wh k.left) (patI wh k.right)+1=l.length):newL wh l k=spansB wh l k:=by unfold newL;rw[h0];simp[h]
end
end Go.Proofs.YtfahleafppfkaaaGreatDoor
